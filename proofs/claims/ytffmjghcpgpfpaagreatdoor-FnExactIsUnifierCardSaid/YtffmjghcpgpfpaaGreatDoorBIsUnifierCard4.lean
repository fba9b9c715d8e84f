/-
  Part of a proof: Fi, Fj, Sw, Sw2, Sw3, Sw4, Zt, Bw, As, Ot, Sc, Lc, Sf, Bf, Rl, Rk, M6, Ky, By, Bs, Ka, Kb, Mo, Sr, Bg, Dq.
-/
import Derived.Test.YtffmjghcpgpfpaaGreatDoorBIsUnifierCard0
import Derived.Test.YtffmjghcpgpfpaaGreatDoorBIsUnifierCard1
import Derived.Test.YtffmjghcpgpfpaaGreatDoorBIsUnifierCard2
import Derived.Test.YtffmjghcpgpfpaaGreatDoorBIsUnifierCard3
import Derived.Lib.AppendStr
import Derived.Laws.BytesString
set_option linter.unusedSimpArgs false
set_option linter.unusedVariables false
namespace Go.Proofs.YtffmjghcpgpfpaaGreatDoor
open Go.RowKit
section
variable {e:Env} {ops:Array Oper} {K:St->Prop}
def QN (e:Env) (U:Nat->Prop) (w0:World) (S0:Nat->Prop) (nt:Nat) (K:St->Prop):Exit->Act->World->Prop:=fun ex a w=>ex=.normal∧∃ σ',K σ'∧SimE e U w0 S0 nt σ' a w
def AnyOk (e:Env) (ops:Array Oper) (K:St->Prop) (f:Nat) (listed:Array Bool) (σ:St):Prop :=
 e.Ok->∀ (U:Nat->Prop) (w0:World) (S0:Nat->Prop) (nt:Nat) (a:Act) (w:World),(∀ o∈ops.toList,∀ d,o.dst=some d->d < nt)->SimE e U w0 S0 nt σ a w->wpAny e.P .any ops (QN e U w0 S0 nt K) f listed a w
theorem anyOk_runsT {ds:List (Option Nat)} {f:Nat} {listed:Array Bool} {σ:St} (hds:ops.toList.map (·.dst)=ds) (h:RunsT e ds ops K f listed σ):AnyOk e ops K f listed σ:=by
 subst hds
 exact fun he U w0 S0 nt a w hd hs=>RunsT_wp he (fun a w σ' hK hs'=>⟨rfl,σ',hK,hs'⟩) hd f listed σ a w hs h
def apartB (ops:Array Oper) (listed:Array Bool) (i:Nat):Bool:=(List.range ops.size).all fun j=>j==i || (listed.getD j true || match ops[i]?,ops[j]? with
 | some oi,some oj=>oj.after.any (fun e=>Region.binds .any e && e.on==i) || oi.apart ops oj
 | _,_=>true)
def noSel (ops:Array Oper):Bool:=ops.toList.all fun o=>match o.op with
 | .select _ _=>false
 | _=>true
theorem anyOk_first {f i d:Nat} {listed:Array Bool} {σ:St} {o:Oper} {α:A} (hi:ops[i]?=some o) (hdst:o.dst=some d) (hg:o.guard=none) (hsel:noSel ops=true) (hap:apartB ops listed i=true) (hr:(Region.ready .any ops listed).contains i=true)
  (hp:e.Ok->∀ (U:Nat->Prop) (w0:World) (S0:Nat->Prop) (nt:Nat) (a:Act) (w:World) (S:Nat->Prop) (L:Lay),Sim e U w0 S0 nt σ a w S L->∃ v,(∀ w',(execOp a.eval o).run e.P w'=.ok (.value v) w')∧ARel w S L α v)
  (hK:AnyOk e ops K f (listed.setIfInBounds i true) ⟨(d,α)::σ.s,σ.m⟩):AnyOk e ops K (f+1) listed σ:=by
 intro he U w0 S0 nt a w hd ⟨S,L,h⟩
 obtain ⟨v,hv,hrel⟩:=hp he U w0 S0 nt a w S L h
 have hmem:o∈ops.toList:=List.mem_of_getElem? (by simpa using hi)
 refine wpAny_first (oi:=o) (v:=v) hi (fun j oj cs b hj hs=>?_) (fun c a w hq=>?_) f listed a w (fun j oj hj hne hl hno=>?_) ?_ ?_ ?_
 ·have:=List.all_eq_true.1 hsel oj (List.mem_of_getElem? (by simpa using hj))
  rw [hs] at this
  cases this
 ·have:=hq.1
  cases this
 ·have hjs:=(Array.getElem?_eq_some_iff.1 hj).1
  have:=List.all_eq_true.1 hap j (List.mem_range.2 hjs)
  simp only [hi,hj,Bool.or_eq_true,beq_iff_eq,List.any_eq_true,Array.any_eq_true',Bool.and_eq_true] at this
  rcases this with h1 | h1 | h1 | h1
  ·exact absurd h1 hne
  ·rw [hl] at h1;cases h1
  ·obtain ⟨ed,h2,h3,h4⟩:=h1
   exact absurd h4 (hno ed h2 h3)
  ·exact h1
 ·simpa using hr
 ·exact .inl ⟨by simp [Region.wanted,hg],hv⟩
 ·have h2:SimE e U w0 S0 nt ⟨(d,α)::σ.s,σ.m⟩ (a.put o.dst v) w:=⟨S,L,by
   have:=h.put (α:=α) hrel (hd o hmem)
   rwa [hdst,setA,<- hdst] at this⟩
  exact hK he U w0 S0 nt (a.put o.dst v) w hd h2
end
section
variable {e:Env} {K:St->Prop} {mask:Nat} {Q:PX->St->Prop} {s:List (Nat × A)} {m:List (Nat × Bk)}
theorem pwp_anyOk {id:Nat} {ops:Array Oper} {σ:St} (hK:AnyOk e ops (TrimK mask Q) ops.size (Array.replicate ops.size false) σ):pwp e mask (.region id ops true) σ Q:=fun he U w0 S0 nt a w hok hs=>by
 obtain ⟨S,L,h1⟩:=hs.drew he
 refine Code.wp_mono (fun ex a' w' hq=>?_) (wp_region_any he.mixed (hK he U w0 S0 nt a { w with drawn:=w.drawn+1 } (okDst hok) ⟨S,L,h1⟩))
 obtain ⟨rfl,σ',k1,k2⟩:=hq
 exact ⟨_,k1,k2.weak (fun t=>gs_trimS mask t σ'.s) (fun _ _ h=>h)⟩
theorem gF0 {id:Nat} {l:List Oper} (hK:AnyOk e l.toArray (TrimK mask Q) l.length (Array.replicate l.length false) ⟨s,m⟩):pwp e mask (.region id l.toArray true) ⟨s,m⟩ Q:=pwp_anyOk (ops:=l.toArray) (by simpa using hK)
theorem gFT {ds:List (Option Nat)} {ops:Array Oper} {f:Nat} {listed:Array Bool} {σ:St} (h:RunsT e ds ops K f listed σ) (hds:ops.toList.map (·.dst)=ds:=by exact rfl):AnyOk e ops K f listed σ:=anyOk_runsT hds h
theorem gFm {ops:Array Oper} {f d ty:Nat} {p:String} {ed:Array Edge} {x:Operand} {α:A} {listed:Array Bool} (i:Nat) (hK:AnyOk e ops K f (listed.setIfInBounds i true) ⟨(d,α)::s,m⟩)
  (hi:ops[i]?=some ⟨some d,.move x,ty,p,ed,none⟩:=by simp only [List.getElem?_toArray,List.getElem?_cons_succ,List.getElem?_cons_zero];exact rfl) (hx:evA s x=α:=by exact snv) (hsel:noSel ops=true:=by decide +kernel) (hap:apartB ops listed i=true:=by decide +kernel) (hr:(Region.ready .any ops listed).contains i=true:=by decide +kernel):AnyOk e ops K (f+1) listed ⟨s,m⟩:=by
 subst hx
 exact anyOk_first (o:=⟨some d,.move x,ty,p,ed,none⟩) hi rfl rfl hsel hap hr (fun _ U w0 S0 nt a w S L h=>⟨a.eval x,fun w2=>by simp [execOp],h.eval x⟩) hK
theorem gFs {ops:Array Oper} {f d t ty cap ety sz:Nat} {p:String} {ed:Array Edge} {x:Operand} {lo hi:Option Operand} {a:Option Addr} {rows:List (List C)} {listed:Array Bool} (i k l h:Nat) (hb:l<=h∧h<=rows.length) (hK:AnyOk e ops K f (listed.setIfInBounds i true) ⟨(d,.d (.one (.lit (sliced a l h cap sz))))::s,m⟩)
  (hi':ops[i]?=some ⟨some d,.slice t x lo hi none,ty,p,ed,none⟩:=by simp only [List.getElem?_toArray,List.getElem?_cons_succ,List.getElem?_cons_zero];exact rfl)
  (hx:nrm m (evA s x)=.buf k:=by exact sfx) (hm:gm m k=some (.buf (some (a,cap)) ety sz rows):=by exact snv) (ht:elemT e.P t=some sz:=by exact snx)
  (hlo:loA (lo.map (evA s))=some (l:Int):=by exact sfx) (hhi:hiA rows.length (hi.map (evA s))=some (h:Int):=by exact sfx)
  (hsel:noSel ops=true:=by decide +kernel) (hap:apartB ops listed i=true:=by decide +kernel) (hr:(Region.ready .any ops listed).contains i=true:=by decide +kernel):AnyOk e ops K (f+1) listed ⟨s,m⟩:=by
 refine anyOk_first (o:=⟨some d,.slice t x lo hi none,ty,p,ed,none⟩) hi' rfl rfl hsel hap hr (fun _ U w0 S0 nt ac w S L hS=>⟨sliced a l h cap sz,fun w'=>?_,by simp [ARel,DRel,Rep]⟩) hK
 have hx':=nrm_rel hS.cls (hS.eval x)
 simp only at hx'
 rw [hx] at hx'
 have hx':ac.eval x=L.v k:=hx'
 obtain ⟨hpl,_,_,hbuf⟩:=hS.cls.own k _ hm
 have hv:L.v k=.slice a rows.length cap:=hpl (a,cap) rfl
 have hcap:rows.length<=cap:=by
  rcases hbuf with ⟨h4,_⟩ | ⟨g,cap',cur,h4,_,_,_,_,h5,_⟩
  ·rw [h4];exact Nat.zero_le _
  ·rw [hv] at h4;injection h4 with _ _ h4;rw [h4];exact h5
 have hel:∃ ety i,e.P.underlying t=some (.slice ety)∧e.P.info? ety=some i∧i.size=sz:=by
  unfold elemT at ht
  split at ht
  ·rename_i ety hu
   simp only [Option.map_eq_some_iff] at ht
   obtain ⟨i,hi,hs⟩:=ht
   exact ⟨ety,i,hu,hi,hs⟩
  ·cases ht
 obtain ⟨el,inf,hu,hinf,hsz⟩:=hel
 have hlo:=loA_spec (w:=w) (S:=S) (L:=L) (ρv:=ac.eval) hlo (fun y hy=>hS.eval y)
 have hhi:=hiA_spec (w:=w) (S:=S) (L:=L) (ρv:=ac.eval) hhi (fun y hy=>hS.eval y)
 have hbnd:(Instr.sliceBounds true rows.length cap (lo.map ac.eval) (hi.map ac.eval) none).run e.P w'=.ok (l,h,cap) w':=by
  have b2:(h:Int)<=(cap:Int):=by omega
  have b5:(l:Int)<=(rows.length:Int):=by omega
  rcases hlo with ⟨rfl,e1⟩ | e1 <;> rcases hhi with ⟨rfl,e2⟩ | e2
  ·have e1:l=0:=by omega
   have e2:h=rows.length:=by omega
   subst e1 e2
   simp [Instr.sliceBounds,Result.andThen]
  ·have e1:l=0:=by omega
   subst e1
   simp [Instr.sliceBounds,e2,Result.andThen,run_sliceBound,b2]
  ·have e2:h=rows.length:=by omega
   subst e2
   simp [Instr.sliceBounds,e1,Result.andThen,run_sliceBound,b5]
  ·have b4:(l:Int)<=(h:Int):=by omega
   simp [Instr.sliceBounds,e1,e2,Result.andThen,run_sliceBound,b2,b4,hb.1]
 simp only [execOp,Sem.run_bind,hx',hv,Instr.sliceAt,Instr.slice,underlying,run_program,Result.andThen_ok,hu,Sem.run_pure,Option.map_none,hbnd,sizeOf,typeInfo,hinf,hsz,sliced]
end
end Go.Proofs.YtffmjghcpgpfpaaGreatDoor
namespace Go.Proofs.YtffmjghcpgpfpaaGreatDoor
open Go.RowKit
section
variable {e:Env} {K:St->Prop} {s:List (Nat × A)} {m:List (Nat × Bk)}
theorem gFb {ops:Array Oper} {f d ty t t':Nat} {p:String} {ed:Array Edge} {op:BinOp} {x y:Operand} {a b v:Value} {listed:Array Bool} (i:Nat) (hK:AnyOk e ops K f (listed.setIfInBounds i true) ⟨(d,.d (.one (.lit v)))::s,m⟩)
  (hi:ops[i]?=some ⟨some d,.binOp op t x y t',ty,p,ed,none⟩:=by simp only [List.getElem?_toArray,List.getElem?_cons_succ,List.getElem?_cons_zero];exact rfl) (hx:evA s x=.d (.one (.lit a)):=by exact snv) (hy:evA s y=.d (.one (.lit b)):=by exact snv) (hv:binT e.P op t a b=some v:=by exact sfv) (hsel:noSel ops=true:=by decide +kernel) (hap:apartB ops listed i=true:=by decide +kernel) (hr:(Region.ready .any ops listed).contains i=true:=by decide +kernel):AnyOk e ops K (f+1) listed ⟨s,m⟩:=by
 refine anyOk_first (o:=⟨some d,.binOp op t x y t',ty,p,ed,none⟩) hi rfl rfl hsel hap hr (fun _ U w0 S0 nt ac w S L h=>⟨v,fun w2=>?_,by simp [ARel,DRel,Rep]⟩) hK
 have h1:=h.eval x
 have h2:=h.eval y
 rw [hx] at h1
 rw [hy] at h2
 have h1:=lit_val h1
 have h2:=lit_val h2
 have:=binT_run (x:=x) (y:=y) hv w2
 simp only [execOp,h1,h2]
 rw [Sem.run_bind,this]
 rfl
theorem gFi {ops:Array Oper} {f d ty t k ety sz:Nat} {p:String} {ed:Array Edge} {x y:Operand} {o:Option (Option Addr × Nat)} {rows:List (List C)} {kk:IntKind} {listed:Array Bool} (i j:Nat) (hlt:j < rows.length) (hK:AnyOk e ops K f (listed.setIfInBounds i true) ⟨(d,.row k j sz 0)::s,m⟩)
  (hi:ops[i]?=some ⟨some d,.indexAddr t x y,ty,p,ed,none⟩:=by simp only [List.getElem?_toArray,List.getElem?_cons_succ,List.getElem?_cons_zero];exact rfl) (hx:nrm m (evA s x)=.buf k:=by exact sfx) (hy:evA s y=.d (.one (.lit (.int kk (j:Int)))):=by exact snv) (hm:gm m k=some (.buf o ety sz rows):=by exact snv) (ht:elemT e.P t=some sz:=by exact snx) (hsel:noSel ops=true:=by decide +kernel) (hap:apartB ops listed i=true:=by decide +kernel) (hr:(Region.ready .any ops listed).contains i=true:=by decide +kernel):AnyOk e ops K (f+1) listed ⟨s,m⟩:=by
 refine anyOk_first (o:=⟨some d,.indexAddr t x y,ty,p,ed,none⟩) hi rfl rfl hsel hap hr (fun _ U w0 S0 nt ac w S L h=>?_) hK
 have hx':=nrm_rel h.cls (h.eval x)
 simp only at hx'
 rw [hx] at hx'
 have hx':ac.eval x=L.v k:=hx'
 have hy':=h.eval y
 rw [hy] at hy'
 have hy':=lit_val hy'
 obtain ⟨_,_,_,h4⟩:=h.cls.own k _ hm
 rcases h4 with ⟨h4,_⟩ | ⟨g,cap,cur,hv,hcp,_⟩
 ·rw [h4] at hlt;simp at hlt
 ·refine ⟨.pointer (some ⟨g,j * sz,none⟩),fun w2=>?_,g,?_,rfl⟩
  ·have:=indexBuf_run (P:=e.P) (j:=(j:Int)) ht (Int.natCast_nonneg _) (by rw [Int.toNat_natCast];exact hlt) (g:=g) (cap:=cap) (k:=kk) (w:=w2)
   rw [Int.toNat_natCast] at this
   simp [execOp,hy',hx',hv,this]
  ·rw [hv];simp only [vblk];rw [if_neg (by omega)]
end
end Go.Proofs.YtffmjghcpgpfpaaGreatDoor
namespace Go.Proofs.YtffmjghcpgpfpaaGreatDoor
open Go.RowKit
def RBuf (a:Option Addr) (cap:Nat) (us:List Tm) (r:List D) (pm:List Bk):Prop:=r=[]∧pm=[.buf (some (a,cap)) 46 4 (encTms us)]
theorem tms_set (l:List Tm) (i:Nat) (t:Tm):(encTms l).set i (encTm t)=encTms (l.set i t):=by
 rw [encTms_eq,encTms_eq,List.map_set]
theorem gTPe {X:Prop} {P:Program} {ts:List RS} {R:List D->List Bk->Prop} {σ:St} {r:List D} {pm:List Bk} (ks:List Nat) (hR:R r pm) (hx:retQP P ts R .normal σ->X:=by first | exact fun h=>h | exact fun h=>⟨_,Wk.refl _,h⟩) (hr:resD P σ ts=some r:=by exact sfy) (hg:getM σ.m ks=some pm:=by exact sny) (hn:ks.Nodup:=by decide) (hp:pm.all pinned=true:=by simp only [pz,↓reduceIte,Nat.reduceEqDiff,Nat.reduceAdd,Nat.reduceSub,Nat.reduceMul,Nat.reduceLeDiff,Nat.reduceBEq,Bool.false_eq_true,decide_true,decide_false,Int.reduceLE,Int.reduceToNat,Int.reduceLT,Int.reduceEq,eq_self,Nat.reduceShiftRight,Nat.reduceAnd,Nat.reduceBneDiff]):X :=
 hx ⟨r,ks,pm,hg,hn,hp,hR,resOk_of hr⟩
theorem un_intK:intKindT (Tryz.prog.underlying 3)=some .i64:=by kernel_rfl
theorem un_uintK:Tryz.prog.underlying 168=some (.int .u64):=by kernel_rfl
theorem cv_intU (j:Int):convX j (some (.int .u64)) (some .i64)=some (.d (.one (.lit (.int .i64 (IntKind.i64.wrap j))))):=rfl
theorem toNat_one:Int.toNat 1=1:=rfl
theorem half_of (i j:Nat) (h:i+j < 4611686018427387904):∃ s m:Nat,IntKind.i64.wrap ((i:Int)+(j:Int))=(s:Int)∧IntKind.u64.wrap (s:Int)=(s:Int)∧(s:Int).fdiv (2 ^ (min 1 64))=(m:Int)∧IntKind.i64.wrap (m:Int)=(m:Int)∧m=(i+j) / 2:=by
 refine ⟨i+j,(i+j) / 2,wrapN (by omega) (by omega) (by omega),?_,?_,IntWalk.i64_in _ ⟨by omega,by omega⟩,rfl⟩
 ·simp only [IntKind.wrap,IntKind.signed,IntKind.bits]
  simp
  omega
 ·simp only [show min 1 64=1 from rfl,Int.pow_succ,Int.pow_zero,Int.one_mul]
  rw [Int.fdiv_eq_ediv_of_nonneg _ (by decide)]
  omega
set_option maxHeartbeats 8000000 in
set_option maxRecDepth 100000 in
theorem conP_swap (P X Z Y Q:List Tm) (hl:X.length=Y.length) {A B n N:Nat} (hA:A=P.length) (hB:B=P.length+X.length+Z.length) (hn:n=X.length) (hN:N=P.length+X.length+Z.length+Y.length+Q.length) (hmx:N<=4000000) (a:Option Addr) (cap:Nat) :
  ConP e0 272 [.one (.lit (.slice a N cap)),.one (.lit (.int .i64 A)),.one (.lit (.int .i64 B)),.one (.lit (.int .i64 n)),.one (.fn 82 [])] [.buf (some (a,cap)) 46 4 (encTms (P++X++Z++Y++Q))] (RBuf a cap (P++Y++Z++X++Q)):=by
 refine gIP (ts:=[]) [1000] 9231 Tryz.func272 ?_
 (have F:=@tmz;refine gG ?_;clear F)
 (have F:=@tmz;refine gL (ι:=Nat × List Tm) [10,13] [1000] (fun x=>[(10,.d (.one (.lit (.int .i64 (x.1:Int)))))]) (fun x=>[(1000,.buf (some (a,cap)) 46 4 (encTms x.2))]) (fun x=>x.1<=n∧x.2=swR P X Z Y Q x.1) (fun x=>n - x.1) ((0,P++X++Z++Y++Q)) (⟨Nat.zero_le _,(swR_zero P X Z Y Q).symm⟩) (fun x hx=>?_);clear F)
 obtain ⟨i,us⟩:=x
 obtain ⟨hi,hus⟩:=hx
 simp only at hi hus
 dsimp only
 by_cases hlt:i < n
 rotate_left
 ·obtain rfl:i=n:=by omega
  have q1:((i:Int) < (i:Int))=False:=eq_false (by omega)
  rw [hn,swR_all hl] at hus
  subst hus
  (have F:=ai @q1 @tmz;refine gG ?_;clear F)
  first | exact (have F:=@e0P;gTPe (R:=RBuf a cap (P++Y++Z++X++Q)) [1000] ⟨rfl,rfl⟩) | exact (have F:=@e0P;gTP (R:=RBuf a cap (P++Y++Z++X++Q)) [1000] ⟨rfl,rfl⟩)
 have q1:((i:Int) < (n:Int))=True:=eq_true (by omega)
 obtain ⟨x,hx⟩:∃ t,X[i]?=some t:=⟨_,List.getElem?_eq_getElem (by omega)⟩
 obtain ⟨y,hy⟩:∃ t,Y[i]?=some t:=⟨_,List.getElem?_eq_getElem (by omega)⟩
 obtain ⟨g1,g2,g3⟩:=swR_get (P:=P) (Z:=Z) (Q:=Q) hl hx hy
 have hul:us.length=N:=by rw [hus,swR_len i hl,hN]
 rw [<- hus] at g1 g2 g3
 rw [<- hB] at g2 g3
 rw [<- hA] at g1 g3
 obtain ⟨p,hp⟩:∃ p,p=A+i:=⟨_,rfl⟩
 obtain ⟨q,hq⟩:∃ q,q=B+i:=⟨_,rfl⟩
 rw [<- hp] at g1 g3
 rw [<- hq] at g2 g3
 have w1:IntKind.i64.wrap ((A:Int)+(i:Int))=(p:Int):=wrapN (by omega) (by omega) (by omega)
 have w2:IntKind.i64.wrap ((B:Int)+(i:Int))=(q:Int):=wrapN (by omega) (by omega) (by omega)
 have w3:=wrap1 (k:=i) (by omega)
 have l1:p < N:=by omega
 have l2:q < N:=by omega
 have hls:∀ k (t:Tm),(us.set k t).length=N:=fun k t=>by rw [List.length_set,hul]
 (have F:=ai @q1 @tmz;have NN:StopAt 3:=trivial;refine gGn ?_;clear F NN)
 obtain ⟨z,g4⟩:∃ z,(us.set p y)[q]?=some z:=⟨_,List.getElem?_eq_getElem (by rw [List.length_set];omega)⟩
 refine gF0 ?_
 refine gFm 0 ?_
 refine gFm 1 ?_
 refine gFm 2 ?_
 refine (have F:=(ai q1 (ai w1 (ai w2 (ai l1 (ai l2 (ai hul (ai g1 (ai g2 (ai g4 (ai hls (ai @encTms_len (ai @tms_set tmz))))))))))));gFb 3 ?_)
 refine gFm 4 ?_
 refine gFm 5 ?_
 refine gFm 6 ?_
 refine (have F:=(ai q1 (ai w1 (ai w2 (ai l1 (ai l2 (ai hul (ai g1 (ai g2 (ai g4 (ai hls (ai @encTms_len (ai @tms_set tmz))))))))))));gFb 7 ?_)
 refine gFm 8 ?_
 refine gFm 9 ?_
 refine gFm 10 ?_
 refine (have F:=(ai q1 (ai w1 (ai w2 (ai l1 (ai l2 (ai hul (ai g1 (ai g2 (ai g4 (ai hls (ai @encTms_len (ai @tms_set tmz))))))))))));gFb 11 ?_)
 refine (have F:=(ai q1 (ai w1 (ai w2 (ai l1 (ai l2 (ai hul (ai g1 (ai g2 (ai g4 (ai hls (ai @encTms_len (ai @tms_set tmz))))))))))));gFi (rows:=encTms us) 12 q (by rw [encTms_len];omega) ?_)
 refine gFm 14 ?_
 refine gFm 15 ?_
 refine gFm 16 ?_
 refine (have F:=(ai q1 (ai w1 (ai w2 (ai l1 (ai l2 (ai hul (ai g1 (ai g2 (ai g4 (ai hls (ai @encTms_len (ai @tms_set tmz))))))))))));gFb 17 ?_)
 refine (have F:=(ai q1 (ai w1 (ai w2 (ai l1 (ai l2 (ai hul (ai g1 (ai g2 (ai g4 (ai hls (ai @encTms_len (ai @tms_set tmz))))))))))));gFi (rows:=encTms us) 18 p (by rw [encTms_len];omega) ?_)
 refine gFT ?_
 refine gO2 13 19 ?_ ?_
 ·refine (have F:=(ai q1 (ai w1 (ai w2 (ai l1 (ai l2 (ai hul (ai g1 (ai g2 (ai g4 (ai hls (ai @encTms_len (ai @tms_set tmz))))))))))));gO3 ?_)
  refine gO1 19 ?_
  refine (have F:=(ai q1 (ai w1 (ai w2 (ai l1 (ai l2 (ai hul (ai g1 (ai g2 (ai g4 (ai hls (ai @encTms_len (ai @tms_set tmz))))))))))));gO3 ?_)
  refine gO1 20 ?_
  refine (have F:=(ai q1 (ai w1 (ai w2 (ai l1 (ai l2 (ai hul (ai g1 (ai g2 (ai g4 (ai hls (ai @encTms_len (ai @tms_set tmz))))))))))));gO3 ?_)
  refine gO1 21 ?_
  refine (have F:=(ai q1 (ai w1 (ai w2 (ai l1 (ai l2 (ai hul (ai g1 (ai g2 (ai g4 (ai hls (ai @encTms_len (ai @tms_set tmz))))))))))));gO3 ?_)
  refine gO1 22 ?_
  refine (have F:=(ai q1 (ai w1 (ai w2 (ai l1 (ai l2 (ai hul (ai g1 (ai g2 (ai g4 (ai hls (ai @encTms_len (ai @tms_set tmz))))))))))));gO3 ?_)
  refine gO1 23 ?_
  refine (have F:=(ai q1 (ai w1 (ai w2 (ai l1 (ai l2 (ai hul (ai g1 (ai g2 (ai g4 (ai hls (ai @encTms_len (ai @tms_set tmz))))))))))));gO3 ?_)
  refine (have F:=tmz;gT0 ?_)
  refine Exists.intro _ (ai (Wk.refl _) ?_)
  rw [g3]
  (have F:=@w3;refine gG ?_;exact ⟨(i+1,swR P X Z Y Q (i+1)),⟨hlt,rfl⟩,gw,gw,by omega⟩)
 ·refine (have F:=(ai q1 (ai w1 (ai w2 (ai l1 (ai l2 (ai hul (ai g1 (ai g2 (ai g4 (ai hls (ai @encTms_len (ai @tms_set tmz))))))))))));gO3 ?_)
  refine gO1 13 ?_
  refine (have F:=(ai q1 (ai w1 (ai w2 (ai l1 (ai l2 (ai hul (ai g1 (ai g2 (ai g4 (ai hls (ai @encTms_len (ai @tms_set tmz))))))))))));gO3 ?_)
  refine gO1 20 ?_
  refine (have F:=(ai q1 (ai w1 (ai w2 (ai l1 (ai l2 (ai hul (ai g1 (ai g2 (ai g4 (ai hls (ai @encTms_len (ai @tms_set tmz))))))))))));gO3 ?_)
  refine gO1 21 ?_
  refine (have F:=(ai q1 (ai w1 (ai w2 (ai l1 (ai l2 (ai hul (ai g1 (ai g2 (ai g4 (ai hls (ai @encTms_len (ai @tms_set tmz))))))))))));gO3 ?_)
  refine gO1 22 ?_
  refine (have F:=(ai q1 (ai w1 (ai w2 (ai l1 (ai l2 (ai hul (ai g1 (ai g2 (ai g4 (ai hls (ai @encTms_len (ai @tms_set tmz))))))))))));gO3 ?_)
  refine gO1 23 ?_
  refine (have F:=(ai q1 (ai w1 (ai w2 (ai l1 (ai l2 (ai hul (ai g1 (ai g2 (ai g4 (ai hls (ai @encTms_len (ai @tms_set tmz))))))))))));gO3 ?_)
  refine (have F:=tmz;gT0 ?_)
  refine Exists.intro _ (ai (Wk.refl _) ?_)
  rw [g3]
  (have F:=@w3;refine gG ?_;exact ⟨(i+1,swR P X Z Y Q (i+1)),⟨hlt,rfl⟩,gw,gw,by omega⟩)
set_option maxHeartbeats 8000000 in
set_option maxRecDepth 100000 in
theorem conP_rot (P X Y Q:List Tm) (hX:0 < X.length) (hY:0 < Y.length) {A M B N:Nat} (hA:A=P.length) (hM:M=P.length+X.length) (hB:B=P.length+X.length+Y.length) (hN:N=P.length+X.length+Y.length+Q.length) (hmx:N<=4000000) (a:Option Addr) (cap:Nat) :
  ConP e0 265 [.one (.lit (.slice a N cap)),.one (.lit (.int .i64 A)),.one (.lit (.int .i64 M)),.one (.lit (.int .i64 B)),.one (.fn 82 [])] [.buf (some (a,cap)) 46 4 (encTms (P++X++Y++Q))] (RBuf a cap (P++Y++X++Q)):=by
 have w1:IntKind.i64.wrap ((M:Int) - (A:Int))=(X.length:Int):=wrapN (by omega) (by omega) (by omega)
 have w2:IntKind.i64.wrap ((B:Int) - (M:Int))=(Y.length:Int):=wrapN (by omega) (by omega) (by omega)
 refine gIP (ts:=[]) [1000] 9440287 Tryz.func265 ?_
 (have F:=ai @w1 (ai @w2 @tmz);refine gG ?_;clear F)
 (have F:=@tmz;refine gL (ι:=(Nat × Nat) × List Tm) [10,11,20,23] [1000] (fun x=>[(10,.d (.one (.lit (.int .i64 (x.1.1:Int))))),(11,.d (.one (.lit (.int .i64 (x.1.2:Int)))))]) (fun x=>[(1000,.buf (some (a,cap)) 46 4 (encTms x.2))]) (fun x=>∃ P' X' Y' Q',x.2=P'++X'++Y'++Q'∧x.1.1=X'.length∧x.1.2=Y'.length∧P'.length+X'.length=M∧0 < X'.length∧0 < Y'.length∧P'++Y'++X'++Q'=P++Y++X++Q) (fun x=>x.1.1+x.1.2) (((X.length,Y.length),P++X++Y++Q)) (⟨P,X,Y,Q,rfl,rfl,rfl,hM.symm,hX,hY,rfl⟩) (fun x hx=>?_);clear F)
 obtain ⟨⟨i,j⟩,us⟩:=x
 obtain ⟨P',X',Y',Q',hus,hi,hj,hM',hX',hY',hT⟩:=hx
 simp only at hus hi hj
 dsimp only
 have hlen:=congrArg List.length hT
 simp only [List.length_append] at hlen
 obtain ⟨z,hz⟩:∃ z,z=P'.length:=⟨_,rfl⟩
 have w3:IntKind.i64.wrap ((M:Int) - (i:Int))=(z:Int):=wrapN (by omega) (by omega) (by omega)
 by_cases hij:i=j
 ·have q1:((i:Int)=(j:Int))=True:=eq_true (by omega)
  have c:=conP_swap P' X' [] Y' Q' (by omega) (A:=z) (B:=M) (n:=i) (N:=N) hz (by simp;omega) hi (by simp;omega) hmx a cap
  rw [List.append_nil,List.append_nil,hT,<- hus] at c
  (have F:=ai @q1 @tmz;have NN:StopAt 8:=trivial;refine gGn ?_;clear F NN)
  refine gB ?_
  (have F:=ai @tmz @w3;refine gCP [1000] [1000] (c) ?_;clear F)
  rintro r pm ⟨rfl,rfl⟩
  simp only [setA,retA,zipM,List.cons_append,List.nil_append]
  (have F:=@tmz;refine gR ?_;clear F)
  (have F:=@tmz;refine gG ?_;clear F)
  first | exact (have F:=@e0P;gTPe (R:=RBuf a cap (P++Y++X++Q)) [1000] ⟨rfl,rfl⟩) | exact (have F:=@e0P;gTP (R:=RBuf a cap (P++Y++X++Q)) [1000] ⟨rfl,rfl⟩)
 have q1:((i:Int)=(j:Int))=False:=eq_false (by omega)
 by_cases hgt:j < i
 ·have q2:((j:Int) < (i:Int))=True:=eq_true (by omega)
  obtain ⟨d,hd⟩:∃ d,d=i - j:=⟨_,rfl⟩
  have w4:IntKind.i64.wrap ((i:Int) - (j:Int))=(d:Int):=wrapN (by omega) (by omega) (by omega)
  have hX12:X'=X'.take j++X'.drop j:=(List.take_append_drop j X').symm
  have l1:(X'.take j).length=j:=by rw [List.length_take];omega
  have l2:(X'.drop j).length=d:=by rw [List.length_drop];omega
  generalize X'.take j=X1 at hX12 l1
  generalize X'.drop j=X2 at hX12 l2
  subst hX12
  have c:=conP_swap P' X1 X2 Y' Q' (by omega) (A:=z) (B:=M) (n:=j) (N:=N) hz (by simp at hM';omega) l1.symm (by simp at hlen;omega) hmx a cap
  rw [show P'++X1++X2++Y'++Q'=us by rw [hus];simp] at c
  (have F:=ai @q1 (ai @q2 @tmz);have NN:StopAt 4:=trivial;refine gGn ?_;clear F NN)
  refine gB ?_
  (have F:=ai @tmz @w3;refine gCP [1000] [1000] (c) ?_;clear F)
  rintro r pm ⟨rfl,rfl⟩
  simp only [setA,retA,zipM,List.cons_append,List.nil_append]
  (have F:=@tmz;refine gR ?_;clear F)
  (have F:=@w4;refine gG ?_;exact ⟨((d,j),P'++Y'++X2++X1++Q'),⟨P'++Y',X2,X1,Q',rfl,l2.symm,l1.symm,by simp at hM' ⊢;omega,by omega,by omega,by rw [<- hT];simp⟩,gw,gw,by dsimp only;omega⟩)
 ·have q2:((j:Int) < (i:Int))=False:=eq_false (by omega)
  obtain ⟨d,hd⟩:∃ d,d=j - i:=⟨_,rfl⟩
  have w4:IntKind.i64.wrap ((j:Int) - (i:Int))=(d:Int):=wrapN (by omega) (by omega) (by omega)
  obtain ⟨u,hu⟩:∃ u,u=M+j:=⟨_,rfl⟩
  obtain ⟨v,hv⟩:∃ v,v=M+d:=⟨_,rfl⟩
  have w5:IntKind.i64.wrap ((M:Int)+(j:Int))=(u:Int):=wrapN (by omega) (by omega) (by omega)
  have w6:IntKind.i64.wrap ((u:Int) - (i:Int))=(v:Int):=wrapN (by omega) (by omega) (by omega)
  have hY12:Y'=Y'.take d++Y'.drop d:=(List.take_append_drop d Y').symm
  have l1:(Y'.take d).length=d:=by rw [List.length_take];omega
  have l2:(Y'.drop d).length=i:=by rw [List.length_drop];omega
  generalize Y'.take d=Y1 at hY12 l1
  generalize Y'.drop d=Y2 at hY12 l2
  subst hY12
  have c:=conP_swap P' X' Y1 Y2 Q' (by omega) (A:=z) (B:=v) (n:=i) (N:=N) hz (by omega) hi (by simp at hlen;omega) hmx a cap
  rw [show P'++X'++Y1++Y2++Q'=us by rw [hus];simp] at c
  (have F:=ai @q1 (ai @q2 @tmz);have NN:StopAt 6:=trivial;refine gGn ?_;clear F NN)
  refine gB ?_
  (have F:=ai @tmz (ai @w3 (ai @w5 @w6));refine gCP [1000] [1000] (c) ?_;clear F)
  rintro r pm ⟨rfl,rfl⟩
  simp only [setA,retA,zipM,List.cons_append,List.nil_append]
  (have F:=@tmz;refine gR ?_;clear F)
  (have F:=@w4;refine gG ?_;exact ⟨((i,d),P'++Y2++Y1++X'++Q'),⟨P',Y2,Y1,X'++Q',by simp,l2.symm,l1.symm,by omega,by omega,by omega,by rw [<- hT];simp⟩,gw,gw,by dsimp only;omega⟩)
end Go.Proofs.YtffmjghcpgpfpaaGreatDoor
namespace Go.Proofs.YtffmjghcpgpfpaaGreatDoor
open Go.RowKit
theorem take_take_snoc {M:List Tm} {k:Nat} {x:Tm} (h:M[k]?=some x):M.take k++[x]=M.take (k+1):=(take_snoc_of h).symm
set_option maxHeartbeats 8000000 in
set_option maxRecDepth 100000 in
theorem conP_ins (P M Q:List Tm) {A B N:Nat} (hA:A=P.length) (hB:B=P.length+M.length) (hN:N=P.length+M.length+Q.length) (hmx:N<=4000000) (a:Option Addr) (cap:Nat) :
  ConP e0 250 [.one (.lit (.slice a N cap)),.one (.lit (.int .i64 A)),.one (.lit (.int .i64 B)),.one (.fn 82 [])] [.buf (some (a,cap)) 46 4 (encTms (P++M++Q))] (RBuf a cap (P++sortTm M++Q)):=by
 have wA:=wrap1 (k:=A) (by omega)
 obtain ⟨A1,hA1⟩:∃ A1,A1=A+1:=⟨_,rfl⟩
 rw [<- hA1] at wA
 have h0:P++M++Q=P++sortTm (M.take (A1 - A))++(M.drop (A1 - A)++Q):=by
  have:sortTm (M.take 1)=M.take 1:=sortTm_self (by cases M with | nil=>exact List.Pairwise.nil | cons x M=>simp only [List.take_succ_cons,List.take_zero];exact List.pairwise_singleton _ _)
  rw [hA1,Nat.add_sub_cancel_left,this]
  simp only [List.append_assoc]
  rw [<- List.append_assoc (M.take 1),List.take_append_drop]
 refine gIP (ts:=[]) [1000] 17179886351 Tryz.func250 ?_
 (have F:=ai @wA @tmz;refine gG ?_;clear F)
 (have F:=@tmz;refine gL (ι:=Nat × List Tm) [8,9,14,34] [1000] (fun x=>[(8,.d (.one (.lit (.int .i64 (x.1:Int)))))]) (fun x=>[(1000,.buf (some (a,cap)) 46 4 (encTms x.2))]) (fun x=>A1<=x.1∧(x.1<=B∨x.1=A1)∧x.2=P++sortTm (M.take (x.1 - A))++(M.drop (x.1 - A)++Q)) (fun x=>B+1 - x.1) ((A1,P++M++Q)) (⟨Nat.le_refl _,.inr rfl,h0⟩) (fun x hx=>?_);clear F)
 obtain ⟨i,us⟩:=x
 obtain ⟨hi1,hi2,hus⟩:=hx
 simp only at hi1 hi2 hus
 dsimp only
 by_cases hlt:i < B
 rotate_left
 ·have q1:((i:Int) < (B:Int))=False:=eq_false (by omega)
  have e1:M.take (i - A)=M:=List.take_of_length_le (by omega)
  have e2:M.drop (i - A)=[]:=List.drop_of_length_le (by omega)
  rw [e1,e2,List.nil_append] at hus
  subst hus
  (have F:=ai @q1 @tmz;refine gG ?_;clear F)
  first | exact (have F:=@e0P;gTPe (R:=RBuf a cap (P++sortTm M++Q)) [1000] ⟨rfl,rfl⟩) | exact (have F:=@e0P;gTP (R:=RBuf a cap (P++sortTm M++Q)) [1000] ⟨rfl,rfl⟩)
 have q1:((i:Int) < (B:Int))=True:=eq_true (by omega)
 obtain ⟨k,hk⟩:∃ k,k=i - A:=⟨_,rfl⟩
 rw [<- hk] at hus
 obtain ⟨x,hx⟩:∃ t,M[k]?=some t:=⟨_,List.getElem?_eq_getElem (by omega)⟩
 have hL:(sortTm (M.take k)).length=k:=by rw [sortTm_len,List.length_take];omega
 rw [drop_cons_of hx] at hus
 have wi:=wrap1 (k:=i) (by omega)
 have hR:(M.drop (k+1)++Q).length+i+1=N:=by rw [List.length_append,List.length_drop];omega
 have hnext:∀ M1 M2,M1++M2=sortTm (M.take k)->(∀ y∈M2,cmpTm x y<=0)->(∀ y,M1.getLast?=some y->cmpTm y x<=0)->P++M1++x::(M2++(M.drop (k+1)++Q))=P++sortTm (M.take (i+1 - A))++(M.drop (i+1 - A)++Q):=fun M1 M2 e h2 h1=>by
  have:=ins_sort e h2 h1
  rw [take_take_snoc hx] at this
  rw [show i+1 - A=k+1 by omega,<- this]
  simp
 obtain ⟨T,hT⟩:∃ T,T=P++sortTm (M.take (i+1 - A))++(M.drop (i+1 - A)++Q):=⟨_,rfl⟩
 rw [<- hT] at hnext
 (have F:=ai @q1 @tmz;refine gG ?_;clear F)
 (have F:=@tmz;refine gL (ι:=Nat × List Tm) [9,34] [1000] (fun z=>[(9,.d (.one (.lit (.int .i64 (z.1:Int)))))]) (fun z=>[(1000,.buf (some (a,cap)) 46 4 (encTms z.2))]) (fun z=>∃ M1 M2,z.2=P++M1++x::(M2++(M.drop (k+1)++Q))∧z.1=A+M1.length∧M1++M2=sortTm (M.take k)∧∀ y∈M2,cmpTm x y<=0) (fun z=>z.1) ((i,us)) (⟨sortTm (M.take k),[],by rw [hus];simp,by rw [hL];omega,List.append_nil _,fun y h=>by simp at h⟩) (fun z hz=>?_);clear F)
 obtain ⟨j,vs⟩:=z
 obtain ⟨M1,M2,hvs,hj,he,h2⟩:=hz
 simp only at hvs hj
 dsimp only
 have hml:M1.length+M2.length=k:=by rw [<- List.length_append,he,hL]
 have hvl:vs.length=N:=by rw [hvs];simp only [List.length_append,List.length_cons] at hR ⊢;omega
 rcases List.eq_nil_or_concat M1 with h1 | ⟨M0,y,h1⟩
 ·subst h1
  have hn:=hnext [] M2 he h2 (fun y h=>by simp at h)
  obtain rfl:j=A:=by simpa using hj
  have q2:((j:Int) < (j:Int))=False:=eq_false (by omega)
  rw [hn] at hvs
  subst hvs
  (have F:=ai @q2 @tmz;refine gG ?_;clear F)
  (have F:=@wi;refine gG ?_;exact ⟨(i+1,vs),⟨by omega,.inl hlt,hT⟩,gw,gw,by omega⟩)
 ·rw [List.concat_eq_append] at h1
  subst h1
  simp only [List.length_append,List.length_cons,List.length_nil] at hj hml
  obtain ⟨p,hp⟩:∃ p,p=A+M0.length:=⟨_,rfl⟩
  have hjp:j=p+1:=by omega
  have q2:((A:Int) < (j:Int))=True:=eq_true (by omega)
  have w1:IntKind.i64.wrap ((j:Int) - 1)=(p:Int):=wrapN (by omega) (by omega) (by omega)
  have hPl:(P++M0).length=p:=by rw [List.length_append];omega
  have hvs2:vs=(P++M0)++y::x::(M2++(M.drop (k+1)++Q)):=by rw [hvs];simp
  have g1:vs[p]?=some y:=by rw [hvs2];exact get_at hPl
  have g2:vs[j]?=some x:=by rw [hvs2,hjp];exact get_at1 hPl
  have l1:p < N:=by omega
  have l2:j < N:=by omega
  (have F:=ai @q2 @tmz;refine gG ?_;clear F)
  refine gB ?_
  (have F:=ai @q2 (ai @tmz (ai @g1 (ai @g2 (ai @w1 (ai @l1 (ai @l2 (ai @hvl @encTms_len)))))));refine gC (con_1 (con_cmp1 x y)) ?_;clear F)
  by_cases hc:cmpTm x y < 0
  ·have z1:(cmpTm x y < 0)=True:=eq_true hc
   obtain ⟨U,hU⟩:∃ U,U=(P++M0)++x::y::(M2++(M.drop (k+1)++Q)):=⟨_,rfl⟩
   have g3:(vs.set j y).set p x=U:=by rw [hU,hvs2,hjp];exact swap_at hPl
   have hls:∀ q (t:Tm),(vs.set q t).length=N:=fun q t=>by rw [List.length_set,hvl]
   (have F:=ai @z1 (ai @q2 @tmz);refine gR ?_;clear F)
   have hM2:∀ u∈y::M2,cmpTm x u<=0:=fun u hu=>by
    rcases List.mem_cons.1 hu with rfl | hu
    ·omega
    ·exact h2 u hu
   obtain ⟨z,g4⟩:∃ z,(vs.set j y)[p]?=some z:=⟨_,List.getElem?_eq_getElem (by rw [List.length_set];omega)⟩
   (have F:=ai @z1 @tmz;have NN:StopAt 6:=trivial;refine gGn ?_;clear F NN)
   refine gF0 ?_
   refine gFm 0 ?_
   refine gFm 1 ?_
   refine gFm 2 ?_
   refine gFm 3 ?_
   refine (have F:=(ai w1 (ai l1 (ai l2 (ai hvl (ai g1 (ai g2 (ai g4 (ai hls (ai @encTms_len (ai @tms_set tmz))))))))));gFb 4 ?_)
   refine gFm 5 ?_
   refine gFm 6 ?_
   refine (have F:=(ai w1 (ai l1 (ai l2 (ai hvl (ai g1 (ai g2 (ai g4 (ai hls (ai @encTms_len (ai @tms_set tmz))))))))));gFb 7 ?_)
   refine (have F:=(ai w1 (ai l1 (ai l2 (ai hvl (ai g1 (ai g2 (ai g4 (ai hls (ai @encTms_len (ai @tms_set tmz))))))))));gFi (rows:=encTms vs) 8 p (by rw [encTms_len];omega) ?_)
   refine gFm 10 ?_
   refine gFm 11 ?_
   refine (have F:=(ai w1 (ai l1 (ai l2 (ai hvl (ai g1 (ai g2 (ai g4 (ai hls (ai @encTms_len (ai @tms_set tmz))))))))));gFi (rows:=encTms vs) 12 j (by rw [encTms_len];omega) ?_)
   refine gFT ?_
   refine gO2 9 13 ?_ ?_
   ·refine (have F:=(ai w1 (ai l1 (ai l2 (ai hvl (ai g1 (ai g2 (ai g4 (ai hls (ai @encTms_len (ai @tms_set tmz))))))))));gO3 ?_)
    refine gO1 13 ?_
    refine (have F:=(ai w1 (ai l1 (ai l2 (ai hvl (ai g1 (ai g2 (ai g4 (ai hls (ai @encTms_len (ai @tms_set tmz))))))))));gO3 ?_)
    refine gO1 14 ?_
    refine (have F:=(ai w1 (ai l1 (ai l2 (ai hvl (ai g1 (ai g2 (ai g4 (ai hls (ai @encTms_len (ai @tms_set tmz))))))))));gO3 ?_)
    refine gO1 15 ?_
    refine (have F:=(ai w1 (ai l1 (ai l2 (ai hvl (ai g1 (ai g2 (ai g4 (ai hls (ai @encTms_len (ai @tms_set tmz))))))))));gO3 ?_)
    refine gO1 16 ?_
    refine (have F:=(ai w1 (ai l1 (ai l2 (ai hvl (ai g1 (ai g2 (ai g4 (ai hls (ai @encTms_len (ai @tms_set tmz))))))))));gO3 ?_)
    refine gO1 17 ?_
    refine (have F:=(ai w1 (ai l1 (ai l2 (ai hvl (ai g1 (ai g2 (ai g4 (ai hls (ai @encTms_len (ai @tms_set tmz))))))))));gO3 ?_)
    refine (have F:=tmz;gT0 ?_)
    refine Exists.intro _ (ai (Wk.refl _) ?_)
    rw [g3]
    (have F:=@w1;refine gG ?_;exact ⟨(p,U),⟨M0,y::M2,by rw [hU];simp,hp,by rw [<- he];simp,hM2⟩,gw,gw,by omega⟩)
   ·refine (have F:=(ai w1 (ai l1 (ai l2 (ai hvl (ai g1 (ai g2 (ai g4 (ai hls (ai @encTms_len (ai @tms_set tmz))))))))));gO3 ?_)
    refine gO1 9 ?_
    refine (have F:=(ai w1 (ai l1 (ai l2 (ai hvl (ai g1 (ai g2 (ai g4 (ai hls (ai @encTms_len (ai @tms_set tmz))))))))));gO3 ?_)
    refine gO1 14 ?_
    refine (have F:=(ai w1 (ai l1 (ai l2 (ai hvl (ai g1 (ai g2 (ai g4 (ai hls (ai @encTms_len (ai @tms_set tmz))))))))));gO3 ?_)
    refine gO1 15 ?_
    refine (have F:=(ai w1 (ai l1 (ai l2 (ai hvl (ai g1 (ai g2 (ai g4 (ai hls (ai @encTms_len (ai @tms_set tmz))))))))));gO3 ?_)
    refine gO1 16 ?_
    refine (have F:=(ai w1 (ai l1 (ai l2 (ai hvl (ai g1 (ai g2 (ai g4 (ai hls (ai @encTms_len (ai @tms_set tmz))))))))));gO3 ?_)
    refine gO1 17 ?_
    refine (have F:=(ai w1 (ai l1 (ai l2 (ai hvl (ai g1 (ai g2 (ai g4 (ai hls (ai @encTms_len (ai @tms_set tmz))))))))));gO3 ?_)
    refine (have F:=tmz;gT0 ?_)
    refine Exists.intro _ (ai (Wk.refl _) ?_)
    rw [g3]
    (have F:=@w1;refine gG ?_;exact ⟨(p,U),⟨M0,y::M2,by rw [hU];simp,hp,by rw [<- he];simp,hM2⟩,gw,gw,by omega⟩)
  ·have z1:(cmpTm x y < 0)=False:=eq_false hc
   have hn:=hnext (M0++[y]) M2 he h2 (fun u h=>by
    simp only [List.getLast?_append,List.getLast?_singleton,Option.some_or,Option.some.injEq] at h
    subst h
    exact le_ge hc)
   rw [hn] at hvs
   subst hvs
   (have F:=ai @z1 (ai @q2 @tmz);refine gR ?_;clear F)
   (have F:=ai @z1 @tmz;refine gG ?_;clear F)
   (have F:=@wi;refine gG ?_;exact ⟨(i+1,vs),⟨by omega,.inl hlt,hT⟩,gw,gw,by omega⟩)
end Go.Proofs.YtffmjghcpgpfpaaGreatDoor
namespace Go.Proofs.YtffmjghcpgpfpaaGreatDoor
open Go.RowKit
theorem get_A {P A B Q:List Tm} {i k:Nat} {x:Tm} (h:A[i]?=some x) (hk:k=P.length+i):(P++A++B++Q)[k]?=some x:=by
 have hi:=(List.getElem?_eq_some_iff.1 h).1
 subst hk
 rw [List.append_assoc,List.append_assoc,List.getElem?_append_right (by omega),Nat.add_sub_cancel_left,List.getElem?_append_left hi,h]
theorem get_B {P A B Q:List Tm} {i k:Nat} {x:Tm} (h:B[i]?=some x) (hk:k=P.length+A.length+i):(P++A++B++Q)[k]?=some x:=by
 have hi:=(List.getElem?_eq_some_iff.1 h).1
 subst hk
 rw [List.append_assoc,List.getElem?_append_right (by rw [List.length_append];omega),List.length_append,Nat.add_sub_cancel_left,List.getElem?_append_left hi,h]
theorem sort_put {B:List Tm} {x:Tm} (hB:Up B) {s:Nat} (h1:0 < s->∃ y,B[s - 1]?=some y∧cmpTm y x<=0) (h2:s < B.length->∃ y,B[s]?=some y∧cmpTm x y<=0):sortTm ([x]++B)=B.take s++x::B.drop s:=(sortTm_of (put_perm s) (hB.put h1 h2)).symm
def SymL (A B:List Tm) (lo mid st i:Nat):Prop:=st < i->∃ u v,A[i - 1 - lo]?=some u∧B[mid - i]?=some v∧cmpTm u v<=0
def SymR (A B:List Tm) (lo mid r0 j:Nat):Prop:=j < r0->∃ u v,B[mid - 1 - j]?=some u∧A[j - lo]?=some v∧cmpTm u v<=0
set_option maxHeartbeats 40000000 in
set_option maxRecDepth 100000 in
theorem conP_sym:∀ (n:Nat) (P A B Q:List Tm),A.length+B.length<=n->0 < A.length->0 < B.length->Up A->Up B->∀ {lo mi hi N:Nat},lo=P.length->mi=P.length+A.length->hi=P.length+A.length+B.length->N=P.length+A.length+B.length+Q.length->N<=4000000->∀ (a:Option Addr) (cap:Nat),
  ConP e0 251 [.one (.lit (.slice a N cap)),.one (.lit (.int .i64 lo)),.one (.lit (.int .i64 mi)),.one (.lit (.int .i64 hi)),.one (.fn 82 [])] [.buf (some (a,cap)) 46 4 (encTms (P++A++B++Q))] (RBuf a cap (P++sortTm (A++B)++Q)):=by
 intro n
 induction n with
 | zero=>intro P A B Q h1 h2;omega
 | succ n ih =>
 intro P A B Q hsz hA0 hB0 hA hB lo mi hi N hlo hmi hhi hN hmx a cap
 have hU:∃ U,U=P++A++B++Q:=⟨_,rfl⟩
 obtain ⟨U,hU⟩:=hU
 have hUl:U.length=N:=by rw [hU];simp only [List.length_append];omega
 rw [<- hU]
 have w0:IntKind.i64.wrap ((mi:Int) - (lo:Int))=(A.length:Int):=wrapN (by omega) (by omega) (by omega)
 have w1:IntKind.i64.wrap ((hi:Int) - (mi:Int))=(B.length:Int):=wrapN (by omega) (by omega) (by omega)
 refine gIP (ts:=[]) [1000] 13164839976634628298295110780136696778032692856359452003713154079 Tryz.func251 ?_
 by_cases hA1:A.length=1
 ·have q1:((A.length:Int)=1)=True:=eq_true (by omega)
  obtain ⟨x,hx⟩:∃ x,A=[x]:=List.length_eq_one_iff.1 hA1
  have gx:U[lo]?=some x:=by rw [hU];exact get_A (i:=0) (by rw [hx];rfl) (by omega)
  have l0:lo < N:=by omega
  (have F:=ai @w0 (ai @q1 @tmz);refine gG ?_;clear F)
  clear q1
  (have F:=@tmz;refine gL (ι:=Nat × Nat) [10,11,12,33,50] [] (fun z=>[(10,.d (.one (.lit (.int .i64 (z.1:Int))))),(11,.d (.one (.lit (.int .i64 (z.2:Int)))))]) (fun z=>[]) (fun z=>mi<=z.1∧z.1<=z.2∧z.2<=hi∧(mi < z.1->∃ y,B[z.1 - mi - 1]?=some y∧cmpTm y x<=0)∧(z.2 < hi->∃ y,B[z.2 - mi]?=some y∧cmpTm x y<=0)) (fun z=>z.2 - z.1) ((mi,hi)) (⟨Nat.le_refl _,by omega,Nat.le_refl _,fun h=>by omega,fun h=>by omega⟩) (fun z hz=>?_);clear F)
  obtain ⟨i,j⟩:=z
  obtain ⟨h1,h2,h3,h4,h5⟩:=hz
  simp only at h1 h2 h3 h4 h5
  dsimp only
  by_cases hij:i < j
  ·have q2:((i:Int) < (j:Int))=True:=eq_true (by omega)
   obtain ⟨s,h,u1,u2,u3,u4,hh⟩:=half_of i j (by omega)
   obtain ⟨y,hy⟩:∃ y,B[h - mi]?=some y:=⟨_,List.getElem?_eq_getElem (by omega)⟩
   have gy:U[h]?=some y:=by rw [hU];exact get_B hy (by omega)
   have lh:h < N:=by omega
   have wh:=wrap1 (k:=h) (by omega)
   (have F:=ai @q2 (ai @u1 (ai @u2 (ai @u3 (ai @u4 (ai @un_int (ai @un_intK (ai @un_uint (ai @un_uintK (ai @cv_uint (ai @cv_intU (ai @toNat_one (ai @bx_shr @tmz))))))))))));refine gG ?_;clear F)
   refine gB ?_
   (have F:=ai @tmz (ai @gx (ai @gy (ai @l0 (ai @lh (ai @hUl @encTms_len)))));refine gC (con_1 (con_cmp1 y x)) ?_;clear F)
   by_cases hc:cmpTm y x < 0
   ·have z1:(cmpTm y x < 0)=True:=eq_true hc
    (have F:=ai @z1 @tmz;refine gR ?_;clear F)
    (have F:=ai @z1 @wh;refine gG ?_;exact ⟨(h+1,j),⟨by omega,by omega,h3,fun _=>⟨y,by rw [<- hy];congr 1;omega,by omega⟩,h5⟩,gw,gw,by omega⟩)
   ·have z1:(cmpTm y x < 0)=False:=eq_false hc
    (have F:=ai @z1 @tmz;refine gR ?_;clear F)
    (have F:=@z1;refine gG ?_;exact ⟨(i,h),⟨h1,by omega,by omega,h4,fun _=>⟨y,hy,le_ge hc⟩⟩,gw,gw,by omega⟩)
  have q2:((i:Int) < (j:Int))=False:=eq_false (by omega)
  obtain rfl:i=j:=by omega
  obtain ⟨e,he⟩:∃ e,i=e+1:=⟨i - 1,by omega⟩
  have w2:IntKind.i64.wrap ((i:Int) - 1)=(e:Int):=wrapN (by omega) (by omega) (by omega)
  have hout:sortTm (A++B)=B.take (e - lo)++x::B.drop (e - lo):=by
   rw [hx]
   exact sort_put hB (fun h=>by obtain ⟨y,hy,hc⟩:=h4 (by omega);exact ⟨y,by rw [<- hy];congr 1;omega,hc⟩) (fun h=>by obtain ⟨y,hy,hc⟩:=h5 (by omega);exact ⟨y,by rw [<- hy];congr 1;omega,hc⟩)
  rw [hout]
  (have F:=ai @q2 @tmz;refine gG ?_;clear F)
  (have F:=@tmz;refine gL (ι:=Nat × List Tm) [13,58] [1000] (fun z=>[(13,.d (.one (.lit (.int .i64 (z.1:Int)))))]) (fun z=>[(1000,.buf (some (a,cap)) 46 4 (encTms z.2))]) (fun z=>lo<=z.1∧z.1<=e∧z.2=P++B.take (z.1 - lo)++x::(B.drop (z.1 - lo)++Q)) (fun z=>e - z.1) ((lo,U)) (⟨Nat.le_refl _,by omega,by rw [hU,hx,Nat.sub_self];simp⟩) (fun z hz=>?_);clear F)
  obtain ⟨k,us⟩:=z
  obtain ⟨k1,k2,hus⟩:=hz
  simp only at k1 k2 hus
  dsimp only
  by_cases hk:k < e
  ·have q3:((k:Int) < (e:Int))=True:=eq_true (by omega)
   obtain ⟨y,hy⟩:∃ y,B[k - lo]?=some y:=⟨_,List.getElem?_eq_getElem (by omega)⟩
   have hPl:(P++B.take (k - lo)).length=k:=by rw [List.length_append,List.length_take];omega
   rw [drop_cons_of hy] at hus
   have g1:us[k]?=some x:=by rw [hus];exact get_at hPl
   have g2:us[k+1]?=some y:=by rw [hus];exact get_at1 hPl
   obtain ⟨V,hV⟩:∃ V,V=P++B.take (k+1 - lo)++x::(B.drop (k+1 - lo)++Q):=⟨_,rfl⟩
   have g3:(us.set k y).set (k+1) x=V:=by
    rw [hV,hus,List.cons_append,swap_at' hPl,show k+1 - lo=k - lo+1 by omega,take_snoc_of hy];simp
   have hul:us.length=N:=by rw [hus];simp only [List.length_append,List.length_cons,List.length_take,List.length_drop];omega
   obtain ⟨k',hk'⟩:∃ k',k'=k+1:=⟨_,rfl⟩
   rw [<- hk'] at g2 g3 hV
   have wk:IntKind.i64.wrap ((k:Int)+1)=(k':Int):=wrapN (by omega) (by omega) (by omega)
   have l1:k < N:=by omega
   have l2:k' < N:=by omega
   have hls:∀ q (t:Tm),(us.set q t).length=N:=fun q t=>by rw [List.length_set,hul]
   obtain ⟨z,g4⟩:∃ z,(us.set k y)[k']?=some z:=⟨_,List.getElem?_eq_getElem (by rw [List.length_set];omega)⟩
   (have F:=ai @q3 (ai @w2 @tmz);have NN:StopAt 11:=trivial;refine gGn ?_;clear F NN)
   refine gF0 ?_
   refine gFm 0 ?_
   refine gFm 1 ?_
   refine gFm 2 ?_
   refine gFm 3 ?_
   refine (have F:=(ai wk (ai l1 (ai l2 (ai hul (ai g1 (ai g2 (ai g4 (ai hls (ai @encTms_len (ai @tms_set tmz))))))))));gFb 4 ?_)
   refine gFm 5 ?_
   refine gFm 6 ?_
   refine (have F:=(ai wk (ai l1 (ai l2 (ai hul (ai g1 (ai g2 (ai g4 (ai hls (ai @encTms_len (ai @tms_set tmz))))))))));gFb 7 ?_)
   refine (have F:=(ai wk (ai l1 (ai l2 (ai hul (ai g1 (ai g2 (ai g4 (ai hls (ai @encTms_len (ai @tms_set tmz))))))))));gFi (rows:=encTms us) 8 k' (by rw [encTms_len];omega) ?_)
   refine gFm 10 ?_
   refine gFm 11 ?_
   refine (have F:=(ai wk (ai l1 (ai l2 (ai hul (ai g1 (ai g2 (ai g4 (ai hls (ai @encTms_len (ai @tms_set tmz))))))))));gFi (rows:=encTms us) 12 k (by rw [encTms_len];omega) ?_)
   refine gFT ?_
   refine gO2 9 13 ?_ ?_
   ·refine (have F:=(ai wk (ai l1 (ai l2 (ai hul (ai g1 (ai g2 (ai g4 (ai hls (ai @encTms_len (ai @tms_set tmz))))))))));gO3 ?_)
    refine gO1 13 ?_
    refine (have F:=(ai wk (ai l1 (ai l2 (ai hul (ai g1 (ai g2 (ai g4 (ai hls (ai @encTms_len (ai @tms_set tmz))))))))));gO3 ?_)
    refine gO1 14 ?_
    refine (have F:=(ai wk (ai l1 (ai l2 (ai hul (ai g1 (ai g2 (ai g4 (ai hls (ai @encTms_len (ai @tms_set tmz))))))))));gO3 ?_)
    refine gO1 15 ?_
    refine (have F:=(ai wk (ai l1 (ai l2 (ai hul (ai g1 (ai g2 (ai g4 (ai hls (ai @encTms_len (ai @tms_set tmz))))))))));gO3 ?_)
    refine gO1 16 ?_
    refine (have F:=(ai wk (ai l1 (ai l2 (ai hul (ai g1 (ai g2 (ai g4 (ai hls (ai @encTms_len (ai @tms_set tmz))))))))));gO3 ?_)
    refine gO1 17 ?_
    refine (have F:=(ai wk (ai l1 (ai l2 (ai hul (ai g1 (ai g2 (ai g4 (ai hls (ai @encTms_len (ai @tms_set tmz))))))))));gO3 ?_)
    refine (have F:=tmz;gT0 ?_)
    refine Exists.intro _ (ai (Wk.refl _) ?_)
    rw [g3]
    (have F:=@wk;refine gG ?_;exact ⟨(k',V),⟨by omega,by omega,hV⟩,gw,gw,by omega⟩)
   ·refine (have F:=(ai wk (ai l1 (ai l2 (ai hul (ai g1 (ai g2 (ai g4 (ai hls (ai @encTms_len (ai @tms_set tmz))))))))));gO3 ?_)
    refine gO1 9 ?_
    refine (have F:=(ai wk (ai l1 (ai l2 (ai hul (ai g1 (ai g2 (ai g4 (ai hls (ai @encTms_len (ai @tms_set tmz))))))))));gO3 ?_)
    refine gO1 14 ?_
    refine (have F:=(ai wk (ai l1 (ai l2 (ai hul (ai g1 (ai g2 (ai g4 (ai hls (ai @encTms_len (ai @tms_set tmz))))))))));gO3 ?_)
    refine gO1 15 ?_
    refine (have F:=(ai wk (ai l1 (ai l2 (ai hul (ai g1 (ai g2 (ai g4 (ai hls (ai @encTms_len (ai @tms_set tmz))))))))));gO3 ?_)
    refine gO1 16 ?_
    refine (have F:=(ai wk (ai l1 (ai l2 (ai hul (ai g1 (ai g2 (ai g4 (ai hls (ai @encTms_len (ai @tms_set tmz))))))))));gO3 ?_)
    refine gO1 17 ?_
    refine (have F:=(ai wk (ai l1 (ai l2 (ai hul (ai g1 (ai g2 (ai g4 (ai hls (ai @encTms_len (ai @tms_set tmz))))))))));gO3 ?_)
    refine (have F:=tmz;gT0 ?_)
    refine Exists.intro _ (ai (Wk.refl _) ?_)
    rw [g3]
    (have F:=@wk;refine gG ?_;exact ⟨(k',V),⟨by omega,by omega,hV⟩,gw,gw,by omega⟩)
  have q3:((k:Int) < (e:Int))=False:=eq_false (by omega)
  obtain rfl:k=e:=by omega
  subst hus
  rw [show P++B.take (k - lo)++x::(B.drop (k - lo)++Q)=P++(B.take (k - lo)++x::B.drop (k - lo))++Q by simp]
  (have F:=ai @q3 (ai @w2 @tmz);refine gG ?_;clear F)
  first | exact (have F:=@e0P;gTPe (R:=RBuf a cap (P++(B.take (k - lo)++x::B.drop (k - lo))++Q)) [1000] ⟨rfl,rfl⟩) | exact (have F:=@e0P;gTP (R:=RBuf a cap (P++(B.take (k - lo)++x::B.drop (k - lo))++Q)) [1000] ⟨rfl,rfl⟩)
 have q1:((A.length:Int)=1)=False:=eq_false (by omega)
 by_cases hB1:B.length=1
 ·have q1':((B.length:Int)=1)=True:=eq_true (by omega)
  obtain ⟨x,hx⟩:∃ x,B=[x]:=List.length_eq_one_iff.1 hB1
  have gx:U[mi]?=some x:=by rw [hU];exact get_B (i:=0) (by rw [hx];rfl) (by omega)
  have l0:mi < N:=by omega
  (have F:=ai @w0 (ai @w1 (ai @q1 (ai @q1' @tmz)));refine gG ?_;clear F)
  clear q1 q1'
  (have F:=@tmz;refine gL (ι:=Nat × Nat) [14,15,16,85,103] [] (fun z=>[(14,.d (.one (.lit (.int .i64 (z.1:Int))))),(15,.d (.one (.lit (.int .i64 (z.2:Int)))))]) (fun z=>[]) (fun z=>lo<=z.1∧z.1<=z.2∧z.2<=mi∧(lo < z.1->∃ y,A[z.1 - lo - 1]?=some y∧cmpTm y x<=0)∧(z.2 < mi->∃ y,A[z.2 - lo]?=some y∧cmpTm x y<=0)) (fun z=>z.2 - z.1) ((lo,mi)) (⟨Nat.le_refl _,by omega,Nat.le_refl _,fun h=>by omega,fun h=>by omega⟩) (fun z hz=>?_);clear F)
  obtain ⟨i,j⟩:=z
  obtain ⟨h1,h2,h3,h4,h5⟩:=hz
  simp only at h1 h2 h3 h4 h5
  dsimp only
  by_cases hij:i < j
  ·have q2:((i:Int) < (j:Int))=True:=eq_true (by omega)
   obtain ⟨s,h,u1,u2,u3,u4,hh⟩:=half_of i j (by omega)
   obtain ⟨y,hy⟩:∃ y,A[h - lo]?=some y:=⟨_,List.getElem?_eq_getElem (by omega)⟩
   have gy:U[h]?=some y:=by rw [hU];exact get_A hy (by omega)
   have lh:h < N:=by omega
   have wh:=wrap1 (k:=h) (by omega)
   (have F:=ai @q2 (ai @u1 (ai @u2 (ai @u3 (ai @u4 (ai @un_int (ai @un_intK (ai @un_uint (ai @un_uintK (ai @cv_uint (ai @cv_intU (ai @toNat_one (ai @bx_shr @tmz))))))))))));refine gG ?_;clear F)
   refine gB ?_
   (have F:=ai @tmz (ai @gx (ai @gy (ai @l0 (ai @lh (ai @hUl @encTms_len)))));refine gC (con_1 (con_cmp1 x y)) ?_;clear F)
   by_cases hc:cmpTm x y < 0
   ·have z1:(cmpTm x y < 0)=True:=eq_true hc
    (have F:=ai @z1 @tmz;refine gR ?_;clear F)
    (have F:=@z1;refine gG ?_;exact ⟨(i,h),⟨h1,by omega,by omega,h4,fun _=>⟨y,hy,by omega⟩⟩,gw,gw,by omega⟩)
   ·have z1:(cmpTm x y < 0)=False:=eq_false hc
    (have F:=ai @z1 @tmz;refine gR ?_;clear F)
    (have F:=ai @z1 @wh;refine gG ?_;exact ⟨(h+1,j),⟨by omega,by omega,h3,fun _=>⟨y,by rw [<- hy];congr 1;omega,le_ge hc⟩,h5⟩,gw,gw,by omega⟩)
  have q2:((i:Int) < (j:Int))=False:=eq_false (by omega)
  obtain rfl:i=j:=by omega
  have hout:sortTm (A++B)=A.take (i - lo)++x::A.drop (i - lo):=by
   rw [hx,sortTm_congr (List.perm_append_comm (l₁:=A) (l₂:=[x]))]
   exact sort_put hA (fun h=>by obtain ⟨y,hy,hc⟩:=h4 (by omega);exact ⟨y,hy,hc⟩) (fun h=>by obtain ⟨y,hy,hc⟩:=h5 (by omega);exact ⟨y,hy,hc⟩)
  rw [hout]
  (have F:=ai @q2 @tmz;refine gG ?_;clear F)
  (have F:=@tmz;refine gL (ι:=Nat × List Tm) [17,110] [1000] (fun z=>[(17,.d (.one (.lit (.int .i64 (z.1:Int)))))]) (fun z=>[(1000,.buf (some (a,cap)) 46 4 (encTms z.2))]) (fun z=>i<=z.1∧z.1<=mi∧z.2=P++A.take (z.1 - lo)++x::(A.drop (z.1 - lo)++Q)) (fun z=>z.1) ((mi,U)) (⟨h3,Nat.le_refl _,by rw [hU,hx,show mi - lo=A.length by omega,List.take_length,List.drop_length];simp⟩) (fun z hz=>?_);clear F)
  obtain ⟨k,us⟩:=z
  obtain ⟨k1,k2,hus⟩:=hz
  simp only at k1 k2 hus
  dsimp only
  by_cases hk:i < k
  ·have q3:((i:Int) < (k:Int))=True:=eq_true (by omega)
   obtain ⟨p,hp⟩:∃ p,k=p+1:=⟨k - 1,by omega⟩
   obtain ⟨y,hy⟩:∃ y,A[p - lo]?=some y:=⟨_,List.getElem?_eq_getElem (by omega)⟩
   have hPl:(P++A.take (p - lo)).length=p:=by rw [List.length_append,List.length_take];omega
   have hus2:us=(P++A.take (p - lo))++y::x::(A.drop (k - lo)++Q):=by rw [hus,show k - lo=p - lo+1 by omega,take_snoc_of hy];simp
   have g1:us[p]?=some y:=by rw [hus2];exact get_at hPl
   have g2:us[k]?=some x:=by rw [hus2,hp];exact get_at1 hPl
   obtain ⟨V,hV⟩:∃ V,V=P++A.take (p - lo)++x::(A.drop (p - lo)++Q):=⟨_,rfl⟩
   have g3:(us.set k y).set p x=V:=by
    rw [hV,hus2,hp,swap_at hPl,drop_cons_of hy,show p+1 - lo=p - lo+1 by omega];simp
   have hul:us.length=N:=by rw [hus];simp only [List.length_append,List.length_cons,List.length_take,List.length_drop];omega
   have wk:IntKind.i64.wrap ((k:Int) - 1)=(p:Int):=wrapN (by omega) (by omega) (by omega)
   have l1:k < N:=by omega
   have l2:p < N:=by omega
   have hls:∀ q (t:Tm),(us.set q t).length=N:=fun q t=>by rw [List.length_set,hul]
   obtain ⟨z,g4⟩:∃ z,(us.set k y)[p]?=some z:=⟨_,List.getElem?_eq_getElem (by rw [List.length_set];omega)⟩
   (have F:=ai @q3 @tmz;have NN:StopAt 23:=trivial;refine gGn ?_;clear F NN)
   refine gF0 ?_
   refine gFm 0 ?_
   refine gFm 1 ?_
   refine gFm 2 ?_
   refine gFm 3 ?_
   refine (have F:=(ai wk (ai l1 (ai l2 (ai hul (ai g1 (ai g2 (ai g4 (ai hls (ai @encTms_len (ai @tms_set tmz))))))))));gFb 4 ?_)
   refine gFm 5 ?_
   refine gFm 6 ?_
   refine (have F:=(ai wk (ai l1 (ai l2 (ai hul (ai g1 (ai g2 (ai g4 (ai hls (ai @encTms_len (ai @tms_set tmz))))))))));gFb 7 ?_)
   refine (have F:=(ai wk (ai l1 (ai l2 (ai hul (ai g1 (ai g2 (ai g4 (ai hls (ai @encTms_len (ai @tms_set tmz))))))))));gFi (rows:=encTms us) 8 p (by rw [encTms_len];omega) ?_)
   refine gFm 10 ?_
   refine gFm 11 ?_
   refine (have F:=(ai wk (ai l1 (ai l2 (ai hul (ai g1 (ai g2 (ai g4 (ai hls (ai @encTms_len (ai @tms_set tmz))))))))));gFi (rows:=encTms us) 12 k (by rw [encTms_len];omega) ?_)
   refine gFT ?_
   refine gO2 9 13 ?_ ?_
   ·refine (have F:=(ai wk (ai l1 (ai l2 (ai hul (ai g1 (ai g2 (ai g4 (ai hls (ai @encTms_len (ai @tms_set tmz))))))))));gO3 ?_)
    refine gO1 13 ?_
    refine (have F:=(ai wk (ai l1 (ai l2 (ai hul (ai g1 (ai g2 (ai g4 (ai hls (ai @encTms_len (ai @tms_set tmz))))))))));gO3 ?_)
    refine gO1 14 ?_
    refine (have F:=(ai wk (ai l1 (ai l2 (ai hul (ai g1 (ai g2 (ai g4 (ai hls (ai @encTms_len (ai @tms_set tmz))))))))));gO3 ?_)
    refine gO1 15 ?_
    refine (have F:=(ai wk (ai l1 (ai l2 (ai hul (ai g1 (ai g2 (ai g4 (ai hls (ai @encTms_len (ai @tms_set tmz))))))))));gO3 ?_)
    refine gO1 16 ?_
    refine (have F:=(ai wk (ai l1 (ai l2 (ai hul (ai g1 (ai g2 (ai g4 (ai hls (ai @encTms_len (ai @tms_set tmz))))))))));gO3 ?_)
    refine gO1 17 ?_
    refine (have F:=(ai wk (ai l1 (ai l2 (ai hul (ai g1 (ai g2 (ai g4 (ai hls (ai @encTms_len (ai @tms_set tmz))))))))));gO3 ?_)
    refine (have F:=tmz;gT0 ?_)
    refine Exists.intro _ (ai (Wk.refl _) ?_)
    rw [g3]
    (have F:=@wk;refine gG ?_;exact ⟨(p,V),⟨by omega,by omega,hV⟩,gw,gw,by omega⟩)
   ·refine (have F:=(ai wk (ai l1 (ai l2 (ai hul (ai g1 (ai g2 (ai g4 (ai hls (ai @encTms_len (ai @tms_set tmz))))))))));gO3 ?_)
    refine gO1 9 ?_
    refine (have F:=(ai wk (ai l1 (ai l2 (ai hul (ai g1 (ai g2 (ai g4 (ai hls (ai @encTms_len (ai @tms_set tmz))))))))));gO3 ?_)
    refine gO1 14 ?_
    refine (have F:=(ai wk (ai l1 (ai l2 (ai hul (ai g1 (ai g2 (ai g4 (ai hls (ai @encTms_len (ai @tms_set tmz))))))))));gO3 ?_)
    refine gO1 15 ?_
    refine (have F:=(ai wk (ai l1 (ai l2 (ai hul (ai g1 (ai g2 (ai g4 (ai hls (ai @encTms_len (ai @tms_set tmz))))))))));gO3 ?_)
    refine gO1 16 ?_
    refine (have F:=(ai wk (ai l1 (ai l2 (ai hul (ai g1 (ai g2 (ai g4 (ai hls (ai @encTms_len (ai @tms_set tmz))))))))));gO3 ?_)
    refine gO1 17 ?_
    refine (have F:=(ai wk (ai l1 (ai l2 (ai hul (ai g1 (ai g2 (ai g4 (ai hls (ai @encTms_len (ai @tms_set tmz))))))))));gO3 ?_)
    refine (have F:=tmz;gT0 ?_)
    refine Exists.intro _ (ai (Wk.refl _) ?_)
    rw [g3]
    (have F:=@wk;refine gG ?_;exact ⟨(p,V),⟨by omega,by omega,hV⟩,gw,gw,by omega⟩)
  have q3:((i:Int) < (k:Int))=False:=eq_false (by omega)
  obtain rfl:i=k:=by omega
  subst hus
  rw [show P++A.take (i - lo)++x::(A.drop (i - lo)++Q)=P++(A.take (i - lo)++x::A.drop (i - lo))++Q by simp]
  (have F:=ai @q3 @tmz;refine gG ?_;clear F)
  first | exact (have F:=@e0P;gTPe (R:=RBuf a cap (P++(A.take (i - lo)++x::A.drop (i - lo))++Q)) [1000] ⟨rfl,rfl⟩) | exact (have F:=@e0P;gTP (R:=RBuf a cap (P++(A.take (i - lo)++x::A.drop (i - lo))++Q)) [1000] ⟨rfl,rfl⟩)
 have q1':((B.length:Int)=1)=False:=eq_false (by omega)
 obtain ⟨s0,mid,u1,u2,u3,u4,hmid⟩:=half_of lo hi (by omega)
 obtain ⟨nn,hnn⟩:∃ nn,nn=mid+mi:=⟨_,rfl⟩
 obtain ⟨p,hp⟩:∃ p,nn=p+1:=⟨nn - 1,by omega⟩
 have w2:IntKind.i64.wrap ((mid:Int)+(mi:Int))=(nn:Int):=wrapN (by omega) (by omega) (by omega)
 have w3:IntKind.i64.wrap ((nn:Int) - 1)=(p:Int):=wrapN (by omega) (by omega) (by omega)
 (have F:=ai @w0 (ai @w1 (ai @q1 (ai @q1' (ai @u1 (ai @u2 (ai @u3 (ai @u4 (ai @un_int (ai @un_intK (ai @un_uint (ai @un_uintK (ai @cv_uint (ai @cv_intU (ai @toNat_one (ai @bx_shr (ai @w2 @tmz))))))))))))))));refine gG ?_;clear F)
 clear q1 q1' u1 u2 u3 u4
 refine gM (ι:=Nat × Nat) [20,21] [] (fun z=>[(20,.d (.one (.lit (.int .i64 (z.1:Int))))),(21,.d (.one (.lit (.int .i64 (z.2:Int)))))]) (fun z=>[]) (fun z=>mid < mi∧z.1+hi=nn∧z.2=mid∨mi<=mid∧z.1=lo∧z.2=mi) ?_ (fun z hz=>Exists.intro _ (ai (Wk.refl _) ?_))
 ·by_cases hgt:mid < mi
  ·have q2:decide ((mid:Int) < (mi:Int))=true:=decide_eq_true (by omega)
   have w4:IntKind.i64.wrap ((nn:Int) - (hi:Int))=((nn - hi:Nat):Int):=wrapN (by omega) (by omega) (by omega)
   generalize hv:nn - hi=v at w4
   have q2':(mid < mi)=True:=eq_true hgt
   (have F:=ai @q2 (ai @q2' (ai @w4 @tmz));refine gG ?_;exact ⟨(v,mid),.inl ⟨hgt,by simp only;omega,rfl⟩,gw,gw⟩)
  ·have q2:decide ((mid:Int) < (mi:Int))=false:=decide_eq_false (by omega)
   have q2':(mi<=mid)=True:=eq_true (by omega)
   (have F:=ai @q2 (ai @q2' @tmz);refine gG ?_;exact ⟨(lo,mi),.inr ⟨by omega,rfl,rfl⟩,gw,gw⟩)
 obtain ⟨st,r0⟩:=z
 simp only at hz
 dsimp only
 (have F:=ai @w3 @tmz;refine gG ?_;clear F)
 (have F:=@tmz;refine gL (ι:=Nat × Nat) [20,21,23,151,171] [] (fun z=>[(20,.d (.one (.lit (.int .i64 (z.1:Int))))),(21,.d (.one (.lit (.int .i64 (z.2:Int)))))]) (fun z=>[]) (fun z=>st<=z.1∧z.1<=z.2∧z.2<=r0∧SymL A B lo mid st z.1∧SymR A B lo mid r0 z.2) (fun z=>z.2 - z.1) ((st,r0)) (⟨Nat.le_refl _,by omega,Nat.le_refl _,fun h=>by omega,fun h=>by omega⟩) (fun z hz=>?_);clear F)
 obtain ⟨i,j⟩:=z
 rename_i hcase
 obtain ⟨h1,h2,h3,h4,h5⟩:=hz
 simp only at h1 h2 h3 h4 h5
 dsimp only
 by_cases hij:i < j
 ·have q2:((i:Int) < (j:Int))=True:=eq_true (by omega)
  obtain ⟨s,c,u1,u2,u3,u4,hc⟩:=half_of i j (by omega)
  obtain ⟨y,hy⟩:∃ y,A[c - lo]?=some y:=⟨_,List.getElem?_eq_getElem (by omega)⟩
  obtain ⟨x,hx⟩:∃ x,B[mid - 1 - c]?=some x:=⟨_,List.getElem?_eq_getElem (by omega)⟩
  obtain ⟨d,hd⟩:∃ d,d+c=p:=⟨p - c,by omega⟩
  have gy:U[c]?=some y:=by rw [hU];exact get_A hy (by omega)
  have gx:U[d]?=some x:=by rw [hU];exact get_B hx (by omega)
  have lc:c < N:=by omega
  have ld:d < N:=by omega
  have wc:=wrap1 (k:=c) (by omega)
  have wd:IntKind.i64.wrap ((p:Int) - (c:Int))=(d:Int):=wrapN (by omega) (by omega) (by omega)
  (have F:=ai @q2 (ai @u1 (ai @u2 (ai @u3 (ai @u4 (ai @un_int (ai @un_intK (ai @un_uint (ai @un_uintK (ai @cv_uint (ai @cv_intU (ai @toNat_one (ai @bx_shr @tmz))))))))))));refine gG ?_;clear F)
  refine gB ?_
  (have F:=ai @tmz (ai @gx (ai @gy (ai @lc (ai @ld (ai @wd (ai @hUl @encTms_len))))));refine gC (con_1 (con_cmp1 x y)) ?_;clear F)
  by_cases hcc:cmpTm x y < 0
  ·have z1:(cmpTm x y < 0)=True:=eq_true hcc
   (have F:=ai @z1 @tmz;refine gR ?_;clear F)
   (have F:=@z1;refine gG ?_;exact ⟨(i,c),⟨h1,by omega,by omega,h4,fun _=>⟨x,y,hx,hy,by omega⟩⟩,gw,gw,by omega⟩)
  ·have z1:(cmpTm x y < 0)=False:=eq_false hcc
   (have F:=ai @z1 @tmz;refine gR ?_;clear F)
   (have F:=ai @z1 @wc;refine gG ?_;exact ⟨(c+1,j),⟨by omega,by omega,h3,fun _=>⟨y,x,by rw [<- hy];congr 1,by rw [<- hx];congr 1;omega,le_ge hcc⟩,h5⟩,gw,gw,by omega⟩)
 have q2:((i:Int) < (j:Int))=False:=eq_false (by omega)
 obtain rfl:i=j:=by omega
 have hcut:=sym_cut hA hB (s:=i - lo) (e:=mid - i) (fun e1 e2=>by
  obtain ⟨u,v,k1,k2,k3⟩:=h4 (by omega)
  exact ⟨u,v,by rw [<- k1];congr 1;omega,k2,k3⟩) (fun e1 e2=>by
  obtain ⟨u,v,k1,k2,k3⟩:=h5 (by omega)
  exact ⟨u,v,by rw [<- k1];congr 1;omega,k2,k3⟩)
 have eA:A=A.take (i - lo)++A.drop (i - lo):=(List.take_append_drop _ _).symm
 have eB:B=B.take (mid - i)++B.drop (mid - i):=(List.take_append_drop _ _).symm
 have lA1:(A.take (i - lo)).length=i - lo:=by rw [List.length_take];omega
 have lA2:(A.drop (i - lo)).length=mi - i:=by rw [List.length_drop];omega
 have lB1:(B.take (mid - i)).length=mid - i:=by rw [List.length_take];omega
 have lB2:(B.drop (mid - i)).length=hi+i - mi - mid:=by rw [List.length_drop];omega
 have uA1:=hA.take (i - lo)
 have uA2:=hA.drop (i - lo)
 have uB1:=hB.take (mid - i)
 have uB2:=hB.drop (mid - i)
 generalize A.take (i - lo)=A1 at hcut eA lA1 uA1
 generalize A.drop (i - lo)=A2 at hcut eA lA2 uA2
 generalize B.take (mid - i)=B1 at hcut eB lB1 uB1
 generalize B.drop (mid - i)=B2 at hcut eB lB2 uB2
 have hsort:=sort_split hcut
 rw [<- eA,<- eB] at hsort
 rw [<- hsort]
 obtain ⟨ed,hed⟩:∃ ed,ed+i=nn:=⟨nn - i,by omega⟩
 have w5:IntKind.i64.wrap ((nn:Int) - (i:Int))=(ed:Int):=wrapN (by omega) (by omega) (by omega)
 clear h4 h5 hcut hsort hA hB
 (have F:=ai @q2 (ai @w5 @tmz);refine gG ?_;clear F)
 refine gM (ι:=Bool) [185] [] (fun b=>[(185,.d (.one (.lit (.bool b))))]) (fun b=>[]) (fun b=>b=decide (i < mi∧mi < ed)) ?_ (fun b hb=>Exists.intro _ (ai (Wk.refl _) ?_))
 ·by_cases hr1:i < mi
  ·have q3:((i:Int) < (mi:Int))=True:=eq_true (by omega)
   by_cases hr2:mi < ed
   ·have q4:((mi:Int) < (ed:Int))=True:=eq_true (by omega)
    (have F:=ai @q3 (ai @q4 @tmz);refine gG ?_;exact ⟨true,(decide_eq_true (ai hr1 hr2)).symm,gw,gw⟩)
   ·have q4:((mi:Int) < (ed:Int))=False:=eq_false (by omega)
    (have F:=ai @q3 (ai @q4 @tmz);refine gG ?_;exact ⟨false,(decide_eq_false fun h=>hr2 h.2).symm,gw,gw⟩)
  ·have q3:((i:Int) < (mi:Int))=False:=eq_false (by omega)
   (have F:=ai @q3 @tmz;refine gG ?_;exact ⟨false,(decide_eq_false fun h=>hr1 h.1).symm,gw,gw⟩)
 subst hb
 refine gM (ι:=Unit) [] [1000] (fun z=>[]) (fun z=>[(1000,.buf (some (a,cap)) 46 4 (encTms (P++A1++B1++(A2++B2++Q))))]) (fun z=>True) ?_ (fun z hz=>Exists.intro _ (ai (Wk.refl _) ?_))
 ·by_cases hr:i < mi∧mi < ed
  ·rw [decide_eq_true hr]
   obtain ⟨hr1,hr2⟩:=hr
   have c:=conP_rot (P++A1) A2 B1 (B2++Q) (by omega) (by omega) (A:=i) (M:=mi) (B:=ed) (N:=N) (by rw [List.length_append];omega) (by rw [List.length_append];omega) (by rw [List.length_append];omega) (by rw [List.length_append,List.length_append];omega) hmx a cap
   rw [show P++A1++A2++B1++(B2++Q)=U by rw [hU,eA,eB];simp,show P++A1++B1++A2++(B2++Q)=P++A1++B1++(A2++B2++Q) by simp] at c
   generalize P++A1++B1++(A2++B2++Q)=V at c ⊢
   (have F:=@tmz;have NN:StopAt 40:=trivial;refine gGn ?_;clear F NN)
   refine gB ?_
   (have F:=@tmz;refine gCP [1000] [1000] (c) ?_;clear F)
   rintro r pm ⟨rfl,rfl⟩
   simp only [setA,retA,zipM,List.cons_append,List.nil_append]
   (have F:=@tmz;refine gR ?_;clear F)
   exact ⟨(),trivial,gw,gw⟩
  ·have hUU:U=P++A1++B1++(A2++B2++Q):=by
    rw [hU,eA,eB]
    rcases (show mi<=i∨mid<=i by omega) with h | h
    ·have:A2=[]:=List.eq_nil_of_length_eq_zero (by omega)
     subst this;simp
    ·have:B1=[]:=List.eq_nil_of_length_eq_zero (by omega)
     subst this;simp
   rw [<- hUU,decide_eq_false hr]
   (have F:=@tmz;refine gG ?_;exact ⟨(),trivial,gw,gw⟩)
 clear hU hUl U
 refine pwp_seqW ?_
 refine pwp_seqW ?_
 refine gM (ι:=Bool) [199] [] (fun b=>[(199,.d (.one (.lit (.bool b))))]) (fun b=>[]) (fun b=>b=decide (lo < i∧i < mid)) ?_ (fun b hb=>Exists.intro _ (ai (Wk.refl _) ?_))
 ·by_cases hr1:lo < i
  ·have q3:((lo:Int) < (i:Int))=True:=eq_true (by omega)
   by_cases hr2:i < mid
   ·have q4:((i:Int) < (mid:Int))=True:=eq_true (by omega)
    (have F:=ai @q3 (ai @q4 @tmz);refine gG ?_;exact ⟨true,(decide_eq_true (ai hr1 hr2)).symm,gw,gw⟩)
   ·have q4:((i:Int) < (mid:Int))=False:=eq_false (by omega)
    (have F:=ai @q3 (ai @q4 @tmz);refine gG ?_;exact ⟨false,(decide_eq_false fun h=>hr2 h.2).symm,gw,gw⟩)
  ·have q3:((lo:Int) < (i:Int))=False:=eq_false (by omega)
   (have F:=ai @q3 @tmz;refine gG ?_;exact ⟨false,(decide_eq_false fun h=>hr1 h.1).symm,gw,gw⟩)
 subst hb
 refine gM (ι:=Unit) [] [1000] (fun z=>[]) (fun z=>[(1000,.buf (some (a,cap)) 46 4 (encTms (P++sortTm (A1++B1)++(A2++B2++Q))))]) (fun z=>True) ?_ (fun z hz=>Exists.intro _ (ai (Wk.refl _) ?_))
 ·by_cases hr:lo < i∧i < mid
  ·rw [decide_eq_true hr]
   obtain ⟨hr1,hr2⟩:=hr
   have c:=ih P A1 B1 (A2++B2++Q) (by omega) (by omega) (by omega) uA1 uB1 (lo:=lo) (mi:=i) (hi:=mid) (N:=N) hlo (by omega) (by omega) (by simp only [List.length_append];omega) hmx a cap
   generalize P++sortTm (A1++B1)++(A2++B2++Q)=V at c ⊢
   generalize P++A1++B1++(A2++B2++Q)=V' at c ⊢
   (have F:=@tmz;have NN:StopAt 42:=trivial;refine gGn ?_;clear F NN)
   refine gB ?_
   (have F:=@tmz;refine gCP [1000] [1000] (c) ?_;clear F)
   rintro r pm ⟨rfl,rfl⟩
   simp only [setA,retA,zipM,List.cons_append,List.nil_append]
   (have F:=@tmz;refine gR ?_;clear F)
   exact ⟨(),trivial,gw,gw⟩
  ·have hs:sortTm (A1++B1)=A1++B1:=by
    rcases (show i<=lo∨mid<=i by omega) with h | h
    ·have:A1=[]:=List.eq_nil_of_length_eq_zero (by omega)
     subst this;exact sortTm_self uB1
    ·have:B1=[]:=List.eq_nil_of_length_eq_zero (by omega)
     subst this;rw [List.append_nil];exact sortTm_self uA1
   rw [hs,<- List.append_assoc P,decide_eq_false hr]
   generalize P++A1++B1++(A2++B2++Q)=V
   (have F:=@tmz;refine gG ?_;exact ⟨(),trivial,gw,gw⟩)
 have hsl:(sortTm (A1++B1)).length=mid - lo:=by rw [sortTm_len,List.length_append];omega
 generalize sortTm (A1++B1)=S1 at hsl ⊢
 rw [show P++S1++(A2++B2++Q)=P++S1++A2++B2++Q by simp,show P++(S1++sortTm (A2++B2))++Q=P++S1++sortTm (A2++B2)++Q by simp]
 refine pwp_seqW ?_
 refine gM (ι:=Bool) [213] [] (fun b=>[(213,.d (.one (.lit (.bool b))))]) (fun b=>[]) (fun b=>b=decide (mid < ed∧ed < hi)) ?_ (fun b hb=>Exists.intro _ (ai (Wk.refl _) ?_))
 ·by_cases hr1:mid < ed
  ·have q3:((mid:Int) < (ed:Int))=True:=eq_true (by omega)
   by_cases hr2:ed < hi
   ·have q4:((ed:Int) < (hi:Int))=True:=eq_true (by omega)
    (have F:=ai @q3 (ai @q4 @tmz);refine gG ?_;exact ⟨true,(decide_eq_true (ai hr1 hr2)).symm,gw,gw⟩)
   ·have q4:((ed:Int) < (hi:Int))=False:=eq_false (by omega)
    (have F:=ai @q3 (ai @q4 @tmz);refine gG ?_;exact ⟨false,(decide_eq_false fun h=>hr2 h.2).symm,gw,gw⟩)
  ·have q3:((mid:Int) < (ed:Int))=False:=eq_false (by omega)
   (have F:=ai @q3 @tmz;refine gG ?_;exact ⟨false,(decide_eq_false fun h=>hr1 h.1).symm,gw,gw⟩)
 subst hb
 by_cases hr:mid < ed∧ed < hi
 ·rw [decide_eq_true hr]
  obtain ⟨hr1,hr2⟩:=hr
  have c:=ih (P++S1) A2 B2 Q (by omega) (by omega) (by omega) uA2 uB2 (lo:=mid) (mi:=ed) (hi:=hi) (N:=N) (by rw [List.length_append];omega) (by rw [List.length_append];omega) (by rw [List.length_append];omega) (by simp only [List.length_append];omega) hmx a cap
  generalize P++S1++sortTm (A2++B2)++Q=V at c ⊢
  generalize P++S1++A2++B2++Q=V' at c ⊢
  (have F:=@tmz;have NN:StopAt 44:=trivial;refine gGn ?_;clear F NN)
  refine gB ?_
  (have F:=@tmz;refine gCP [1000] [1000] (c) ?_;clear F)
  rintro r pm ⟨rfl,rfl⟩
  simp only [setA,retA,zipM,List.cons_append,List.nil_append]
  (have F:=@tmz;refine gR ?_;clear F)
  first | exact (have F:=@e0P;gTPe (R:=RBuf a cap V) [1000] ⟨rfl,rfl⟩) | exact (have F:=@e0P;gTP (R:=RBuf a cap V) [1000] ⟨rfl,rfl⟩)
 ·have hs:sortTm (A2++B2)=A2++B2:=by
   rcases (show ed<=mid∨hi<=ed by omega) with h | h
   ·have:A2=[]:=List.eq_nil_of_length_eq_zero (by omega)
    subst this;exact sortTm_self uB2
   ·have:B2=[]:=List.eq_nil_of_length_eq_zero (by omega)
    subst this;rw [List.append_nil];exact sortTm_self uA2
  rw [hs,<- List.append_assoc (P++S1),decide_eq_false hr]
  generalize P++S1++A2++B2++Q=V
  (have F:=@tmz;refine gG ?_;clear F)
  first | exact (have F:=@e0P;gTPe (R:=RBuf a cap V) [1000] ⟨rfl,rfl⟩) | exact (have F:=@e0P;gTP (R:=RBuf a cap V) [1000] ⟨rfl,rfl⟩)
end Go.Proofs.YtffmjghcpgpfpaaGreatDoor
namespace Go.Proofs.YtffmjghcpgpfpaaGreatDoor
open Go.RowKit
theorem perm_mid {X A B r ts:List Tm} (h:(X++A++r).Perm ts) (hB:B.Perm A):(X++B++r).Perm ts:=((List.Perm.append_left X hB).append_right r).trans h
set_option maxHeartbeats 16000000 in
set_option maxRecDepth 100000 in
theorem conP_stableC (ts:List Tm) {N:Nat} (hN:N=ts.length) (hmx:N<=4000000) (a:Option Addr) (cap:Nat) :
  ConP e0 232 [.one (.lit (.slice a N cap)),.one (.lit (.int .i64 N)),.one (.fn 82 [])] [.buf (some (a,cap)) 46 4 (encTms ts)] (RBuf a cap (sortTm ts)):=by
 refine gIP (ts:=[]) [1000] 18014433942971335 Tryz.func232 ?_
 (have F:=@tmz;refine gG ?_;clear F)
 (have F:=@tmz;refine gL (ι:=(Nat × Nat) × List Tm) [7,8,13] [1000] (fun z=>[(7,.d (.one (.lit (.int .i64 (z.1.1:Int))))),(8,.d (.one (.lit (.int .i64 (z.1.2:Int)))))]) (fun z=>[(1000,.buf (some (a,cap)) 46 4 (encTms z.2))]) (fun z=>z.1.2=z.1.1+20∧z.1.1<=N∧∃ X,z.2=X++ts.drop z.1.1∧X.length=z.1.1∧Full 20 X∧X.Perm (ts.take z.1.1)) (fun z=>N - z.1.1) (((0,20),ts)) (⟨rfl,Nat.zero_le _,[],rfl,rfl,.nil,List.Perm.refl _⟩) (fun z hz=>?_);clear F)
 obtain ⟨⟨i,j⟩,us⟩:=z
 obtain ⟨hj,hi,X,hus,hX,hF,hp⟩:=hz
 simp only at hj hi hus hX hp
 dsimp only
 by_cases hlt:j<=N
 ·have q1:((j:Int)<=(N:Int))=True:=eq_true (by omega)
  have hd:ts.drop i=(ts.drop i).take 20++ts.drop j:=by rw [hj,<- List.drop_drop,List.take_append_drop]
  have hl:((ts.drop i).take 20).length=20:=by rw [List.length_take,List.length_drop];omega
  have ht:ts.take j=ts.take i++(ts.drop i).take 20:=by rw [hj,List.take_add]
  have c:=conP_ins X ((ts.drop i).take 20) (ts.drop j) (A:=i) (B:=j) (N:=N) hX.symm (by omega) (by rw [List.length_drop];omega) hmx a cap
  rw [List.append_assoc X,<- hd,<- hus] at c
  have wj:IntKind.i64.wrap ((j:Int)+20)=((j+20:Nat):Int):=wrapN (by omega) (by omega) (by omega)
  obtain ⟨V,hV⟩:∃ V,V=X++sortTm ((ts.drop i).take 20)++ts.drop j:=⟨_,rfl⟩
  rw [<- hV] at c
  obtain ⟨j',hj'⟩:∃ j',j'=j+20:=⟨_,rfl⟩
  rw [<- hj'] at wj
  (have F:=ai @q1 @tmz;have NN:StopAt 3:=trivial;refine gGn ?_;clear F NN)
  refine gB ?_
  (have F:=@tmz;refine gCP [1000] [1000] (c) ?_;clear F)
  rintro r pm ⟨rfl,rfl⟩
  simp only [setA,retA,zipM,List.cons_append,List.nil_append]
  (have F:=@tmz;refine gR ?_;clear F)
  (have F:=@wj;refine gG ?_;exact ⟨((j,j'),V),⟨hj',hlt,X++sortTm ((ts.drop i).take 20),hV,by rw [List.length_append,sortTm_len];simp only;omega,hF.snoc (by rw [sortTm_len];exact hl) (sortTm_up _),by simp only;rw [ht];exact hp.append (sortTm_perm _)⟩,gw,gw,by dsimp only;omega⟩)
 have q1:((j:Int)<=(N:Int))=False:=eq_false (by omega)
 have c:=conP_ins X (ts.drop i) [] (A:=i) (B:=N) (N:=N) hX.symm (by rw [List.length_drop];omega) (by rw [List.length_drop];simp;omega) hmx a cap
 rw [List.append_nil,List.append_nil,<- hus] at c
 have hB:Blks 20 (X++sortTm (ts.drop i)):=hF.blks (by rw [sortTm_len,List.length_drop];omega) (sortTm_up _)
 have hP:(X++sortTm (ts.drop i)).Perm ts:=by
  have:=hp.append (sortTm_perm (ts.drop i))
  rwa [List.take_append_drop] at this
 generalize X++sortTm (ts.drop i)=vs at c hB hP
 (have F:=ai @q1 @tmz;have NN:StopAt 6:=trivial;refine gGn ?_;clear F NN)
 refine gB ?_
 (have F:=@tmz;refine gCP [1000] [1000] (c) ?_;clear F)
 rintro r pm ⟨rfl,rfl⟩
 simp only [setA,retA,zipM,List.cons_append,List.nil_append]
 (have F:=@tmz;refine gR ?_;clear F)
 clear c q1 hus hF hp us X hX hi hj
 (have F:=@tmz;refine gG ?_;clear F)
 (have F:=@tmz;refine gL (ι:=Nat × List Tm) [6,7,8,9,30,35,54] [1000] (fun z=>[(6,.d (.one (.lit (.int .i64 (z.1:Int)))))]) (fun z=>[(1000,.buf (some (a,cap)) 46 4 (encTms z.2))]) (fun z=>0 < z.1∧z.1<=8000000∧Blks z.1 z.2∧z.2.Perm ts) (fun z=>N - z.1) ((20,vs)) (⟨by omega,by omega,hB,hP⟩) (fun z hz=>?_);clear F)
 clear hB hP vs hlt i j
 obtain ⟨k,us⟩:=z
 obtain ⟨hk0,hk8,hB,hP⟩:=hz
 simp only at hk0 hk8 hB hP
 dsimp only
 by_cases hlt:k < N
 rotate_left
 ·have q1:((k:Int) < (N:Int))=False:=eq_false (by omega)
  have e:us=sortTm ts:=sortTm_of hP (hB.up (by rw [hP.length_eq];omega))
  subst e
  (have F:=ai @q1 @tmz;refine gG ?_;clear F)
  first | exact (have F:=@e0P;gTPe (R:=RBuf a cap (sortTm ts)) [1000] ⟨rfl,rfl⟩) | exact (have F:=@e0P;gTP (R:=RBuf a cap (sortTm ts)) [1000] ⟨rfl,rfl⟩)
 have q1:((k:Int) < (N:Int))=True:=eq_true (by omega)
 obtain ⟨k2,hk2⟩:∃ k2,k2=2 * k:=⟨_,rfl⟩
 have w1:IntKind.i64.wrap (2 * (k:Int))=(k2:Int):=wrapN (by omega) (by omega) (by omega)
 have w2:IntKind.i64.wrap ((k:Int) * 2)=(k2:Int):=wrapN (by omega) (by omega) (by omega)
 (have F:=ai @q1 (ai @w1 @tmz);refine gG ?_;clear F)
 (have F:=@tmz;refine gL (ι:=(Nat × Nat) × List Tm) [7,8,35] [1000] (fun z=>[(7,.d (.one (.lit (.int .i64 (z.1.1:Int))))),(8,.d (.one (.lit (.int .i64 (z.1.2:Int)))))]) (fun z=>[(1000,.buf (some (a,cap)) 46 4 (encTms z.2))]) (fun z=>z.1.2=z.1.1+k2∧z.1.1<=N∧∃ X Y,z.2=X++Y∧X.length=z.1.1∧Full k2 X∧Blks k Y∧(X++Y).Perm ts) (fun z=>N - z.1.1) (((0,k2),us)) (⟨(Nat.zero_add _).symm,Nat.zero_le _,[],us,rfl,rfl,.nil,hB,hP⟩) (fun z hz=>?_);clear F)
 obtain ⟨⟨i,j⟩,vs⟩:=z
 obtain ⟨hj,hi,X,Y,hvs,hX,hF,hY,hp⟩:=hz
 simp only at hj hi hvs hX
 dsimp only
 have hpl:=hp.length_eq
 rw [List.length_append] at hpl
 obtain ⟨m,hm⟩:∃ m,m=i+k:=⟨_,rfl⟩
 have w3:IntKind.i64.wrap ((i:Int)+(k:Int))=(m:Int):=wrapN (by omega) (by omega) (by omega)
 by_cases hjl:j<=N
 ·have q2:((j:Int)<=(N:Int))=True:=eq_true (by omega)
  obtain ⟨A,B,r,hY',hA,hB',uA,uB,hr⟩:=hY.two hk0 (by omega)
  have hYl:=congrArg List.length hY'
  simp only [List.length_append] at hYl
  have c:=conP_sym _ X A B r (Nat.le_refl _) (by omega) (by omega) uA uB (lo:=i) (mi:=m) (hi:=j) (N:=N) hX.symm (by omega) (by omega) (by omega) hmx a cap
  have e1:X++A++B++r=vs:=by rw [hvs,hY'];simp
  rw [e1] at c
  have hp2:(X++sortTm (A++B)++r).Perm ts:=perm_mid (A:=A++B) (by rw [<- List.append_assoc,e1,hvs];exact hp) (sortTm_perm _)
  obtain ⟨V,hV⟩:∃ V,V=X++sortTm (A++B)++r:=⟨_,rfl⟩
  rw [<- hV] at c
  obtain ⟨j',hj'⟩:∃ j',j'=j+k2:=⟨_,rfl⟩
  have wj:IntKind.i64.wrap ((j:Int)+(k2:Int))=(j':Int):=wrapN (by omega) (by omega) (by omega)
  (have F:=ai @q2 @tmz;have NN:StopAt 10:=trivial;refine gGn ?_;clear F NN)
  refine gB ?_
  (have F:=ai @tmz @w3;refine gCP [1000] [1000] (c) ?_;clear F)
  rintro r' pm ⟨rfl,rfl⟩
  simp only [setA,retA,zipM,List.cons_append,List.nil_append]
  (have F:=@tmz;refine gR ?_;clear F)
  (have F:=ai @w1 @wj;refine gG ?_;exact ⟨((j,j'),V),⟨hj',hjl,X++sortTm (A++B),r,hV,by simp only;rw [List.length_append,sortTm_len,List.length_append];omega,hF.snoc (by rw [sortTm_len,List.length_append];omega) (sortTm_up _),hr,hp2⟩,gw,gw,by dsimp only;omega⟩)
 have q2:((j:Int)<=(N:Int))=False:=eq_false (by omega)
 by_cases hmn:m < N
 ·have q3:((m:Int) < (N:Int))=True:=eq_true (by omega)
  obtain ⟨A,B,hY',hA,uA,hB'⟩:=hY.split (by omega)
  have hYl:=congrArg List.length hY'
  simp only [List.length_append] at hYl
  have uB:=hB'.up (by omega)
  have c:=conP_sym _ X A B [] (Nat.le_refl _) (by omega) (by omega) uA uB (lo:=i) (mi:=m) (hi:=N) (N:=N) hX.symm (by omega) (by omega) (by simp only [List.length_nil];omega) hmx a cap
  have e1:X++A++B++[]=vs:=by rw [hvs,hY'];simp
  rw [e1] at c
  have hp2:(X++sortTm (A++B)++[]).Perm ts:=perm_mid (A:=A++B) (by rw [<- List.append_assoc,e1,hvs];exact hp) (sortTm_perm _)
  rw [List.append_nil] at hp2
  obtain ⟨V,hV⟩:∃ V,V=X++sortTm (A++B):=⟨_,rfl⟩
  rw [List.append_nil,<- hV] at c
  (have F:=ai @q2 (ai @q3 (ai @w3 @tmz));have NN:StopAt 15:=trivial;refine gGn ?_;clear F NN)
  refine gB ?_
  (have F:=@tmz;refine gCP [1000] [1000] (c) ?_;clear F)
  rintro r' pm ⟨rfl,rfl⟩
  simp only [setA,retA,zipM,List.cons_append,List.nil_append]
  (have F:=@tmz;refine gR ?_;clear F)
  (have F:=@w2;refine gG ?_;exact ⟨(k2,V),⟨by omega,by omega,by rw [hV];exact hF.blks (by rw [sortTm_len,List.length_append];omega) (sortTm_up _),by rw [hV];exact hp2⟩,gw,gw,by omega⟩)
 have q3:((m:Int) < (N:Int))=False:=eq_false (by omega)
 (have F:=ai @q2 (ai @q3 (ai @w2 @w3));refine gG ?_;exact ⟨(k2,vs),⟨by omega,by omega,by rw [hvs];exact hF.blks (by omega) (hY.up (by omega)),by rw [hvs];exact hp⟩,gw,gw,by omega⟩)
set_option maxHeartbeats 8000000 in
set_option maxRecDepth 100000 in
theorem conP_stable (ts:List Tm) (hmx:ts.length<=4000000) (a:Option Addr) (cap:Nat) :
  ConP e0 179 [.one (.lit (.slice a ts.length cap)),.one (.fn 82 [])] [.buf (some (a,cap)) 46 4 (encTms ts)] (RBuf a cap (sortTm ts)):=by
 refine gIP (ts:=[]) [1000] 3 Tryz.func179 ?_
 refine gB ?_
 (have F:=@tmz;refine gCP [1000] [1000] (conP_stableC ts rfl hmx a cap) ?_;clear F)
 rintro r pm ⟨rfl,rfl⟩
 simp only [setA,retA,zipM,List.cons_append,List.nil_append]
 (have F:=@tmz;refine gR ?_;clear F)
 (have F:=@tmz;refine gG ?_;clear F)
 first | exact (have F:=@e0P;gTPe (R:=RBuf a cap (sortTm ts)) [1000] ⟨rfl,rfl⟩) | exact (have F:=@e0P;gTP (R:=RBuf a cap (sortTm ts)) [1000] ⟨rfl,rfl⟩)
end Go.Proofs.YtffmjghcpgpfpaaGreatDoor
namespace Go.Proofs.YtffmjghcpgpfpaaGreatDoor
open Go.RowKit
def zTm:Tm:=.mk 0 ByteArray.empty 0 []
theorem zTm_u:encTm zTm=[.lit (.int .i64 0),.lit (.string ByteArray.empty),.lit (.int .i64 0),.sl []]:=by simp [zTm,encTm,encTms]
theorem encTms_nil:encTms []=[]:=by simp [encTms]
end Go.Proofs.YtffmjghcpgpfpaaGreatDoor
namespace Go.Proofs.YtffmjghcpgpfpaaGreatDoor
open Go.RowKit
theorem flArgs_bound {g:Sgn} {o:Opr} {op:Int}:∀ {xs:List Tm},(∀ a∈xs,TermOk g a)->(flArgs o op xs).length<=60 * xs.length∧sizeTms (flArgs o op xs)<=60 * xs.length∧depthTms (flArgs o op xs)<=20
 | [],_=>⟨Nat.le_refl _,Nat.le_refl _,by simp [flArgs,depthTms]⟩
 | a::xs,h=>by
  obtain ⟨i1,i2,i3⟩:=flArgs_bound (o:=o) (op:=op) fun x hx=>h x (List.mem_cons_of_mem _ hx)
  have ha:=h a List.mem_cons_self
  have e:flArgs o op (a::xs)=flArg o op a++flArgs o op xs:=rfl
  have s1:=ha.size
  have s2:=ha.depth
  rw [sizeTm_eq] at s1
  rw [depthTm_eq] at s2
  have sl:=sizeTms_len a.args
  have hf:(flArg o op a).length<=60∧sizeTms (flArg o op a)<=60∧depthTms (flArg o op a)<=20:=by
   unfold flArg
   split
   ·exact ⟨by omega,by omega,by omega⟩
   ·split
    ·exact ⟨by simp,by simp [sizeTms],by simp [depthTms]⟩
    ·refine ⟨by simp,?_,?_⟩
     ·have:=ha.size;simp only [sizeTms];omega
     ·have:=ha.depth;simp only [depthTms];omega
  have happ:∀ (l m:List Tm),sizeTms (l++m)=sizeTms l+sizeTms m∧depthTms (l++m)=max (depthTms l) (depthTms m):=fun l m=>by
   induction l with
   | nil=>simp [sizeTms,depthTms]
   | cons x l ih=>simp only [List.cons_append,sizeTms,depthTms,ih.1,ih.2];omega
  rw [e,List.length_append,(happ _ _).1,(happ _ _).2,List.length_cons]
  omega
section
variable {g:Sgn} {mc:C}
set_option maxHeartbeats 4000000 in
set_option maxRecDepth 100000 in
theorem con_unitOf (hg:SgnOk g) {op:Int} {o:Opr} (h0:0<=op) (ho:g.ops[op.toNat]?=some o) (hu:o.unit≠0):Con e0 178 [.one (.ptr (encX g mc)),.one (.lit (.int .i64 op))] [.agg (encTm (unitTm o))]:=by
 have hax:=hg.axs o (List.mem_of_getElem? ho)
 have hlo:=hax.lo
 have hhi:=hax.hi
 have hln:=hg.len
 have hw:IntKind.i64.wrap (o.unit - 1)=o.unit - 1:=wrapN rfl (by omega) (by omega)
 have em:encTm (unitTm o)=[.lit (.int .i64 (o.unit - 1)),.lit (.string ByteArray.empty),.lit (.int .i64 0),.sl []]:=by simp only [unitTm,if_neg hu,encTm,encTms]
 refine gI (ts:=[.cell 4 46]) 19 Tryz.func178 ?_
 (have F:=ai @encX_u (ai @h0 (ai @ho (ai @encOpr_u (ai @hw (ai @em @tmz)))));refine gG ?_;exact gTd)
open Classical in
set_option maxHeartbeats 32000000 in
set_option maxRecDepth 100000 in
theorem con_build (hg:SgnOk g) {op:Int} {o:Opr} {d:Dcl} (h0:0<=op) (ho:g.ops[op.toNat]?=some o) (hd:o.decls[0]?=some d) (xs:List Tm) (ha:∀ a∈xs,TermOk g a) (hl:xs.length<=1000):Con e0 118 [.one (.ptr (encX g mc)),.one (.lit (.int .i64 op)),.one (.sl (encTms xs))] [.agg (encTm ((mkO g o d op xs).getD zTm)),.one (.lit (.bool (mkO g o d op xs).isSome))]:=by
 have hz:=zTm_u
 have hfb:=flArgs_bound (o:=o) (op:=op) ha
 refine gI (ts:=[.cell 6 46,.slot 7]) 85070612101775940130758990405381922759 Tryz.func118 ?_
 by_cases hAr:ArB o d xs.length
 ·rw [show mkO g o d op xs=none by unfold mkO;rw [if_pos hAr]]
  rcases hAr with ⟨h1,h2⟩ | ⟨h1,h2⟩
  ·have q1:((xs.length:Int) < 2)=True:=eq_true (by omega)
   (have F:=ai @encX_u (ai @h0 (ai @ho (ai @encOpr_u (ai @h1 (ai @q1 (ai @hz @tmz))))));refine gG ?_;exact gTd)
  ·have q1:((xs.length:Int)=(d.args.length:Int))=False:=eq_false (by omega)
   (have F:=ai @encX_u (ai @h0 (ai @ho (ai @encOpr_u (ai @h1 (ai @hd (ai @encDcl_u (ai @q1 (ai @hz @tmz))))))));refine gG ?_;exact gTd)
 (have F:=ai @tmz (ai @encX_u (ai @h0 (ai @ho @encOpr_u)));refine gG ?_;clear F)
 refine gM (ι:=Unit) [43] [] (fun u=>[(43,A.d (.one (.lit (.bool false))))]) (fun u=>[]) (fun u=>True) ?_ (fun u hu=>Exists.intro _ (ai (Wk.refl _) ?_))
 ·cases ha:o.assoc with
  | true =>
   have c1:((xs.length:Int) < 2)=False:=eq_false fun c=>hAr (.inl ⟨ha,by omega⟩)
   (have F:=ai @tmz (ai @encOpr_u (ai @ha @c1));refine gG ?_;exact ⟨(),trivial,gw,gw⟩)
  | false =>
   have c3:((xs.length:Int)=(d.args.length:Int))=True:=eq_true (by have:¬ (xs.length≠d.args.length):=fun c=>hAr (.inr ⟨ha,c⟩);omega)
   (have F:=ai @tmz (ai @encOpr_u (ai @ha (ai @hd (ai @encDcl_u @c3))));refine gG ?_;exact ⟨(),trivial,gw,gw⟩)
 have hnas:o.assoc=false->xs.length=d.args.length:=fun h=>Classical.byContradiction fun c=>hAr (.inr ⟨h,c⟩)
 have hfl0:flArgs o op []=[]:=rfl
 (have F:=@tmz;refine gG ?_;clear F)
 (have F:=ai @hfl0 (ai @encTms_nil @tmz);refine gL (ι:=Nat) [7,9,10,11,48,49,60,62,75] [9] (fun i=>[(48,A.d (.one (.lit (.int .i64 i)))),(9,.buf 9)]) (fun i=>[(9,.buf none 46 4 (encTms (flArgs o op (xs.take i))))]) (fun i=>i<=xs.length∧∀ (j:Nat) a,j < i->xs[j]?=some a->KArg g o d j a) (fun i=>xs.length - i) (0) (⟨Nat.zero_le _,fun j a h=>absurd h (by omega)⟩) (fun i hi=>?_);clear F)
 obtain ⟨hi,hall⟩:=hi
 by_cases hlt:i < xs.length
 ·obtain ⟨a,hai⟩:∃ a,xs[i]?=some a:=⟨_,List.getElem?_eq_getElem hlt⟩
  have hT:=ha a (List.mem_of_getElem? hai)
  have q1:((i:Int) < (xs.length:Int))=True:=eq_true (by omega)
  have hw1:=wrap1 (k:=i) (by omega)
  obtain ⟨k,hk⟩:=argAt_get hg ho hd hnas hlt
  have hst:=flArgs_snoc (o:=o) (op:=op) hai
  have hle:=flArgs_len_take o op xs (i+1)
  rw [hst,List.length_append] at hle
  (have F:=ai @q1 (ai @hai @tmz);have NN:StopAt 8:=trivial;refine gGn ?_;clear F NN)
  refine gB ?_
  (have F:=@tmz;refine gC (con_kindOf hg hT.form.node) ?_;clear F)
  (have F:=@tmz;refine gC (con_argKind hg h0 ho hd hk) ?_;clear F)
  by_cases hkd:kindTm g a=((kd g.sorts k:Nat):Int)
  rotate_left
  ·have e:mkO g o d op xs=none:=by
    unfold mkO
    rw [if_neg hAr,if_neg fun h=>by
     obtain ⟨k',hk',he⟩:=h i a hai
     rw [hk] at hk'
     injection hk' with hk'
     subst hk'
     exact hkd he]
   rw [e]
   (have F:=ai @tmz @hkd;refine gR ?_;clear F)
   (have F:=ai @hz @tmz;refine gG ?_;exact gTd)
  have hnext:i+1<=xs.length∧∀ (j:Nat) a,j < i+1->xs[j]?=some a->KArg g o d j a:=⟨hlt,fun j a' hj ha'=>by
   by_cases e:j=i
   ·subst e
    rw [hai] at ha'
    injection ha' with ha'
    subst ha'
    exact ⟨k,hk,hkd⟩
   ·exact hall j a' (by omega) ha'⟩
  have l1:rowsB 4 (encTms (flArgs o op (xs.take i)))=true:=rb_tm _
  have l5:rowsB 4 (encTms a.args)=true:=rb_tm _
  by_cases hN:o.assoc=true∧a.op=op
  ·have e:flArg o op a=a.args:=by unfold flArg;rw [if_pos hN]
   rw [e] at hst hle
   have l3:((flArgs o op (xs.take i)).length+a.args.length<=maxApp)=True:=eq_true (by unfold maxApp;omega)
   have l4:encTms (flArgs o op (xs.take i))++encTms a.args=encTms (flArgs o op (xs.take (i+1))):=by rw [hst,encTms_app]
   obtain ⟨hN1,hN2⟩:=hN
   have q2:(a.op=op)=True:=eq_true hN2
   (have F:=ai @tmz @hkd;refine gR ?_;clear F)
   (have F:=ai @tmz (ai @encOpr_u (ai @hN1 (ai @q2 (ai @l1 (ai @l5 (ai @l3 (ai @l4 @hw1)))))));refine gG ?_;exact ⟨i+1,hnext,gw,gw,by omega⟩)
  ·have cU:=con_isUnit (mc:=mc) hg h0 ho a
   have hne:o.assoc=true->(a.op=op)=False:=fun h1=>eq_false fun h2=>hN ⟨h1,h2⟩
   (have F:=ai @tmz @hkd;refine gR ?_;clear F)
   (have F:=ai @tmz (ai @encOpr_u @hne);have NN:StopAt 12:=trivial;refine gGn ?_;clear F NN)
   by_cases hU:o.unit≠0∧a.op=o.unit - 1
   ·have e:flArg o op a=[]:=by unfold flArg;rw [if_neg hN,if_pos hU]
    rw [e,List.append_nil] at hst
    rw [decide_eq_true hU] at cU
    rw [<- hst]
    rcases Bool.eq_false_or_eq_true o.assoc with hac | hac
    ·have hq:=hne hac
     (have F:=ai @tmz (ai @encOpr_u (ai @hac @hq));have NN:StopAt 12:=trivial;refine gGn ?_;clear F NN)
     refine gB ?_
     (have F:=@tmz;refine gC (cU) ?_;clear F)
     (have F:=@tmz;refine gR ?_;clear F)
     (have F:=ai @tmz (ai @hac @hw1);refine gG ?_;exact ⟨i+1,hnext,gw,gw,by omega⟩)
    ·(have F:=ai @tmz (ai @encOpr_u @hac);have NN:StopAt 12:=trivial;refine gGn ?_;clear F NN)
     refine gB ?_
     (have F:=@tmz;refine gC (cU) ?_;clear F)
     (have F:=@tmz;refine gR ?_;clear F)
     (have F:=ai @tmz (ai @hac @hw1);refine gG ?_;exact ⟨i+1,hnext,gw,gw,by omega⟩)
   ·have e:flArg o op a=[a]:=by unfold flArg;rw [if_neg hN,if_neg hU]
    rw [e] at hst hle
    rw [decide_eq_false hU] at cU
    have l3:((flArgs o op (xs.take i)).length+1<=maxApp)=True:=eq_true (by simp only [List.length_cons,List.length_nil] at hle;unfold maxApp;omega)
    have l4:encTms (flArgs o op (xs.take i))++[encTm a]=encTms (flArgs o op (xs.take (i+1))):=by rw [hst,encTms_app,encTms_one]
    rcases Bool.eq_false_or_eq_true o.assoc with hac | hac
    ·have hq:=hne hac
     (have F:=ai @tmz (ai @encOpr_u (ai @hac @hq));have NN:StopAt 12:=trivial;refine gGn ?_;clear F NN)
     refine gB ?_
     (have F:=@tmz;refine gC (cU) ?_;clear F)
     (have F:=@tmz;refine gR ?_;clear F)
     (have F:=ai @tmz (ai @hac (ai @l1 (ai @l3 (ai @l4 @hw1))));refine gG ?_;exact ⟨i+1,hnext,gw,gw,by omega⟩)
    ·(have F:=ai @tmz (ai @encOpr_u @hac);have NN:StopAt 12:=trivial;refine gGn ?_;clear F NN)
     refine gB ?_
     (have F:=@tmz;refine gC (cU) ?_;clear F)
     (have F:=@tmz;refine gR ?_;clear F)
     (have F:=ai @tmz (ai @hac (ai @l1 (ai @l3 (ai @l4 @hw1))));refine gG ?_;exact ⟨i+1,hnext,gw,gw,by omega⟩)
 ·obtain rfl:i=xs.length:=by omega
  have q1:((xs.length:Int) < (xs.length:Int))=False:=eq_false (by omega)
  rw [List.take_length]
  have hm:mkO g o d op xs=mkL o op (flArgs o op xs):=by
   unfold mkO
   rw [if_neg hAr,if_pos fun j a h=>hall j a (List.getElem?_eq_some_iff.1 h).1 h]
  rw [hm]
  clear hm hall hnas
  generalize hL:flArgs o op xs=L at hfb ⊢
  obtain ⟨b1,b2,b3⟩:=hfb
  have hax:=hg.axs o (List.mem_of_getElem? ho)
  have hlo:=hax.lo
  have cUn:=fun hu=>con_unitOf (mc:=mc) hg h0 ho hu
  by_cases hu:o.unit≠0∧L.length < 2
  ·have e:mkL o op L=some (L.headD (unitTm o)):=by unfold mkL;rw [if_pos hu]
   rw [e]
   obtain ⟨hu1,hu2⟩:=hu
   have q2:(o.unit=0)=False:=eq_false hu1
   have q3:((L.length:Int) < 2)=True:=eq_true (by omega)
   cases L with
   | nil =>
    have z1:(((0:Nat):Int) < 2)=True:=eq_true (by omega)
    have z2:(((0:Nat):Int)=1)=False:=eq_false (by omega)
    (have F:=ai @q1 (ai @encOpr_u (ai @q2 (ai @z1 (ai @z2 @tmz))));have NN:StopAt 18:=trivial;refine gGn ?_;clear F NN)
    refine gB ?_
    (have F:=@tmz;refine gC (cUn hu1) ?_;clear F)
    (have F:=@tmz;refine gR ?_;clear F)
    (have F:=@tmz;refine gG ?_;exact gTd)
   | cons b bs =>
    have hb:bs=[]:=List.eq_nil_of_length_eq_zero (by simp only [List.length_cons] at hu2;omega)
    subst hb
    have z1:(((0+1:Nat):Int) < 2)=True:=eq_true (by omega)
    have z2:(((0+1:Nat):Int)=1)=True:=eq_true (by omega)
    have z3:(((1:Nat):Int) < 2)=True:=eq_true (by omega)
    have z4:(((1:Nat):Int)=1)=True:=eq_true (by omega)
    have q5:([b]:List Tm)[0]?=some b:=rfl
    have z5:(0 < 0+1)=True:=eq_true (by omega)
    have z6:((0:Nat) < 1)=True:=eq_true (by omega)
    have z7:Int.toNat 0=0:=rfl
    have q6:(0 < [b].length)=True:=eq_true (by simp)
    (have F:=ai @q1 (ai @encOpr_u (ai @q2 (ai @q3 (ai @z1 (ai @z2 (ai @z3 (ai @z4 (ai @z5 (ai @z6 (ai @z7 (ai @q5 (ai @q6 @tmz))))))))))));refine gG ?_;exact gTd)
  ·have hml:mkL o op L=if BigT o op (srtO o L) then none else some (appT op (srtO o L)):=by unfold mkL;rw [if_neg hu]
   rw [hml]
   clear hml cUn
   (have F:=ai @q1 @tmz;refine gG ?_;clear F)
   refine gM (ι:=Unit) [93] [] (fun u=>[(93,A.d (.one (.lit (.bool false))))]) (fun u=>[]) (fun u=>True) ?_ (fun u hu=>Exists.intro _ (ai (Wk.refl _) ?_))
   ·by_cases hu0:o.unit=0
    ·have q2:(o.unit=0)=True:=eq_true hu0
     (have F:=ai @encOpr_u (ai @q2 @tmz);refine gG ?_;exact ⟨(),trivial,gw,gw⟩)
    ·have q2:(o.unit=0)=False:=eq_false hu0
     have q3:((L.length:Int) < 2)=False:=eq_false fun h=>hu ⟨hu0,by omega⟩
     (have F:=ai @encOpr_u (ai @q2 (ai @q3 @tmz));refine gG ?_;exact ⟨(),trivial,gw,gw⟩)
   (have F:=@tmz;have NN:StopAt 19:=trivial;refine gGn ?_;clear F NN)
   refine pS 9 fun a cap=>?_
   refine gB ?_
   (have F:=ai @encOpr_u @tmz;refine gR ?_;clear F)
   refine gM (ι:=Unit) [] [9] (fun u=>[]) (fun u=>[(9,.buf (some (a,cap)) 46 4 (encTms (srtO o L)))]) (fun u=>True) ?_ (fun u hu=>Exists.intro _ (ai (Wk.refl _) ?_))
   ·cases hcm:o.comm with
    | true =>
     rw [show srtO o L=sortTm L by unfold srtO;rw [if_pos hcm]]
     (have F:=ai @hcm @tmz;have NN:StopAt 20:=trivial;refine gGn ?_;clear F NN)
     refine gB ?_
     (have F:=@tmz;refine gCP [9] [9] (conP_stable L (by omega) a cap) ?_;clear F)
     rintro r pm ⟨rfl,rfl⟩
     simp only [setA,retA,zipM,List.cons_append,List.nil_append]
     (have F:=@tmz;refine gR ?_;clear F)
     exact (have F:=tmz;⟨(),trivial,gw,gw⟩)
    | false =>
     rw [show srtO o L=L by unfold srtO;rw [if_neg (by rw [hcm];simp)]]
     (have F:=ai @hcm @tmz;refine gG ?_;exact ⟨(),trivial,gw,gw⟩)
   have hSl:=srtO_len o L
   have sz1:=sizeTms_perm (srtO_perm o L)
   have dz1:=depthTms_perm (srtO_perm o L)
   generalize srtO o L=S at hSl sz1 dz1 ⊢
   rw [<- hSl,<- encTms_len S]
   refine pD 9 [9] [] ?_
   have em:encTm (appT op S)=[.lit (.int .i64 op),.lit (.string ByteArray.empty),.lit (.int .i64 0),.sl (encTms S)]:=by simp only [appT,encTm]
   have zs:sizeTm (appT op S)=1+sizeTms S:=by rw [sizeTm_eq];rfl
   have zd:depthTm (appT op S)=1+depthTms S:=by rw [depthTm_eq];rfl
   have c1:=con_implSize (t:=appT op S) (by unfold big;omega)
   have c2:=con_implDepth (t:=appT op S) (by unfold big;omega)
   rw [em] at c1 c2
   (have F:=@tmz;have NN:StopAt 22:=trivial;refine gGn ?_;clear F NN)
   by_cases h7:o.assoc=true∧7 < S.length
   ·rw [if_pos (show BigT o op S from .inl h7)]
    obtain ⟨hac,h7⟩:=h7
    have q2:(7 < (S.length:Int))=True:=eq_true (by omega)
    (have F:=ai @encOpr_u (ai @hac (ai @q2 (ai @hz @tmz)));refine gG ?_;exact gTd)
   have hac:o.assoc=true->(7 < (S.length:Int))=False:=fun h=>eq_false fun q=>h7 ⟨h,by omega⟩
   rcases Bool.eq_false_or_eq_true o.assoc with ha' | ha'
   ·have q2:=hac ha'
    refine gB ?_
    (have F:=ai @encOpr_u (ai @ha' (ai @q2 @tmz));refine gC (c1) ?_;clear F)
    by_cases hs:60 < sizeTm (appT op S)
    ·have z1:((60:Int) < (sizeTm (appT op S):Int))=True:=eq_true (by omega)
     rw [if_pos (show BigT o op S from .inr (.inl hs))]
     (have F:=ai @z1 @tmz;refine gR ?_;clear F)
     (have F:=ai @hz @tmz;refine gG ?_;exact gTd)
    have z1:((60:Int) < (sizeTm (appT op S):Int))=False:=eq_false (by omega)
    (have F:=ai @z1 @tmz;refine gC (c2) ?_;clear F)
    by_cases hd2:20 < depthTm (appT op S)
    ·have z2:((20:Int) < (depthTm (appT op S):Int))=True:=eq_true (by omega)
     rw [if_pos (show BigT o op S from .inr (.inr hd2))]
     (have F:=ai @z2 @tmz;refine gR ?_;clear F)
     (have F:=ai @hz @tmz;refine gG ?_;exact gTd)
    have z2:((20:Int) < (depthTm (appT op S):Int))=False:=eq_false (by omega)
    rw [if_neg (show ¬ BigT o op S from fun h=>h.elim h7 (fun h=>h.elim hs hd2))]
    (have F:=ai @z2 @tmz;refine gR ?_;clear F)
    (have F:=ai @em @tmz;refine gG ?_;exact gTd)
   ·refine gB ?_
    (have F:=ai @encOpr_u (ai @ha' @tmz);refine gC (c1) ?_;clear F)
    by_cases hs:60 < sizeTm (appT op S)
    ·have z1:((60:Int) < (sizeTm (appT op S):Int))=True:=eq_true (by omega)
     rw [if_pos (show BigT o op S from .inr (.inl hs))]
     (have F:=ai @z1 @tmz;refine gR ?_;clear F)
     (have F:=ai @hz @tmz;refine gG ?_;exact gTd)
    have z1:((60:Int) < (sizeTm (appT op S):Int))=False:=eq_false (by omega)
    (have F:=ai @z1 @tmz;refine gC (c2) ?_;clear F)
    by_cases hd2:20 < depthTm (appT op S)
    ·have z2:((20:Int) < (depthTm (appT op S):Int))=True:=eq_true (by omega)
     rw [if_pos (show BigT o op S from .inr (.inr hd2))]
     (have F:=ai @z2 @tmz;refine gR ?_;clear F)
     (have F:=ai @hz @tmz;refine gG ?_;exact gTd)
    have z2:((20:Int) < (depthTm (appT op S):Int))=False:=eq_false (by omega)
    rw [if_neg (show ¬ BigT o op S from fun h=>h.elim h7 (fun h=>h.elim hs hd2))]
    (have F:=ai @z2 @tmz;refine gR ?_;clear F)
    (have F:=ai @em @tmz;refine gG ?_;exact gTd)
end
end Go.Proofs.YtffmjghcpgpfpaaGreatDoor
namespace Go.Proofs.YtffmjghcpgpfpaaGreatDoor
open Go.RowKit
section
variable {w:World} {S:Nat->Prop}
theorem subv_first {rows:List (List C)} {ety sz cap l h:Nat} {a:Option Addr} (hb:BufRel w S ety sz rows (.slice a rows.length cap)) (hl:l<=h∧h<=rows.length):∃ (b:Option Addr) (c:Nat) (news:List Value),sliced a l h cap sz=.slice b ((rows.take h).drop l).length c∧RepVals w S ((rows.take h).drop l).flatten news∧∀ (P:Program) (w':World),(∀ p,w'.cell? p=w.cell? p)->(Builtin.firstCells sz ((rows.take h).drop l).length (sliced a l h cap sz)).run P w'=.ok news.toArray w':=by
 have hln:((rows.take h).drop l).length=h - l:=by rw [List.length_drop,List.length_take];omega
 obtain ⟨h1,hrl,h3⟩:=hb
 by_cases he:h=l
 ·have e0:((rows.take h).drop l).length=0:=by omega
  have e1:(rows.take h).drop l=[]:=List.eq_nil_of_length_eq_zero e0
  refine ⟨_,_,[],by rw [hln];exact rfl,by rw [e1];simp [RepVals],fun P w' _=>?_⟩
  rw [e0]
  simp only [sliced,he,Nat.sub_self]
  split
  ·cases a <;> simp [Builtin.firstCells,loadCells,loadCellsFrom]
  ·cases a <;> simp [Builtin.firstCells,loadCells,loadCellsFrom]
 ·rcases h3 with ⟨h4,p,h5⟩ | ⟨g,cap',cur,h4,h5,h6,h7,h8,h9,h10,h11,h12⟩
  ·rw [h4] at hl;simp only [List.length_nil] at hl;omega
  ·injection h4 with e1 e2 e3
   subst e1 e3
   have hlc:¬ cap=l:=by omega
   have hval:sliced (some ⟨g,0,none⟩) l h cap sz=.slice (some ⟨g,l * sz,none⟩) (h - l) (cap - l):=by
    simp only [sliced,hlc,if_false,Option.map_some,Addr.add_at,Nat.zero_add]
   have hr:=RepRows.sub hrl h12 l h
   rw [Nat.zero_add] at hr
   obtain ⟨news,q5,q6⟩:=hr.flat.vals
   have hsl:rowsLen sz ((rows.take h).drop l):=fun r hr=>hrl r (List.mem_of_mem_take (List.mem_of_mem_drop hr))
   rw [hval]
   refine ⟨_,_,news,by rw [hln],q5,fun P w' hw=>?_⟩
   exact run_firstCells_some w' sz _ _ _ _ news (by rw [q5.len,flat_len hsl]) (fun j u hj=>by rw [hw,Addr.add_at];exact q6 j u hj)
end
section
variable {e:Env} {K:St->Prop} {ds:List (Option Nat)} {os:List Oper} {s:List (Nat × A)} {m:List (Nat × Bk)}
theorem step_appSub {σ:St} {o:Oper} {x y:Operand} {t ety ety' sz by' k j d l h cap:Nat} {a0:Option Addr} {rows rj:List (List C)} {oa:Option (Option Addr × Nat)} (ho:o.op=.call ⟨.builtin .append,#[x,y],#[t,t]⟩) (hdd:o.dst=some d) (hb:bytesT e.P t=some (ety,sz,by'))
  (hx:evA σ.s x=.buf k) (hm:gm σ.m k=some (.buf oa ety sz rows)) (hy:evA σ.s y=.d (.one (.lit (sliced a0 l h cap sz)))) (hj:gm σ.m j=some (.buf (some (a0,cap)) ety' sz rj)) (hlh:l<=h∧h<=rj.length) (hle:rows.length+rj.length<=maxApp)
  (hK:K ⟨(d,.buf d)::killK d (killK k σ.s),(d,.buf none ety sz (rows++(rj.take h).drop l))::remM d (remM k σ.m)⟩):StepOk e o σ K:=by
 intro he U w0 S0 nt a w Q hd ⟨S,L,h0⟩
 have hx':a.eval x=L.v k:=by have:=h0.eval x;rw [hx] at this;exact this
 have hy':=h0.eval y
 rw [hy] at hy'
 have hy':=lit_val hy'
 have ho':BufRel w S ety sz rows (L.v k):=(h0.cls.own k _ hm).2
 obtain ⟨hpl,hbj⟩:=h0.cls.own j _ hj
 have hvj:L.v j=.slice a0 rj.length cap:=hpl (a0,cap) rfl
 rw [hvj] at hbj
 obtain ⟨yb,yc,news,y1,y2,y3⟩:=subv_first hbj hlh
 have hln:((rj.take h).drop l).length=h - l:=by rw [List.length_drop,List.length_take];omega
 have hsl:rowsLen sz ((rj.take h).drop l):=fun r hr=>hbj.2.1 r (List.mem_of_mem_take (List.mem_of_mem_drop hr))
 obtain ⟨v',w',hrun,hbuf,τ,hk,hτ,hblk⟩:=append_own (ty:=o.type) (ts:=#[t,t]) (v:=L.v k) (u:=sliced a0 l h cap sz) he h0.cls rfl rfl hb (.inl ho') ho'.2.1 hsl (by omega) ⟨yb,yc,news,y1,y2,y3⟩
 unfold Oper.wp
 have hr2:(execOp a.eval o).run e.P w=.ok (.value v') w':=by
  simp [execOp,ho,resolve,invoke,builtin,hx',hy',hrun,Result.andThen]
 rw [hr2,Oper.upon_value,hdd]
 refine ⟨_,hK,h0.born he (hd d hdd) (τ:=τ) (b':=0) (v':=v') (s1:=killK k σ.s) (m1:=remM k σ.m) (fun _ h=>h) (fun _ h=>.inl h) (fun t=>?_) (fun k' x hx=>?_) (fun g hg=>?_) (fun k' x g hkd hx hg hb'=>?_) hk ?_ (fun g hg=>?_) (by simp [ARel])⟩
 ·rcases gs_killK k t σ.s with ⟨h1,_⟩ | h1
  ·exact .inl h1
  ·exact .inr h1
 ·rw [gm_remM] at hx
  split at hx
  ·cases hx
  ·exact hx
 ·have hg':=(hτ g hg).1
  exact ⟨(Own1.lt (k:=k) (L:=L) (bk:=.buf none ety sz rows) ⟨by simp,ho'⟩ hg').2,h0.cls.notE hm hg',h0.cls.mine k _ g hm hg'⟩
 ·have hg':=(hτ g hg).1
  rw [gm_remM] at hx
  split at hx
  ·cases hx
  ·rename_i hne'
   exact hne' (h0.cls.inj k' k x _ g hx hm hb' hg')
 ·simp only [Own1,if_true];exact ⟨by simp,hbuf⟩
 ·simp only [blkOf,if_true] at hg
  exact hblk g hg
theorem gAps {d t ty ety ety' by' sz l h cap:Nat} {p:String} {ed:Array Edge} {x y:Operand} {rows rj:List (List C)} {oa:Option (Option Addr × Nat)} {a0:Option Addr} {s2:List (Nat × A)} {m2:List (Nat × Bk)} (k j:Nat) (hlh:l<=h∧h<=rj.length) (hle:rows.length+rj.length<=maxApp) (hK:Runs e ds 0 os ⟨(d,.buf d)::s2,(d,.buf none ety sz (rows++(rj.take h).drop l))::m2⟩ K)
  (hb:bytesT e.P t=some (ety,sz,by'):=by exact sfx) (hx:evA s x=.buf k:=by exact sfx) (hm:gm m k=some (.buf oa ety sz rows):=by exact snx) (hy:evA s y=.d (.one (.lit (sliced a0 l h cap sz))):=by exact snx) (hj:gm m j=some (.buf (some (a0,cap)) ety' sz rj):=by exact snx)
  (hs:killK d (killK k s)=s2:=by exact snv) (hr:remM d (remM k m)=m2:=by exact snv):Runs e ds 0 (⟨some d,.call ⟨.builtin .append,#[x,y],#[t,t]⟩,ty,p,ed,none⟩::os) ⟨s,m⟩ K:=by
 subst hs hr
 simp only [Runs] at hK ⊢
 exact runsS_step rfl (step_appSub rfl rfl hb hx hm hy hj hlh hle hK)
end
end Go.Proofs.YtffmjghcpgpfpaaGreatDoor
namespace Go.Proofs.YtffmjghcpgpfpaaGreatDoor
open Go.RowKit
theorem encTms_snoc (ts:List Tm) {i:Nat} {t:Tm} (h:ts[i]?=some t):encTms (ts.take (i+1))=encTms (ts.take i)++[encTm t]:=by
 simp only [encTms_eq,List.take_add_one,h,Option.toList,List.map_append,List.map_cons,List.map_nil]
def tmsB (ts:List Tm):Prop:=ts.length+bulkRows (encTms ts)<=1048576
end Go.Proofs.YtffmjghcpgpfpaaGreatDoor
namespace Go.Proofs.YtffmjghcpgpfpaaGreatDoor
open Go.RowKit
theorem re_refl (pm:List Bk):Retold pm pm:=fun w S h1 h2=>⟨h1,h2,fun _ h=>h⟩
theorem len_take {ts:List Tm} {i:Nat} (h:i<=ts.length):(encTms (ts.take i)).length=i:=by rw [encTms_len,List.length_take];omega
set_option maxHeartbeats 4000000 in
theorem con_l5Copy_of (t:Tm) (hB:tmsB t.args) (h:∀ a∈t.args,Con e0 66 [.agg (encTm a)] [.agg (encTm a)]):Con e0 66 [.agg (encTm t)] [.agg (encTm t)]:=by
 obtain ⟨op,nm,so,args⟩:=t
 have hc:encTm (.mk op nm so args)=[.lit (.int .i64 op),.lit (.string nm),.lit (.int .i64 so),.sl (encTms args)]:=by simp only [encTm]
 simp only [Tm.args] at h hB
 have hl:args.length<=1048576:=Nat.le_trans (Nat.le_add_right _ _) hB
 refine gI (ts:=[.cell 2 46]) 65567 Tryz.func66 ?_
 (have F:=@hc;have NN:StopAt 1:=trivial;refine gGn ?_;clear F NN)
 refine gB ?_
 refine gP 6 ?_
 refine gX ?_
 (have F:=@hc;refine gR ?_;clear F)
 refine pN 1000 46 4 ?_
 (have F:=@hc;refine gG ?_;clear F)
 (have F:=ai @hc @encTms_nil;refine gL (ι:=Nat × Option Addr × Nat) [4,16] [3,1000] (fun x=>[(4,.d (.one (.lit (.int .i64 (x.1:Int)))))]) (fun x=>[(1000,.buf (some (x.2.1,x.2.2)) 46 4 (encTms (args.take x.1))),(3,.var none [.lit (.int .i64 op),.lit (.string nm),.lit (.int .i64 so),.lit (.slice x.2.1 x.1 x.2.2)])]) (fun x=>x.1<=args.length) (fun x=>args.length - x.1) ((0,none,0)) (Nat.zero_le _) (fun x hx=>?_);clear F)
 obtain ⟨i,p,cap⟩:=x
 simp only at hx
 by_cases hlt:i < args.length
 ·have hg:args[i]?=some args[i]:=List.getElem?_eq_getElem hlt
  have hcon:=h args[i] (List.getElem_mem hlt)
  generalize args[i]=a at hg hcon
  have q1:((i:Int) < (args.length:Int))=True:=eq_true (by omega)
  have q4:IntKind.i64.wrap ((i:Int)+1)=(i:Int)+1:=IntWalk.i64_in _ (by omega)
  have q2:i+1<=maxApp:=by unfold maxApp;omega
  have q3:=len_take hx
  have q5:(args.take i).length=i:=by rw [List.length_take];omega
  (have F:=ai @hc (ai @encTms_len (ai @encTms_get (ai @q1 (ai @hg @tmz))));refine gG ?_;clear F)
  refine gB ?_
  (have F:=ai @tmz (ai @encTms_get @hg);refine gC (hcon) ?_;clear F)
  (have F:=ai @tmz (ai @q2 (ai @q3 @q5));refine gP 3 ?_;clear F)
  refine gS 28 fun p2 cap2=>?_
  (have F:=ai @tmz (ai @q3 @q5);refine gR ?_;clear F)
  refine pE [28] [1000] (re_refl _) ?_
  rw [<- encTms_snoc args hg]
  (have F:=ai @hc @q4;refine gG ?_;exact ⟨(i+1,p2,cap2),hlt,gw,gw,by omega⟩)
 ·obtain rfl:i=args.length:=by omega
  have q1:((args.length:Int) < (args.length:Int))=False:=eq_false (by omega)
  rw [List.take_length]
  (have F:=ai @hc (ai @encTms_len @q1);refine gG ?_;clear F)
  refine pD 1000 [] [2] ?_ (hs:=by exact snv)
  (have F:=ai @hc @encTms_len;refine gG ?_;exact gTd)
theorem con_sCopy (n:Nat):(∀ t:Tm,nodesRow (encTm t) < n->bulkRow (encTm t)<=1048576->Con e0 66 [.agg (encTm t)] [.agg (encTm t)]):=by
 induction n with
 | zero=>exact fun _ h=>by omega
 | succ n ih =>
  intro t hn hb
  obtain ⟨op,nm,so,args⟩:=t
  simp only [encTm,nodesRow,nodesC,bulkRow,bulkC] at hn hb
  refine con_l5Copy_of _ (by unfold tmsB;simp only [Tm.args];have:=encTms_len args;omega) fun a ha=>?_
  simp only [Tm.args] at ha
  obtain ⟨i,hi⟩:=List.getElem?_of_mem ha
  have hi':(encTms args)[i]?=some (encTm a):=by rw [encTms_get,hi];rfl
  have h1:=nodes_get hi'
  have h2:=bulk_get hi'
  exact ih a (by omega) (by omega)
theorem con_l5Copy (t:Tm) (hb:bulkRow (encTm t)<=1048576):Con e0 66 [.agg (encTm t)] [.agg (encTm t)]:=con_sCopy _ t (Nat.lt_succ_self _) hb
end Go.Proofs.YtffmjghcpgpfpaaGreatDoor
namespace Go.Proofs.YtffmjghcpgpfpaaGreatDoor
open Go.RowKit
theorem take_snocT {ts:List Tm} {i:Nat} {t:Tm} (h:ts[i]?=some t):encTms (ts.take i)++[encTm t]=encTms (ts.take (i+1)):=(encTms_snoc ts h).symm
set_option maxHeartbeats 8000000 in
set_option maxRecDepth 100000 in
theorem con_l5Copies (ts:List Tm) (hB:tmsB ts):Con e0 185 [.one (.sl (encTms ts))] [.one (.sl (encTms ts))]:=by
 unfold tmsB at hB
 refine gI (ts:=[.slot 2]) 541 Tryz.func185 ?_
 (have F:=@tmz;refine gG ?_;clear F)
 (have F:=@encTms_nil;refine gL (ι:=Nat) [3,4,9] [3] (fun i=>[(4,A.d (.one (.lit (.int .i64 i)))),(3,.buf 3)]) (fun i=>[(3,.buf none 46 4 (encTms (ts.take i)))]) (fun i=>i<=ts.length) (fun i=>ts.length - i) (0) (Nat.zero_le _) (fun i hi=>?_);clear F)
 by_cases hlt:i < ts.length
 rotate_left
 ·obtain rfl:i=ts.length:=by omega
  have q2:((ts.length:Int) < (ts.length:Int))=False:=eq_false (by omega)
  rw [List.take_length]
  (have F:=ai @q2 @tmz;refine gG ?_;clear F)
  (have F:=@tmz;refine gG ?_;exact gTz [2])
 obtain ⟨t,ht⟩:∃ b,ts[i]?=some b:=⟨_,List.getElem?_eq_getElem hlt⟩
 have q2:((i:Int) < (ts.length:Int))=True:=eq_true (by omega)
 have q4:=wrap1 (k:=i) (by omega)
 have hi':(encTms ts)[i]?=some (encTm t):=by rw [encTms_get,ht];rfl
 have hbt:=bulk_get hi'
 have cc:=con_l5Copy t (by omega)
 have l1:rowsB 4 (encTms (ts.take i))=true:=rb_tm _
 have l2:((encTms (ts.take i)).length+1<=maxApp)=True:=eq_true (by rw [encTms_len,List.length_take];unfold maxApp;omega)
 have l3:((ts.take i).length+1<=maxApp)=True:=eq_true (by rw [List.length_take];unfold maxApp;omega)
 have l4:min i ts.length+1<=maxApp:=by unfold maxApp;omega
 have e:=take_snocT ht
 (have F:=ai @q2 @tmz;refine gG ?_;clear F)
 refine gB ?_
 (have F:=ai @q2 (ai @ht @tmz);refine gC (cc) ?_;clear F)
 (have F:=ai @l1 (ai @l2 (ai @l3 @tmz));refine gR ?_;clear F)
 (have F:=ai @q4 @e;refine gG ?_;exact ⟨i+1,hlt,gw,gw,by omega⟩)
end Go.Proofs.YtffmjghcpgpfpaaGreatDoor
namespace Go.Proofs.YtffmjghcpgpfpaaGreatDoor
open Go.RowKit
theorem sort_nil:encTms (sortTm [])=[]:=by simp [sortTm,encTms]
theorem okTms_sort {l:List Tm} (h:okTms l):okTms (sortTm l):=by
 have:∀ {ts:List Tm},okTms ts ↔ ∀ t∈ts,okTm t:=fun {ts}=>by
  induction ts with
  | nil=>simp [okTms]
  | cons t ts ih=>simp [okTms,ih]
 exact this.2 fun a ha=>this.1 h a ((sortTm_perm l).mem_iff.1 ha)
theorem okTms_take {l:List Tm} (h:okTms l) (k:Nat):okTms (l.take k):=by
 have:∀ {ts:List Tm},okTms ts ↔ ∀ t∈ts,okTm t:=fun {ts}=>by
  induction ts with
  | nil=>simp [okTms]
  | cons t ts ih=>simp [okTms,ih]
 exact this.2 fun a ha=>this.1 h a (List.mem_of_mem_take ha)
set_option maxHeartbeats 16000000 in
set_option maxRecDepth 100000 in
theorem con_specSort (ts:List Tm) (hok:okTms ts) (hB:tmsB ts):Con e0 184 [.one (.sl (encTms ts))] [.one (.sl (encTms (sortTm ts)))]:=by
 have hB0:=hB
 unfold tmsB at hB
 have hcc:=con_l5Copies (sortTm ts) (by
  have h1:=(sortTm_perm ts).length_eq
  have h2:bulkRows (encTms (sortTm ts))=bulkRows (encTms ts):=by
   have:∀ {l m:List Tm},l.Perm m->bulkRows (encTms l)=bulkRows (encTms m):=fun h=>by
    induction h with
    | nil=>rfl
    | cons x h ih=>simp only [encTms,bulkRows,ih]
    | swap x y l=>simp only [encTms,bulkRows];omega
    | trans h1 h2 a b=>rw [a,b]
   exact this (sortTm_perm ts)
  unfold tmsB;omega)
 refine gI (ts:=[.slot 2]) 1073743997 Tryz.func184 ?_
 (have F:=@tmz;refine gG ?_;clear F)
 (have F:=ai @sort_nil @tmz;refine gL (ι:=Nat) [3,4,5,6,11,30] [3] (fun i=>[(4,A.d (.one (.lit (.int .i64 i)))),(3,.buf 3)]) (fun i=>[(3,.buf none 46 4 (encTms (sortTm (ts.take i))))]) (fun i=>i<=ts.length) (fun i=>ts.length - i) (0) (Nat.zero_le _) (fun i hi=>?_);clear F)
 by_cases hlt:i < ts.length
 rotate_left
 ·obtain rfl:i=ts.length:=by omega
  have q2:((ts.length:Int) < (ts.length:Int))=False:=eq_false (by omega)
  rw [List.take_length]
  (have F:=ai @q2 @tmz;have NN:StopAt 10:=trivial;refine gGn ?_;clear F NN)
  refine pS 3 fun a cap=>?_
  refine pD 3 [3] [] ?_
  refine gB ?_
  (have F:=@tmz;refine gC (hcc) ?_;clear F)
  (have F:=@tmz;refine gR ?_;clear F)
  (have F:=@tmz;refine gG ?_;exact gTd)
 obtain ⟨x,hx⟩:∃ b,ts[i]?=some b:=⟨_,List.getElem?_eq_getElem hlt⟩
 have q2:((i:Int) < (ts.length:Int))=True:=eq_true (by omega)
 have q4:=wrap1 (k:=i) (by omega)
 have hxo:=hok.mem (List.mem_of_getElem? hx)
 obtain ⟨M,hM⟩:∃ M,M=sortTm (ts.take i):=⟨_,rfl⟩
 have hMl:M.length=i:=by rw [hM,sortTm_len,List.length_take];omega
 have hMo:okTms M:=by rw [hM];exact okTms_sort (okTms_take hok i)
 have hMr:ts.take (i+1)=ts.take i++[x]:=take_snoc_of hx
 rw [<- hM]
 (have F:=ai @q2 (ai @hMl @tmz);have NN:StopAt 5:=trivial;refine gGn ?_;clear F NN)
 refine gB ?_
 (have F:=ai @hMl @tmz;refine gR ?_;clear F)
 refine pwp_seqW ?_
 refine gM (ι:=Nat) [5] [] (fun k=>[(5,A.d (.one (.lit (.int .i64 k))))]) (fun k=>[]) (fun k=>k<=i∧(∀ y∈M.drop k,cmpTm x y<=0)∧(0 < k->∃ y,M[k - 1]?=some y∧cmpTm y x<=0)) ?_ (fun k hk=>Exists.intro _ (ai (Wk.refl _) ?_))
 ·(have F:=@tmz;refine gG ?_;clear F)
  (have F:=@tmz;refine gL (ι:=Nat) [5,30] [] (fun k=>[(5,A.d (.one (.lit (.int .i64 k))))]) (fun k=>[]) (fun k=>k<=i∧∀ y∈M.drop k,cmpTm x y<=0) (fun k=>k) (i) (⟨Nat.le_refl _,by rw [<- hMl,List.drop_length];intro y hy;cases hy⟩) (fun k hk=>?_);clear F)
  obtain ⟨hk,h2⟩:=hk
  by_cases hk0:k=0
  ·have q0:(0 < (k:Int))=False:=eq_false (by omega)
   (have F:=ai @q0 @tmz;refine gG ?_;exact ⟨k,⟨hk,h2,fun h=>by omega⟩,gw,gw⟩)
  obtain ⟨j,rfl⟩:∃ j,k=j+1:=⟨k - 1,by omega⟩
  obtain ⟨y,hy⟩:∃ y,M[j]?=some y:=⟨_,List.getElem?_eq_getElem (by omega)⟩
  have q5:(0 < ((j+1:Nat):Int))=True:=eq_true (by omega)
  have wj:IntKind.i64.wrap (((j+1:Nat):Int) - 1)=(j:Int):=wrapN (by omega) (by omega) (by omega)
  have lj:j < i:=by omega
  have hdr:M.drop j=y::M.drop (j+1):=drop_cons_of hy
  generalize hk1:j+1=k1 at q5 wj h2 hk hdr ⊢
  (have F:=@tmz;refine gG ?_;clear F)
  refine gB ?_
  (have F:=ai @q5 (ai @wj (ai @hy (ai @hx (ai @hMl (ai @lj (ai @natInt @tmz))))));refine gC (con_specCmp (hMo.mem (List.mem_of_getElem? hy)) hxo) ?_;clear F)
  by_cases hc:0 < cmpTm y x
  ·have z:=eq_true hc
   (have F:=@z;refine gR ?_;clear F)
   have h2':∀ u∈M.drop j,cmpTm x u<=0:=fun u hu=>by
    rw [hdr] at hu
    rcases List.mem_cons.1 hu with rfl | hu
    ·rw [cmpTm_neg u x];omega
    ·exact h2 u hu
   (have F:=ai @z @wj;refine gG ?_;exact ⟨j,⟨by omega,h2'⟩,gw,gw,by omega⟩)
  have z:=eq_false hc
  (have F:=@z;refine gR ?_;clear F)
  (have F:=ai @z @tmz;refine gG ?_;exact ⟨k1,⟨hk,h2,fun _=>⟨y,by rw [<- hk1,Nat.add_sub_cancel];exact hy,by omega⟩⟩,gw,gw⟩)
 obtain ⟨hk,h2,h1⟩:=hk
 have hMs:M.take k++x::M.drop k=sortTm (ts.take (i+1)):=by
  rw [hMr]
  refine ins_sort (by rw [List.take_append_drop,hM]) h2 fun y hy=>?_
  have hk0:0 < k:=by
   rcases Nat.eq_zero_or_pos k with h | h
   ·subst h;simp at hy
   ·exact h
  obtain ⟨z,hz,hc⟩:=h1 hk0
  rw [List.getLast?_eq_getElem?,List.length_take,hMl,Nat.min_eq_left hk,List.getElem?_take,if_pos (by omega),hz] at hy
  injection hy with hy
  subst hy
  exact hc
 have hdl:((encTms M).take (encTms M).length).drop k=encTms (M.drop k):=by rw [List.take_length,encTms_drop]
 (have F:=@tmz;have NN:StopAt 8:=trivial;refine gGn ?_;clear F NN)
 refine pS 3 fun a cap=>?_
 refine gB ?_
 (have F:=@tmz;refine gP 3 ?_;clear F)
 have hkl:k<=(encTms M).length:=by rw [encTms_len];omega
 refine (have F:=ai hMl tmz;gSub 3 k (encTms M).length ⟨hkl,Nat.le_refl _⟩ ?_)
 refine gO 33 46 4 ?_
 refine (have F:=tmz;gAps (rows:=[]) (rj:=encTms M) 33 3 ⟨hkl,Nat.le_refl _⟩ (by rw [encTms_len];simp only [List.length_nil,maxApp];omega) ?_)
 rw [hdl,List.nil_append]
 (have F:=@tmz;refine gR ?_;clear F)
 (have F:=@tmz;have NN:StopAt 9:=trivial;refine gGn ?_;clear F NN)
 have hcl:(encTms M).take k=encTms (M.take k):=encTms_take _ _
 have htl:(M.take k).length=k:=by rw [List.length_take];omega
 refine gF0 ?_
 refine gFm 0 ?_
 refine gFm 1 ?_
 refine (have F:=ai hMl tmz;gFs 2 3 0 k ⟨Nat.zero_le _,hkl⟩ ?_)
 rw [sliced_zero]
 refine gFm 3 ?_
 refine gFm 4 ?_
 refine gFm 9 ?_
 refine gFT ?_
 have l1:(k+1<=maxApp)=True:=eq_true (by unfold maxApp;omega)
 have l2:((M.take k).length+1+(M.drop k).length<=maxApp)=True:=eq_true (by rw [htl,List.length_drop];unfold maxApp;omega)
 have e1:encTms (M.take k)++[encTm x]=encTms (M.take k++[x]):=by rw [encTms_app];rfl
 have e2:encTms (M.take k++[x])++encTms (M.drop k)=encTms (sortTm (ts.take (i+1))):=by rw [<- encTms_app,<- hMs];simp
 refine gO1 5 ?_
 refine (have F:=ai q2 (ai hx (ai natInt tmz));gO3 ?_)
 refine gO1 6 ?_
 refine (have F:=ai hx tmz;gO3 ?_)
 refine gO1 7 ?_
 refine (have F:=tmz;gO3 ?_)
 refine gO1 8 ?_
 refine gE [3] [3] (re_cut k hkl) ?_
 rw [hcl]
 refine (have F:=ai htl (ai l1 (ai e1 tmz));gO3 ?_)
 refine gO1 10 ?_
 refine (have F:=ai l2 (ai e2 tmz);gO3 ?_)
 refine gO1 11 ?_
 refine (have F:=tmz;gO3 ?_)
 refine (have F:=tmz;gT0 ?_)
 refine Exists.intro _ (ai (Wk.refl _) ?_)
 (have F:=@q4;refine gG ?_;exact ⟨i+1,hlt,gw,gw,by omega⟩)
end Go.Proofs.YtffmjghcpgpfpaaGreatDoor
namespace Go.Proofs.YtffmjghcpgpfpaaGreatDoor
open Go.RowKit
theorem okTms_iff {ts:List Tm}:okTms ts ↔ ∀ t∈ts,okTm t:=by
 induction ts with
 | nil=>simp [okTms]
 | cons t ts ih=>simp [okTms,ih]
theorem bulk_mk (op so:Int) (nm:ByteArray) (args:List Tm):bulkRow (encTm (.mk op nm so args))=nm.size+(args.length+bulkRows (encTms args)):=by
 simp only [encTm,bulkRow,bulkC,encTms_len];omega
section
variable {g:Sgn}
mutual
theorem bulk_form:∀ {t:Tm},FormOk g t->bulkRow (encTm t)+1<=13 * sizeTm t
 | .mk op nm so args,h=>by
  have h1:=bulks_form (FormOks_iff.2 (FormOk_iff.1 h).2.1)
  simp only [Tm.args] at h1
  rw [bulk_mk]
  simp only [sizeTm]
  rcases h.node with hv | ⟨o,d,hA⟩
  ·have h2:isName nm=true:=hv.2.1
   have h3:args=[]:=hv.2.2.2.2
   subst h3
   have h4:¬ 12 < nm.size:=fun h=>by rw [isName_bad (.inr (.inl h))] at h2;cases h2
   simp only [encTms,bulkRows,sizeTms,List.length_nil]
   omega
  ·have h2:nm=ByteArray.empty:=hA.nm
   subst h2
   have:ByteArray.empty.size=0:=rfl
   omega
theorem bulks_form:∀ {ts:List Tm},FormOks g ts->bulkRows (encTms ts)+ts.length<=13 * sizeTms ts
 | [],_=>by simp [encTms,bulkRows]
 | t::ts,h=>by
  simp only [FormOks] at h
  have h1:=bulk_form h.1
  have h2:=bulks_form h.2
  simp only [encTms,bulkRows,sizeTms,List.length_cons]
  omega
end
end
end Go.Proofs.YtffmjghcpgpfpaaGreatDoor
namespace Go.Proofs.YtffmjghcpgpfpaaGreatDoor
open Go.RowKit
def addL (i:Nat):Nat->List Oper->List Oper
 | _,[]=>[]
 | 0,o::l=>{ o with after:=o.after.push ⟨i,.data⟩ }::l
 | k+1,o::l=>o::addL i k l
theorem addL_get (i:Nat):∀ (k:Nat) (l:List Oper) (j:Nat),(addL i k l)[j]?=if j=k then l[j]?.map fun o=>{ o with after:=o.after.push ⟨i,.data⟩ } else l[j]?
 | k,[],j=>by simp [addL]
 | 0,o::l,0=>by simp [addL]
 | 0,o::l,j+1=>by simp [addL]
 | k+1,o::l,0=>by simp [addL]
 | k+1,o::l,j+1=>by simp [addL,addL_get i k l j]
theorem addL_len (i:Nat):∀ (k:Nat) (l:List Oper),(addL i k l).length=l.length
 | k,[]=>by simp [addL]
 | 0,o::l=>by simp [addL]
 | k+1,o::l=>by simp [addL,addL_len i k l]
theorem addL_dst (i:Nat):∀ (k:Nat) (l:List Oper),(addL i k l).map (·.dst)=l.map (·.dst)
 | k,[]=>by simp [addL]
 | 0,o::l=>by simp [addL]
 | k+1,o::l=>by simp [addL,addL_dst i k l]
section
variable {P:Program} {l:List Oper} {i k:Nat} {oi ok:Oper}
theorem wpOp_addL {Q:Exit->Act->World->Prop} {j:Nat} {K:Act->World->Prop} {a:Act} {w:World}:wpOp P (addL i k l).toArray Q j K a w ↔ wpOp P l.toArray Q j K a w:=by
 have hb:∀ g:Nat,((addL i k l)[g]?).bind (fun x=>x.dst)=(l[g]?).bind fun x=>x.dst:=fun g=>by
  rw [addL_get]
  by_cases h:g=k
  ·rw [if_pos h];cases l[g]? <;> rfl
  ·rw [if_neg h]
 have hy:yielded (addL i k l).toArray a.tmps=yielded l.toArray a.tmps:=by
  funext g
  unfold yielded
  simp only [List.getElem?_toArray,hb]
 unfold wpOp
 rw [hy]
 simp only [List.getElem?_toArray,addL_get]
 by_cases hjk:j=k
 ·rw [if_pos hjk]
  cases hj:l[j]? with
  | none=>exact Iff.rfl
  | some o=>exact Iff.rfl
 ·rw [if_neg hjk]
def apartL (ops:Array Oper) (i:Nat):Bool:=(List.range ops.size).all fun j=>j==i || match ops[i]?,ops[j]? with
 | some oi,some oj=>oi.after.any (fun e=>Region.binds .any e && e.on==j) || (oj.after.any (fun e=>Region.binds .any e && e.on==i) || oi.apart ops oj)
 | _,_=>true
def lateB (ops:Array Oper) (i k:Nat):Bool:=noSel ops && apartL ops i && i != k && match ops[i]?,ops[k]? with
 | some oi,some ok=>(match oi with
  | ⟨some _,.extract _ _,_,_,_,none⟩=>true
  | _=>false) && oi.after.all fun e=>!Region.binds .any e || ok.after.any fun e'=>Region.binds .any e' && e'.on==e.on
 | _,_=>false
theorem wpAny_late {Q:Exit->Act->World->Prop} (hQ:∀ ex a w,Q ex a w->ex=.normal) (hB:lateB l.toArray i k=true) :
  ∀ (f:Nat) (listed:Array Bool) (a:Act) (w:World),listed.size=l.length->wpAny P .any (addL i k l).toArray Q f listed a w->wpAny P .any l.toArray Q f listed a w:=by
 simp only [lateB,Bool.and_eq_true,bne_iff_ne,ne_eq] at hB
 obtain ⟨⟨⟨hsel,hap⟩,hik⟩,h4⟩:=hB
 split at h4
 rotate_left
 ·cases h4
 rename_i oi ok hoi hok
 simp only [Bool.and_eq_true] at h4
 obtain ⟨h5,h6⟩:=h4
 have hpre:∀ e∈oi.after,Region.binds .any e=true->∃ e'∈ok.after,Region.binds .any e'=true∧e'.on=e.on:=fun e he hb=>by
  have:=Array.all_eq_true_iff_forall_mem.1 h6 e he
  simp only [hb,Bool.not_true,Bool.false_or,Array.any_eq_true',Bool.and_eq_true,beq_iff_eq] at this
  obtain ⟨e',q1,q2,q3⟩:=this
  exact ⟨e',q1,q2,q3⟩
 have hrdy:∀ (listed:Array Bool) (j:Nat),j∈Region.ready .any (addL i k l).toArray listed ↔ j∈Region.ready .any l.toArray listed∧(j=k->listed.getD i false=true):=fun listed j=>by
  rw [mem_ready,mem_ready]
  simp only [List.getElem?_toArray,addL_get]
  by_cases hj:j=k
  ·subst hj
   simp only [if_true,true_implies]
   constructor
   ·rintro ⟨q1,o,q2,q3⟩
    cases hl:l[j]? with
    | none=>rw [hl] at q2;cases q2
    | some o' =>
     rw [hl] at q2
     injection q2 with q2
     subst q2
     exact ⟨⟨q1,o',rfl,fun e he hb=>q3 e (by simp [he]) hb⟩,q3 ⟨i,.data⟩ (by simp) rfl⟩
   ·rintro ⟨⟨q1,o,q2,q3⟩,q4⟩
    refine ⟨q1,_,by rw [q2];rfl,fun e he hb=>?_⟩
    rcases Array.mem_push.1 he with he | he
    ·exact q3 e he hb
    ·subst he;exact q4
  ·simp [hj]
 have hun:∀ (listed:Array Bool),listed.size=l.length->k∈Region.ready .any l.toArray listed->i∈Region.ready .any l.toArray listed∨listed.getD i false=true:=fun listed hs hk=>by
  by_cases h:listed.getD i false=true
  ·exact .inr h
  ·left
   rw [mem_ready] at hk ⊢
   obtain ⟨_,o,q2,q3⟩:=hk
   have:o=ok:=by rw [hok] at q2;injection q2 with q2;exact q2.symm
   subst this
   have hlt:i < l.length:=by have:=(Array.getElem?_eq_some_iff.1 hoi).1;simpa using this
   refine ⟨?_,oi,hoi,fun e he hb=>?_⟩
   ·have hl:i < listed.size:=by omega
    rw [getD_ftt hl]
    simpa using h
   ·obtain ⟨e',r1,r2,r3⟩:=hpre e he hb
    rw [<- r3]
    exact q3 e' r1 r2
 have hap':=hap
 intro f
 induction f with
 | zero =>
  intro listed a w hs h
  refine ⟨?_,h.2⟩
  by_cases hk:k∈Region.ready .any l.toArray listed
  ·rcases hun listed hs hk with h1 | h1
   ·have:=(hrdy listed i).2 ⟨h1,fun e=>absurd e hik⟩
    rw [h.1] at this
    cases this
   ·have:=(hrdy listed k).2 ⟨hk,fun _=>h1⟩
    rw [h.1] at this
    cases this
  ·refine List.eq_nil_iff_forall_not_mem.2 fun j hj=>?_
   have:=(hrdy listed j).2 ⟨hj,fun e=>absurd (e ▸ hj) hk⟩
   rw [h.1] at this
   cases this
 | succ f ih =>
  intro listed a w hs h
  by_cases hi:i∈Region.ready .any l.toArray listed
  ·have h1:=h.2 i ((hrdy listed i).2 ⟨hi,fun e=>absurd e hik⟩)
   rw [wpOp_addL] at h1
   have h1':∃ v,Yields P l.toArray oi v a∧wpAny P .any (addL i k l).toArray Q f (listed.setIfInBounds i true) (a.put oi.dst v) w:=by
    unfold wpOp at h1
    simp only [hoi] at h1
    split at h5
    rotate_left
    ·cases h5
    rename_i d x n ty pos af
    have hw:Region.wanted ⟨some d,.extract x n,ty,pos,af,none⟩ (yielded l.toArray a.tmps)=true:=by simp [Region.wanted]
    rw [if_pos hw] at h1
    rcases h1 with h1 | ⟨_,b,w',h1⟩
    rotate_left
    ·have:=hQ _ _ _ h1;cases this
    unfold Oper.wp at h1
    cases hx:a.eval x with
    | tuple vs =>
     cases hv:vs[n]? with
     | some v =>
      have hrun:∀ w',(execOp a.eval ⟨some d,.extract x n,ty,pos,af,none⟩).run P w'=.ok (.value v) w':=fun w'=>by
       simp [execOp,Instr.extract,hx,hv]
      rw [hrun,Oper.upon_value] at h1
      exact ⟨v,.inl ⟨hw,hrun⟩,h1⟩
     | none =>
      simp [execOp,Instr.extract,hx,hv,stuck,Oper.upon] at h1
    | _=>simp [execOp,Instr.extract,hx,stuck,Oper.upon] at h1
   obtain ⟨v,hv,h2⟩:=h1'
   refine wpAny_first (oi:=oi) (v:=v) hoi (fun j oj cs b hj hsl=>?_) (fun c a w hq=>?_) f listed a w (fun j oj hj hne hl hno=>?_) hi hv (ih _ _ _ (by simpa using hs) h2)
   ·have:=List.all_eq_true.1 hsel oj (List.mem_of_getElem? (by simpa using hj))
    rw [hsl] at this
    cases this
   ·have:=hQ _ _ _ hq;cases this
   ·have hjs:=(Array.getElem?_eq_some_iff.1 hj).1
    have:=List.all_eq_true.1 hap j (List.mem_range.2 hjs)
    simp only [hoi,hj,Bool.or_eq_true,beq_iff_eq,List.any_eq_true,Array.any_eq_true',Bool.and_eq_true] at this
    rcases this with h1 | h1 | h1 | h1
    ·exact absurd h1 hne
    ·obtain ⟨ed,h2,h3,h4⟩:=h1
     obtain ⟨_,o,q2,q3⟩:=mem_ready.1 hi
     rw [hoi] at q2
     injection q2 with q2
     subst q2
     have q4:=q3 ed h2 h3
     rw [h4,<- getD_ftt (by simpa [hs] using hjs)] at q4
     rw [hl] at q4
     cases q4
    ·obtain ⟨ed,h2,h3,h4⟩:=h1
     exact absurd h4 (hno ed h2 h3)
    ·exact h1
  ·refine ⟨fun h0=>h.1 ?_,fun j hj=>?_⟩
   ·refine List.eq_nil_iff_forall_not_mem.2 fun j hj=>?_
    have:=((hrdy listed j).1 hj).1
    rw [h0] at this
    cases this
   ·have hj':j∈Region.ready .any (addL i k l).toArray listed:=(hrdy listed j).2 ⟨hj,fun e=>by
     subst e
     rcases hun listed hs hj with h1 | h1
     ·exact absurd h1 hi
     ·exact h1⟩
    have h1:=h.2 j hj'
    rw [wpOp_addL] at h1
    exact wpOp_mono (fun a w h=>ih _ a w (by simpa using hs) h) h1
end
section
variable {e:Env} {K:St->Prop} {mask:Nat} {Q:PX->St->Prop} {s:List (Nat × A)} {m:List (Nat × Bk)}
theorem anyOk_late {l:List Oper} {i k:Nat} {σ:St} (hB:lateB l.toArray i k=true) (h:AnyOk e (addL i k l).toArray K l.length (Array.replicate l.length false) σ):AnyOk e l.toArray K l.length (Array.replicate l.length false) σ:=by
 intro he U w0 S0 nt a w hd hs
 refine wpAny_late (fun ex a w hq=>hq.1) hB _ _ _ _ (by simp) (h he U w0 S0 nt a w (fun o ho d hdd=>?_) hs)
 have:some d∈(addL i k l).map (·.dst):=List.mem_map.2 ⟨o,by simpa using ho,hdd⟩
 rw [addL_dst] at this
 obtain ⟨o',h1,h2⟩:=List.mem_map.1 this
 exact hd o' (by simpa using h1) d h2
theorem anyOk_drawA {l:List Oper} {p:Nat} {σ:St} (hAl:isAllocB l.toArray p=true) (hB:regB l.toArray (p+1)=true) (hp:Runs e (l.map (·.dst)) (p+1) l σ K):AnyOk e l.toArray K l.length (Array.replicate l.length false) σ:=by
 intro he U w0 S0 nt a w hd hs
 have:=region_drawA_any (ops:=l.toArray) he hAl hB (K:=K) (Q:=QN e U w0 S0 nt K) (fun a w σ' hK hs'=>⟨rfl,σ',hK,hs'⟩) hd hs (by simpa using hp)
 simpa using this
theorem gLt {id:Nat} {l l':List Oper} {ds:List (Option Nat)} (p i k:Nat) (hK:Runs e ds (p+1) l' ⟨s,m⟩ (TrimK mask Q)) (hl:addL i k l=l':=by simp only [addL];exact rfl) (hds:l'.map (·.dst)=ds:=by simp only [List.map_cons,List.map_nil];exact rfl) (hc:lateB l.toArray i k=true:=by decide +kernel) (hA:isAllocB l'.toArray p=true:=by decide +kernel) (hr:regB l'.toArray (p+1)=true:=by decide +kernel):pwp e mask (.region id l.toArray true) ⟨s,m⟩ Q:=by
 subst hl hds
 have h1:=anyOk_late hc (by have:=anyOk_drawA hA hr hK;rwa [addL_len] at this)
 exact pwp_anyOk (ops:=l.toArray) (by simpa using h1)
end
end Go.Proofs.YtffmjghcpgpfpaaGreatDoor
namespace Go.Proofs.YtffmjghcpgpfpaaGreatDoor
open Go.RowKit
def preOf (ops:Array Oper) (ok:Oper):List Nat:=(ok.after.toList.filter fun e=>Region.binds .any e).flatMap fun e=>e.on::match ops[e.on]? with
 | some o=>(o.after.toList.filter fun e=>Region.binds .any e).map (·.on)
 | none=>[]
def lateP (ops:Array Oper) (i k:Nat):Bool:=noSel ops && apartL ops i && i != k && match ops[i]?,ops[k]? with
 | some oi,some ok=>(match oi with
  | ⟨some _,.pick _ _ _,_,_,_,none⟩=>true
  | _=>false) && oi.after.all fun e=>!Region.binds .any e || (preOf ops ok).contains e.on
 | _,_=>false
section
variable {P:Program} {l:List Oper} {i k:Nat}
def ClosedL (l:List Oper) (listed:Array Bool):Prop:=∀ (j:Nat) o,listed.getD j false=true->l[j]?=some o->∀ e∈o.after,Region.binds .any e=true->listed.getD e.on false=true
theorem ClosedL.put {listed:Array Bool} {j:Nat} (hc:ClosedL l listed) (hj:j∈Region.ready .any l.toArray listed):ClosedL l (listed.setIfInBounds j true):=by
 intro q o hq ho e he hb
 obtain ⟨_,o',h2,h3⟩:=mem_ready.1 hj
 have hmono:∀ t,listed.getD t false=true->(listed.setIfInBounds j true).getD t false=true:=fun t ht=>by
  by_cases htj:t=j
  ·subst htj
   simp only [Array.getD_eq_getD_getElem?,Array.getElem?_setIfInBounds] at ht ⊢
   cases hl:listed[t]? with
   | none=>rw [hl] at ht;cases ht
   | some b =>
    have:t < listed.size:=(Array.getElem?_eq_some_iff.1 hl).1
    simp [this]
  ·rw [getD_set_ne false (Ne.symm htj)];exact ht
 by_cases hqj:q=j
 ·subst hqj
  have:o'=o:=by
   rw [List.getElem?_toArray,ho] at h2
   injection h2 with h2
   exact h2.symm
  subst this
  exact hmono _ (h3 e he hb)
 ·rw [getD_set_ne false (Ne.symm hqj)] at hq
  exact hmono _ (hc q o hq ho e he hb)
theorem wpAny_lateP {Q:Exit->Act->World->Prop} (hQ:∀ ex a w,Q ex a w->ex=.normal) (hB:lateP l.toArray i k=true) :
  ∀ (f:Nat) (listed:Array Bool) (a:Act) (w:World),listed.size=l.length->ClosedL l listed->wpAny P .any (addL i k l).toArray Q f listed a w->wpAny P .any l.toArray Q f listed a w:=by
 simp only [lateP,Bool.and_eq_true,bne_iff_ne,ne_eq] at hB
 obtain ⟨⟨⟨hsel,hap⟩,hik⟩,h4⟩:=hB
 split at h4
 rotate_left
 ·cases h4
 rename_i oi ok hoi hok
 simp only [Bool.and_eq_true] at h4
 obtain ⟨h5,h6⟩:=h4
 have hrdy:∀ (listed:Array Bool) (j:Nat),j∈Region.ready .any (addL i k l).toArray listed ↔ j∈Region.ready .any l.toArray listed∧(j=k->listed.getD i false=true):=fun listed j=>by
  rw [mem_ready,mem_ready]
  simp only [List.getElem?_toArray,addL_get]
  by_cases hj:j=k
  ·subst hj
   simp only [if_true,true_implies]
   constructor
   ·rintro ⟨q1,o,q2,q3⟩
    cases hl:l[j]? with
    | none=>rw [hl] at q2;cases q2
    | some o' =>
     rw [hl] at q2
     injection q2 with q2
     subst q2
     exact ⟨⟨q1,o',rfl,fun e he hb=>q3 e (by simp [he]) hb⟩,q3 ⟨i,.data⟩ (by simp) rfl⟩
   ·rintro ⟨⟨q1,o,q2,q3⟩,q4⟩
    refine ⟨q1,_,by rw [q2];rfl,fun e he hb=>?_⟩
    rcases Array.mem_push.1 he with he | he
    ·exact q3 e he hb
    ·subst he;exact q4
  ·simp [hj]
 have hun:∀ (listed:Array Bool),listed.size=l.length->ClosedL l listed->k∈Region.ready .any l.toArray listed->i∈Region.ready .any l.toArray listed∨listed.getD i false=true:=fun listed hs hcl hk=>by
  by_cases h:listed.getD i false=true
  ·exact .inr h
  ·left
   rw [mem_ready] at hk ⊢
   obtain ⟨_,o,q2,q3⟩:=hk
   have:o=ok:=by rw [hok] at q2;injection q2 with q2;exact q2.symm
   subst this
   have hlt:i < l.length:=by have:=(Array.getElem?_eq_some_iff.1 hoi).1;simpa using this
   refine ⟨?_,oi,hoi,fun e he hb=>?_⟩
   ·have hl:i < listed.size:=by omega
    rw [getD_ftt hl]
    simpa using h
   ·have:=Array.all_eq_true_iff_forall_mem.1 h6 e he
    simp only [hb,Bool.not_true,Bool.false_or,List.contains_eq_mem,decide_eq_true_eq,preOf,List.mem_flatMap,List.mem_filter,List.mem_cons] at this
    obtain ⟨e',⟨r1,r2⟩,r3⟩:=this
    have hl':=q3 e' (Array.mem_toList_iff.1 r1) r2
    rcases r3 with r3 | r3
    ·rw [r3];exact hl'
    ·cases ho':l.toArray[e'.on]? with
     | none=>rw [ho'] at r3;simp at r3
     | some o' =>
      rw [ho'] at r3
      simp only [List.mem_map,List.mem_filter] at r3
      obtain ⟨e2,⟨r4,r5⟩,r6⟩:=r3
      rw [<- r6]
      exact hcl e'.on o' hl' (by simpa using ho') e2 (Array.mem_toList_iff.1 r4) r5
 intro f
 induction f with
 | zero =>
  intro listed a w hs hcl h
  refine ⟨?_,h.2⟩
  by_cases hk:k∈Region.ready .any l.toArray listed
  ·rcases hun listed hs hcl hk with h1 | h1
   ·have:=(hrdy listed i).2 ⟨h1,fun e=>absurd e hik⟩
    rw [h.1] at this
    cases this
   ·have:=(hrdy listed k).2 ⟨hk,fun _=>h1⟩
    rw [h.1] at this
    cases this
  ·refine List.eq_nil_iff_forall_not_mem.2 fun j hj=>?_
   have:=(hrdy listed j).2 ⟨hj,fun e=>absurd (e ▸ hj) hk⟩
   rw [h.1] at this
   cases this
 | succ f ih =>
  intro listed a w hs hcl h
  by_cases hi:i∈Region.ready .any l.toArray listed
  ·have h1:=h.2 i ((hrdy listed i).2 ⟨hi,fun e=>absurd e hik⟩)
   rw [wpOp_addL] at h1
   have h1':∃ v,Yields P l.toArray oi v a∧wpAny P .any (addL i k l).toArray Q f (listed.setIfInBounds i true) (a.put oi.dst v) w:=by
    unfold wpOp at h1
    simp only [hoi] at h1
    split at h5
    rotate_left
    ·cases h5
    rename_i d x y z ty pos af
    have hw:Region.wanted ⟨some d,.pick x y z,ty,pos,af,none⟩ (yielded l.toArray a.tmps)=true:=by simp [Region.wanted]
    rw [if_pos hw] at h1
    rcases h1 with h1 | ⟨_,b,w',h1⟩
    rotate_left
    ·have:=hQ _ _ _ h1;cases this
    unfold Oper.wp at h1
    cases hx:a.eval x with
    | bool b =>
     have hrun:∀ w',(execOp a.eval ⟨some d,.pick x y z,ty,pos,af,none⟩).run P w'=.ok (.value (if b then a.eval y else a.eval z)) w':=fun w'=>by
      cases b <;> simp [execOp,hx,asBool]
     rw [hrun,Oper.upon_value] at h1
     exact ⟨_,.inl ⟨hw,hrun⟩,h1⟩
    | _=>simp [execOp,hx,asBool,stuck,Oper.upon,Result.andThen] at h1
   obtain ⟨v,hv,h2⟩:=h1'
   refine wpAny_first (oi:=oi) (v:=v) hoi (fun j oj cs b hj hsl=>?_) (fun c a w hq=>?_) f listed a w (fun j oj hj hne hl hno=>?_) hi hv (ih _ _ _ (by simpa using hs) (hcl.put hi) h2)
   ·have:=List.all_eq_true.1 hsel oj (List.mem_of_getElem? (by simpa using hj))
    rw [hsl] at this
    cases this
   ·have:=hQ _ _ _ hq;cases this
   ·have hjs:=(Array.getElem?_eq_some_iff.1 hj).1
    have:=List.all_eq_true.1 hap j (List.mem_range.2 hjs)
    simp only [hoi,hj,Bool.or_eq_true,beq_iff_eq,List.any_eq_true,Array.any_eq_true',Bool.and_eq_true] at this
    rcases this with h1 | h1 | h1 | h1
    ·exact absurd h1 hne
    ·obtain ⟨ed,h2,h3,h4⟩:=h1
     obtain ⟨_,o,q2,q3⟩:=mem_ready.1 hi
     rw [hoi] at q2
     injection q2 with q2
     subst q2
     have q4:=q3 ed h2 h3
     rw [h4,<- getD_ftt (by simpa [hs] using hjs)] at q4
     rw [hl] at q4
     cases q4
    ·obtain ⟨ed,h2,h3,h4⟩:=h1
     exact absurd h4 (hno ed h2 h3)
    ·exact h1
  ·refine ⟨fun h0=>h.1 ?_,fun j hj=>?_⟩
   ·refine List.eq_nil_iff_forall_not_mem.2 fun j hj=>?_
    have:=((hrdy listed j).1 hj).1
    rw [h0] at this
    cases this
   ·have hj':j∈Region.ready .any (addL i k l).toArray listed:=(hrdy listed j).2 ⟨hj,fun e=>by
     subst e
     rcases hun listed hs hcl hj with h1 | h1
     ·exact absurd h1 hi
     ·exact h1⟩
    have h1:=h.2 j hj'
    rw [wpOp_addL] at h1
    exact wpOp_mono (fun a w h=>ih _ a w (by simpa using hs) (hcl.put hj) h) h1
end
section
variable {e:Env} {K:St->Prop} {mask:Nat} {Q:PX->St->Prop} {s:List (Nat × A)} {m:List (Nat × Bk)}
theorem anyOk_lateP {l:List Oper} {i k:Nat} {σ:St} (hB:lateP l.toArray i k=true) (h:AnyOk e (addL i k l).toArray K l.length (Array.replicate l.length false) σ):AnyOk e l.toArray K l.length (Array.replicate l.length false) σ:=by
 intro he U w0 S0 nt a w hd hs
 refine wpAny_lateP (fun ex a w hq=>hq.1) hB _ _ _ _ (by simp) (fun j o hj=>by rw [getD_replicate_false] at hj;cases hj) (h he U w0 S0 nt a w (fun o ho d hdd=>?_) hs)
 have:some d∈(addL i k l).map (·.dst):=List.mem_map.2 ⟨o,by simpa using ho,hdd⟩
 rw [addL_dst] at this
 obtain ⟨o',h1,h2⟩:=List.mem_map.1 this
 exact hd o' (by simpa using h1) d h2
theorem region_draw_any (he:e.Ok) {U:Nat->Prop} {w0:World} {S0:Nat->Prop} {nt:Nat} {ops:Array Oper} {n:Nat} (hB:regB ops n=true) (hna:∀ o,(ops.toList.take n).getLast?=some o->isAl o=false) {Q:Exit->Act->World->Prop} (hQ:∀ a w σ',K σ'->SimE e U w0 S0 nt σ' a w->Q .normal a w) {σ:St} {a:Act} {w:World}
  (hd:∀ o∈ops.toList,∀ d,o.dst=some d->d < nt) (h:SimE e U w0 S0 nt σ a w) (hp:Runs e (ops.toList.map (·.dst)) n ops.toList σ K):wpAny e.P .any ops Q ops.size (Array.replicate ops.size false) a w:=by
 simp only [regB,Bool.and_eq_true,Bool.or_eq_true,decide_eq_true_eq] at hB
 obtain ⟨⟨⟨hH,hn⟩,hs⟩,hsq⟩:=hB
 obtain ⟨S,L,h1⟩:=h
 have hsplit:ops.toList=ops.toList.take n++ops.toList.drop n:=(List.take_append_drop n _).symm
 have hlen:(ops.toList.take n).length=n:=by simp;omega
 have hp':Runs e (ops.toList.map (·.dst)) ((ops.toList.take n).length+0) (ops.toList.take n++ops.toList.drop n) σ K:=by rw [<- hsplit,hlen];exact hp
 obtain ⟨αs,hal,hch,hrest⟩:=runs_chain (U:=U) he w0.heap.size S0 ops.toList (ops.toList.drop n) 0 (ops.toList.take n) σ (fun _=>hna) hp'
 rw [hlen] at hal
 have inv0:InvA e U w0 S0 nt σ.m ops n σ.s αs L (Array.replicate ops.size false) a w S :=
  ⟨⟨by simp,fun j oj _ hl=>(by rw [getD_replicate_false] at hl;cases hl),fun t _ ht=>getD_in (by simpa using ht) (getD_replicate_false _ _)⟩,h1.size,h1.defers,h1.cls,h1.kept,fun t _=>h1.rel t,fun i o d α _ hl=>(by rw [getD_replicate_false] at hl;cases hl)⟩
 have H:=wpAny_headA (e:=e) (L:=L) (Q:=Q) he hH hn (fun hlt=>by
   rcases hs with hs | hs
   ·omega
   ·exact hs) hsq (fun i o d hi ho hdd=>hd o (List.mem_iff_getElem?.2 ⟨i,by simpa using ho⟩) d hdd) hal hch (goStep_true hH Q) (fun _ _ _ _ _ _ _ _ _ _ _ _ _ _=>trivial) (fun listed a' w' S' hI _ hall=>?_) n _ a _ S inv0 trivial ?_
 ·rw [show n+(ops.size - n)=ops.size by omega] at H
  exact H
 ·have hsim:SimE e U w0 S0 nt ⟨after σ.s (ops.toList.take n) αs,σ.m⟩ a' w':=by
   refine ⟨S',L,hI.cls,fun t=>?_,hI.size,hI.defers,hI.kept⟩
   by_cases hex:∃ (j:Nat) (p:Oper),j < n∧ops[j]?=some p∧p.dst=some t
   ·obtain ⟨j,p,hj,hp,hpt⟩:=hex
    obtain ⟨p',d',hP⟩:=headB.get hH hj
    have hpp:p'=p:=by have:=hP.op;rw [hp] at this;injection this with this;exact this.symm
    subst hpp
    have hdt:d'=t:=by have:=hP.dst;rw [hpt] at this;injection this with this;exact this.symm
    subst hdt
    obtain ⟨α,hα⟩:∃ α,αs[j]?=some α:=⟨αs[j],List.getElem?_eq_getElem (by omega)⟩
    show ARel w' S' L (gs (after σ.s (ops.toList.take n) αs) d') _
    rw [gs_after_in (ops.toList.take n) αs σ.s j p' α (by rw [List.getElem?_take,if_pos hj];simpa using hp) hα hpt (fun k q hk hq=>by
     rw [List.getElem?_take] at hq
     split at hq
     ·exact (hP.dep k q (by omega) (by simpa using hq)).1 hk
     ·cases hq)]
    exact hI.done j p' d' α hj (hall j hj) hp hpt hα
   ·have hno:∀ (j:Nat) (p:Oper),j < n->ops[j]?=some p->p.dst≠some t:=fun j p hj hp hd=>hex ⟨j,p,hj,hp,hd⟩
    show ARel w' S' L (gs (after σ.s (ops.toList.take n) αs) t) _
    rw [gs_after_out _ _ _ (fun p hp=>by
     obtain ⟨j,hj⟩:=List.mem_iff_getElem?.1 hp
     rw [List.getElem?_take] at hj
     split at hj
     ·exact hno j p (by omega) (by simpa using hj)
     ·cases hj)]
    exact hI.out t hno
  have:=Runs_wp he ops.toList hQ (ops.toList.drop n) _ a' w' (fun o ho=>hd o (List.mem_of_mem_drop ho)) hsim hrest
  simpa using this
 ·rw [List.countP_eq_length.2]
  ·simp
  ·intro i hi
   have hi':=List.mem_range.1 hi
   have hsz:i < (Array.replicate ops.size false).size:=by simp;omega
   rw [getD_ftt hsz,getD_replicate_false]
   rfl
theorem anyOk_draw {l:List Oper} {n:Nat} {σ:St} (hB:regB l.toArray n=true) (hna:∀ o,(l.take n).getLast?=some o->isAl o=false) (hp:Runs e (l.map (·.dst)) n l σ K):AnyOk e l.toArray K l.length (Array.replicate l.length false) σ:=by
 intro he U w0 S0 nt a w hd hs
 have:=region_draw_any (ops:=l.toArray) (n:=n) he hB (by simpa using hna) (K:=K) (Q:=QN e U w0 S0 nt K) (fun a w σ' hK hs'=>⟨rfl,σ',hK,hs'⟩) hd hs (by simpa using hp)
 simpa using this
def lastAl (l:List Oper) (n:Nat):Bool:=match (l.take n).getLast? with
 | some o=>!isAl o
 | none=>true
theorem gLp {id:Nat} {l l':List Oper} {ds:List (Option Nat)} (n i k:Nat) (hK:Runs e ds n l' ⟨s,m⟩ (TrimK mask Q)) (hl:addL i k l=l':=by simp only [addL];exact rfl) (hds:l'.map (·.dst)=ds:=by simp only [List.map_cons,List.map_nil];exact rfl) (hc:lateP l.toArray i k=true:=by decide +kernel) (hA:lastAl l' n=true:=by decide +kernel) (hr:regB l'.toArray n=true:=by decide +kernel):pwp e mask (.region id l.toArray true) ⟨s,m⟩ Q:=by
 subst hl hds
 have h1:=anyOk_lateP hc (by have:=anyOk_draw hr (fun o ho=>by unfold lastAl at hA;rw [ho] at hA;simpa using hA) hK;rwa [addL_len] at this)
 exact pwp_anyOk (ops:=l.toArray) (by simpa using h1)
end
end Go.Proofs.YtffmjghcpgpfpaaGreatDoor
namespace Go.Proofs.YtffmjghcpgpfpaaGreatDoor
open Go.RowKit
open Classical in
noncomputable def mk6 (g:Sgn) (o:Opr) (d:Dcl) (op:Int) (xs:List Tm):Tm:=(mkO g o d op xs).getD (if ¬ ArB o d xs.length∧∀ (i:Nat) a,xs[i]?=some a->KArg g o d i a then appT op (srtO o (flArgs o op xs)) else zTm)
theorem fl_forms {g:Sgn} {o:Opr} {op:Int} {xs:List Tm} (h:∀ a∈xs,TermOk g a):∀ b∈flArgs o op xs,FormOk g b:=by
 intro b hb
 obtain ⟨a,h1,h2⟩:=List.mem_flatMap.1 hb
 have hf:=(h a h1).form
 unfold flArg at h2
 split at h2
 ·exact (FormOk_iff.1 hf).2.1 b h2
 ·split at h2
  ·cases h2
  ·rw [List.mem_singleton.1 h2];exact hf
theorem sizes_app:∀ (l m:List Tm),sizeTms (l++m)=sizeTms l+sizeTms m
 | [],m=>by simp [sizeTms]
 | x::l,m=>by simp only [List.cons_append,sizeTms,sizes_app l m];omega
theorem fl_sizes {g:Sgn} {o:Opr} {op:Int}:∀ {xs:List Tm},(∀ a∈xs,TermOk g a)->sizeTms (flArgs o op xs)<=60 * xs.length
 | [],_=>by simp [flArgs,sizeTms]
 | a::xs,h=>by
  have ih:=fl_sizes (o:=o) (op:=op) (xs:=xs) fun x hx=>h x (List.mem_cons_of_mem _ hx)
  have ha:=(h a List.mem_cons_self).size
  have e:flArgs o op (a::xs)=flArg o op a++flArgs o op xs:=rfl
  have hz:=sizeTm_eq a
  have hf:sizeTms (flArg o op a)<=sizeTm a:=by
   unfold flArg
   split
   ·omega
   ·split
    ·simp [sizeTms]
    ·simp [sizeTms]
  rw [e,sizes_app,List.length_cons]
  omega
theorem fl_tmsB {g:Sgn} {o:Opr} {op:Int} {xs:List Tm} (h:∀ a∈xs,TermOk g a) (hl:xs.length<=1000):tmsB (flArgs o op xs):=by
 have h1:=bulks_form (FormOks_iff.2 (fl_forms (o:=o) (op:=op) h))
 have h2:=fl_sizes (o:=o) (op:=op) h
 unfold tmsB
 omega
theorem bulks_perm {l m:List Tm} (h:l.Perm m):bulkRows (encTms l)=bulkRows (encTms m):=by
 induction h with
 | nil=>rfl
 | cons x h ih=>simp only [encTms,bulkRows,ih]
 | swap x y l=>simp only [encTms,bulkRows];omega
 | trans h1 h2 a b=>rw [a,b]
section
variable {g:Sgn}
open Classical in
set_option maxHeartbeats 32000000 in
set_option maxRecDepth 100000 in
theorem con_l6Make (hokg:okSgn g) (hg:SgnOk g) {op:Int} {o:Opr} {d:Dcl} (h0:0<=op) (ho:g.ops[op.toNat]?=some o) (hd:o.decls[0]?=some d) (xs:List Tm) (ha:∀ a∈xs,TermOk g a) (hl:xs.length<=1000):Con e0 121 [.agg (encSgn g),.one (.lit (.int .i64 op)),.one (.sl (encTms xs))] [.agg (encTm (mk6 g o d op xs)),.one (.lit (.bool (mkO g o d op xs).isSome))]:=by
 have hz:=zTm_u
 have hfb:=fl_tmsB (o:=o) (op:=op) ha hl
 have hfo:okTms (flArgs o op xs):=okTms_iff.2 fun b hb=>FormOk.ok hg _ b (Nat.lt_succ_self _) (fl_forms ha b hb)
 have hfs:=fl_sizes (o:=o) (op:=op) ha
 have hax:=hg.axs o (List.mem_of_getElem? ho)
 have hlo:=hax.lo
 have hhi:=hax.hi
 have hln:=hg.len
 obtain ⟨d',hd',hr0,hr1,hargs⟩:=hg.first ho
 rw [hd] at hd'
 injection hd' with hd'
 subst hd'
 have cK:=con_l3Kinds hg.sorts
 rw [encSrt] at cK
 have cUn:=con_l6Unit hg h0 ho
 rw [encSgn] at cUn
 have cA:=con_l4Arity hd
 rw [encOpr] at cA
 have hB:mkO g o d op xs=if ArB o d xs.length then none else if ∀ (i:Nat) a,xs[i]?=some a->KArg g o d i a then mkL o op (flArgs o op xs) else none:=rfl
 have hM:mk6 g o d op xs=(mkO g o d op xs).getD (if ¬ ArB o d xs.length∧∀ (i:Nat) a,xs[i]?=some a->KArg g o d i a then appT op (srtO o (flArgs o op xs)) else zTm):=rfl
 have har2:o.assoc=true->d.args.length=2:=fun h=>by
  obtain ⟨k1,k2,hk,_⟩:=Opr.two hg ho hd (.inl h)
  rw [hk];rfl
 refine gI (ts:=[.cell 6 46,.slot 7]) 691281634562849416457226259614436229071 Tryz.func121 ?_
 (have F:=ai @tmz (ai @encSgn_u (ai @h0 (ai @ho @encOpr_u)));have NN:StopAt 2:=trivial;refine gGn ?_;clear F NN)
 refine gB ?_
 (have F:=@tmz;refine gC (cK) ?_;clear F)
 (have F:=@tmz;refine gR ?_;clear F)
 (have F:=@tmz;have NN:StopAt 3:=trivial;refine gGn ?_;clear F NN)
 refine gM (ι:=Bool) [38] [] (fun b=>[(38,A.d (.one (.lit (.bool b))))]) (fun b=>[]) (fun b=>b=decide (ArB o d xs.length)) ?_ (fun b hb=>Exists.intro _ (ai (Wk.refl _) ?_))
 ·refine gB ?_
  (have F:=ai @tmz @encOpr_u;refine gC (cA) ?_;clear F)
  by_cases q:xs.length=d.args.length
  ·have q1:((xs.length:Int)=(d.args.length:Int))=True:=eq_true (by omega)
   have hA:¬ ArB o d xs.length:=fun h=>h.elim (fun h=>by have:=har2 h.1;omega) fun h=>h.2 q
   (have F:=ai @q1 @tmz;refine gR ?_;clear F)
   (have F:=@tmz;refine gG ?_;exact ⟨false,(decide_eq_false hA).symm,gw,gw⟩)
  have q1:((xs.length:Int)=(d.args.length:Int))=False:=eq_false (by omega)
  cases hac:o.assoc with
  | false =>
   have hA:ArB o d xs.length:=.inr ⟨hac,q⟩
   (have F:=ai @q1 (ai @hac @tmz);refine gR ?_;clear F)
   (have F:=@tmz;refine gG ?_;exact ⟨true,(decide_eq_true hA).symm,gw,gw⟩)
  | true =>
  by_cases q2:xs.length < 2
  ·have hA:ArB o d xs.length:=.inl ⟨hac,q2⟩
   have q3:((2:Int)<=(xs.length:Int))=False:=eq_false (by omega)
   (have F:=ai @q1 (ai @hac (ai @q3 @tmz));refine gR ?_;clear F)
   (have F:=@tmz;refine gG ?_;exact ⟨true,(decide_eq_true hA).symm,gw,gw⟩)
  ·have hA:¬ ArB o d xs.length:=fun h=>h.elim (fun h=>q2 h.2) fun h=>by rw [hac] at h;cases h.1
   have q3:((2:Int)<=(xs.length:Int))=True:=eq_true (by omega)
   (have F:=ai @q1 (ai @hac (ai @q3 @tmz));refine gR ?_;clear F)
   (have F:=@tmz;refine gG ?_;exact ⟨false,(decide_eq_false hA).symm,gw,gw⟩)
 by_cases hAr:ArB o d xs.length
 ·rw [decide_eq_true hAr] at hb
  subst hb
  rw [if_pos hAr] at hB
  rw [hB,if_neg fun h=>h.1 hAr] at hM
  rw [hM,hB]
  (have F:=ai @hz @tmz;refine gG ?_;exact gTd)
 rw [decide_eq_false hAr] at hb
 subst hb
 rw [if_neg hAr] at hB
 have hnas:o.assoc=false->xs.length=d.args.length:=fun h=>Classical.byContradiction fun c=>hAr (.inr ⟨h,c⟩)
 have hfl0:flArgs o op []=[]:=rfl
 (have F:=@tmz;have NN:StopAt 5:=trivial;refine gGn ?_;clear F NN)
 refine gB ?_
 (have F:=@tmz;refine gC (cUn) ?_;clear F)
 (have F:=@tmz;refine gR ?_;clear F)
 (have F:=@tmz;refine gG ?_;clear F)
 (have F:=ai @hfl0 (ai @encTms_nil @tmz);refine gL (ι:=Nat) [7,12,13,14,50,55,73,82,92] [12] (fun i=>[(13,A.d (.one (.lit (.int .i64 i)))),(12,.buf 12)]) (fun i=>[(12,.buf none 46 4 (encTms (flArgs o op (xs.take i))))]) (fun i=>i<=xs.length∧∀ (j:Nat) a,j < i->xs[j]?=some a->KArg g o d j a) (fun i=>xs.length - i) (0) (⟨Nat.zero_le _,fun j a h=>absurd h (by omega)⟩) (fun i hi=>?_);clear F)
 obtain ⟨hi,hall⟩:=hi
 by_cases hlt:i < xs.length
 ·obtain ⟨a,hai⟩:∃ a,xs[i]?=some a:=⟨_,List.getElem?_eq_getElem hlt⟩
  have hT:=ha a (List.mem_of_getElem? hai)
  have q1:((i:Int) < (xs.length:Int))=True:=eq_true (by omega)
  have hw1:=wrap1 (k:=i) (by omega)
  obtain ⟨k,hk⟩:=argAt_get hg ho hd hnas hlt
  obtain ⟨hk0,hk1⟩:=hargs k (List.mem_of_getElem? hk)
  have hkd:=kd_get hg.sorts hk0 hk1
  have hkN:d.args[(argAt o i:Nat)]?=some k:=hk
  have cKa:=con_l6Kind hokg hg hT.form.node
  rw [encSgn] at cKa
  have cU:=con_l5Same (hT.ok hg) (okTm_unit (o:=o) hlo (by omega))
  have hUiff:o.unit≠0->(cmpTm a (unitTm o)=0 ↔ a.op=o.unit - 1):=fun hu=>by
   rw [cmpTm_iff]
   constructor
   ·rintro h;rw [h];simp [unitTm,Tm.op,hu]
   ·exact unit_form hg ho hu hT.form
  generalize hU:decide (cmpTm a (unitTm o)=0)=U at cU
  have hst:=flArgs_snoc (o:=o) (op:=op) hai
  have hle:=flArgs_len_take o op xs (i+1)
  rw [hst,List.length_append] at hle
  have hfl:=sizeTms_len (flArgs o op xs)
  have hnext:kindTm g a=((kd g.sorts k:Nat):Int)->i+1<=xs.length∧∀ (j:Nat) a,j < i+1->xs[j]?=some a->KArg g o d j a:=fun hkk=>⟨hlt,fun j a' hj ha'=>by
   by_cases e:j=i
   ·subst e
    rw [hai] at ha'
    injection ha' with ha'
    subst ha'
    exact ⟨k,hk,hkk⟩
   ·exact hall j a' (by omega) ha'⟩
  (have F:=ai @q1 @tmz;refine gG ?_;clear F)
  refine gM (ι:=Unit) [14] [] (fun u=>[(14,A.d (.one (.lit (.int .i64 (argAt o i:Nat)))))]) (fun u=>[]) (fun u=>True) ?_ (fun u hu=>Exists.intro _ (ai (Wk.refl _) ?_))
  ·rcases Bool.eq_false_or_eq_true o.assoc with hac | hac
   ·(have F:=ai @encOpr_u (ai @hac @argAt_u);refine gG ?_;exact ⟨(),trivial,gw,gw⟩)
   ·(have F:=ai @encOpr_u (ai @hac (ai @argAt_u @if_false.{1}));refine gG ?_;exact ⟨(),trivial,gw,gw⟩)
  (have F:=@tmz;have NN:StopAt 13:=trivial;refine gGn ?_;clear F NN)
  refine gB ?_
  (have F:=ai @hai @tmz;refine gC (cKa) ?_;clear F)
  by_cases hkk:kindTm g a=((kd g.sorts k:Nat):Int)
  rotate_left
  ·have hno:¬ ∀ (i:Nat) a,xs[i]?=some a->KArg g o d i a:=fun h=>by
    obtain ⟨k',hk',he⟩:=h i a hai
    rw [hk] at hk'
    injection hk' with hk'
    subst hk'
    exact hkk he
   rw [if_neg hno] at hB
   rw [hB,if_neg fun h=>hno h.2] at hM
   rw [hM,hB]
   (have F:=ai @tmz (ai @encOpr_u (ai @hd (ai @encDcl_u (ai @hkN (ai @hk0 (ai @hkd (ai @encInt_u @hkk)))))));refine gR ?_;clear F)
   (have F:=ai @hz @tmz;refine gG ?_;exact gTd)
  have hnext:=hnext hkk
  have l1:rowsB 4 (encTms (flArgs o op (xs.take i)))=true:=rb_tm _
  have l5:rowsB 4 (encTms a.args)=true:=rb_tm _
  (have F:=ai @tmz (ai @encOpr_u (ai @hd (ai @encDcl_u (ai @hkN (ai @hk0 (ai @hkd (ai @encInt_u @hkk)))))));refine gR ?_;clear F)
  (have F:=@tmz;have NN:StopAt 16:=trivial;refine gGn ?_;clear F NN)
  refine gM (ι:=Bool) [82] [] (fun b=>[(82,A.d (.one (.lit (.bool b))))]) (fun b=>[]) (fun b=>b=decide (o.unit≠0∧a.op=o.unit - 1)) ?_ (fun b hb=>Exists.intro _ (ai (Wk.refl _) ?_))
  ·by_cases hu:o.unit=0
   ·(have F:=ai @hu @tmz;refine gG ?_;exact ⟨false,(decide_eq_false fun h=>h.1 hu).symm,gw,gw⟩)
   ·refine gB ?_
    (have F:=ai @hu (ai @hai @tmz);refine gC (cU) ?_;clear F)
    (have F:=@tmz;refine gR ?_;clear F)
    have e:U=decide (o.unit≠0∧a.op=o.unit - 1):=by
     rw [<- hU]
     exact decide_eq_decide.2 ⟨fun h=>⟨hu,(hUiff hu).1 h⟩,fun h=>(hUiff hu).2 h.2⟩
    (have F:=ai @hu @tmz;refine gG ?_;exact ⟨U,e,gw,gw⟩)
  by_cases hUn:o.unit≠0∧a.op=o.unit - 1
  ·rw [decide_eq_true hUn] at hb
   subst hb
   have hN:¬ (o.assoc=true∧a.op=op):=fun h=>by
    have e:(unitTm o).args=[]:=by unfold unitTm;rfl
    have e2:=unit_form hg ho hUn.1 hT.form hUn.2
    obtain ⟨o',d',hA⟩:=hT.form.node.app (by omega)
    have:o'=o:=by have:=hA.at';rw [h.2,ho] at this;injection this with this;exact this.symm
    subst this
    have:=(hA.asc h.1).1
    rw [e2,e] at this
    simp at this
   have e:flArg o op a=[]:=by unfold flArg;rw [if_neg hN,if_pos hUn]
   rw [e,List.append_nil] at hst
   rw [<- hst]
   (have F:=ai @tmz @hw1;refine gG ?_;exact ⟨i+1,hnext,gw,gw,by omega⟩)
  rw [decide_eq_false hUn] at hb
  subst hb
  by_cases hN:o.assoc=true∧a.op=op
  ·have e:flArg o op a=a.args:=by unfold flArg;rw [if_pos hN]
   rw [e] at hst hle
   have l3:((flArgs o op (xs.take i)).length+a.args.length<=maxApp)=True:=eq_true (by unfold maxApp;omega)
   have l4:encTms (flArgs o op (xs.take i))++encTms a.args=encTms (flArgs o op (xs.take (i+1))):=by rw [hst,encTms_app]
   obtain ⟨hN1,hN2⟩:=hN
   have q2:(a.op=op)=True:=eq_true hN2
   (have F:=ai @tmz (ai @hai (ai @encOpr_u (ai @hN1 (ai @q2 (ai @l1 (ai @l5 (ai @l3 (ai @l4 @hw1))))))));refine gG ?_;exact ⟨i+1,hnext,gw,gw,by omega⟩)
  ·have e:flArg o op a=[a]:=by unfold flArg;rw [if_neg hN,if_neg hUn]
   rw [e] at hst hle
   have l3:((flArgs o op (xs.take i)).length+1<=maxApp)=True:=eq_true (by simp only [List.length_cons,List.length_nil] at hle;unfold maxApp;omega)
   have l4:encTms (flArgs o op (xs.take i))++[encTm a]=encTms (flArgs o op (xs.take (i+1))):=by rw [hst,encTms_app,encTms_one]
   rcases Bool.eq_false_or_eq_true o.assoc with hac | hac
   ·have hq:(a.op=op)=False:=eq_false fun h=>hN ⟨hac,h⟩
    (have F:=ai @tmz (ai @hai (ai @encOpr_u (ai @hac (ai @hq (ai @l1 (ai @l3 (ai @l4 @hw1)))))));refine gG ?_;exact ⟨i+1,hnext,gw,gw,by omega⟩)
   ·(have F:=ai @tmz (ai @hai (ai @encOpr_u (ai @hac (ai @l1 (ai @l3 (ai @l4 @hw1))))));refine gG ?_;exact ⟨i+1,hnext,gw,gw,by omega⟩)
 ·obtain rfl:i=xs.length:=by omega
  have q1:((xs.length:Int) < (xs.length:Int))=False:=eq_false (by omega)
  rw [List.take_length]
  have hAll:∀ (i:Nat) a,xs[i]?=some a->KArg g o d i a:=fun j a h=>hall j a (List.getElem?_eq_some_iff.1 h).1 h
  rw [if_pos hAll] at hB
  rw [hB,if_pos ⟨hAr,hAll⟩] at hM
  rw [hM,hB]
  clear hM hB hall hAll hnas
  generalize hL:flArgs o op xs=L at hfb hfo hfs ⊢
  have hLb:L.length+bulkRows (encTms L)<=1048576:=hfb
  (have F:=ai @q1 @tmz;have NN:StopAt 19:=trivial;refine gGn ?_;clear F NN)
  refine pS 12 fun a cap=>?_
  refine pD 12 [12] [] ?_
  by_cases hu:o.unit≠0∧L.length < 2
  ·have e:mkL o op L=some (L.headD (unitTm o)):=by unfold mkL;rw [if_pos hu]
   rw [e]
   obtain ⟨hu1,hu2⟩:=hu
   have q2:(o.unit=0)=False:=eq_false hu1
   cases L with
   | nil =>
    have z2:(((0:Nat):Int)=0)=True:=eq_true (by omega)
    (have F:=ai @q1 (ai @encOpr_u (ai @q2 (ai @z2 @tmz)));refine gG ?_;exact gTd)
   | cons b bs =>
    have hbs:bs=[]:=List.eq_nil_of_length_eq_zero (by simp only [List.length_cons] at hu2;omega)
    subst hbs
    have hbb:bulkRow (encTm b)<=1048576:=by simp only [encTms,bulkRows] at hLb;omega
    have z1:(((0+1:Nat):Int)=0)=False:=eq_false (by omega)
    have z2:(((0+1:Nat):Int)=1)=True:=eq_true (by omega)
    have z3:(((1:Nat):Int)=0)=False:=eq_false (by omega)
    have z4:(((1:Nat):Int)=1)=True:=eq_true (by omega)
    have q5:([b]:List Tm)[0]?=some b:=rfl
    have z5:(0 < 0+1)=True:=eq_true (by omega)
    have z6:((0:Nat) < 1)=True:=eq_true (by omega)
    have z7:Int.toNat 0=0:=rfl
    (have F:=ai @q1 (ai @encOpr_u (ai @q2 (ai @z1 (ai @z2 (ai @z3 (ai @z4 (ai @z5 (ai @z6 (ai @z7 (ai @q5 @tmz))))))))));have NN:StopAt 22:=trivial;refine gGn ?_;clear F NN)
    refine gB ?_
    (have F:=ai @z5 (ai @z6 (ai @z7 (ai @q5 @tmz)));refine gC (con_l5Copy b hbb) ?_;clear F)
    (have F:=@tmz;refine gR ?_;clear F)
    (have F:=@tmz;refine gG ?_;exact gTd)
  ·have hml:mkL o op L=if BigT o op (srtO o L) then none else some (appT op (srtO o L)):=by unfold mkL;rw [if_neg hu]
   rw [hml]
   clear hml cUn cK cA
   have hSl:=srtO_len o L
   have hSp:=srtO_perm o L
   have sz1:=sizeTms_perm hSp
   have dz1:=depthTms_perm hSp
   have sl1:=sizeTms_len L
   have cSo:=con_specSort L hfo hfb
   refine gM (ι:=Unit) [116] [] (fun v=>[(116,A.d (.one (.lit (.bool false))))]) (fun v=>[]) (fun v=>True) ?_ (fun v hv=>Exists.intro _ (ai (Wk.refl _) ?_))
   ·by_cases hu0:o.unit=0
    ·have q2:(o.unit=0)=True:=eq_true hu0
     (have F:=ai @q2 @tmz;refine gG ?_;exact ⟨(),trivial,gw,gw⟩)
    ·have q2:(o.unit=0)=False:=eq_false hu0
     have q3:((L.length:Int)=0)=False:=eq_false fun h=>hu ⟨hu0,by omega⟩
     (have F:=ai @q2 (ai @q3 @tmz);refine gG ?_;exact ⟨(),trivial,gw,gw⟩)
   (have F:=@tmz;have NN:StopAt 21:=trivial;refine gGn ?_;clear F NN)
   refine gM (ι:=Unit) [123] [] (fun v=>[(123,A.d (.one (.lit (.bool false))))]) (fun v=>[]) (fun v=>True) ?_ (fun v hv=>Exists.intro _ (ai (Wk.refl _) ?_))
   ·by_cases hu0:o.unit=0
    ·have q2:(o.unit=0)=True:=eq_true hu0
     (have F:=ai @q2 @tmz;refine gG ?_;exact ⟨(),trivial,gw,gw⟩)
    ·have q2:(o.unit=0)=False:=eq_false hu0
     have q3:((L.length:Int)=1)=False:=eq_false fun h=>hu ⟨hu0,by omega⟩
     (have F:=ai @q2 (ai @q3 @tmz);refine gG ?_;exact ⟨(),trivial,gw,gw⟩)
   (have F:=@tmz;have NN:StopAt 23:=trivial;refine gGn ?_;clear F NN)
   refine gB ?_
   (have F:=ai @encOpr_u @tmz;refine gR ?_;clear F)
   refine gM (ι:=Unit) [12] [] (fun v=>[(12,.d (.one (.sl (encTms (srtO o L)))))]) (fun v=>[]) (fun v=>True) ?_ (fun v hv=>Exists.intro _ (ai (Wk.refl _) ?_))
   ·cases hcm:o.comm with
    | true =>
     rw [show srtO o L=sortTm L by unfold srtO;rw [if_pos hcm]]
     (have F:=ai @hcm @tmz;have NN:StopAt 24:=trivial;refine gGn ?_;clear F NN)
     refine gB ?_
     (have F:=@tmz;refine gC (cSo) ?_;clear F)
     (have F:=@tmz;refine gR ?_;clear F)
     (have F:=@tmz;refine gG ?_;exact ⟨(),trivial,gw,gw⟩)
    | false =>
     rw [show srtO o L=L by unfold srtO;rw [if_neg (by rw [hcm];simp)]]
     (have F:=ai @hcm @tmz;refine gG ?_;exact ⟨(),trivial,gw,gw⟩)
   have hSB:tmsB (srtO o L):=by
    unfold tmsB at hfb ⊢
    rw [bulks_perm hSp,hSl];exact hfb
   generalize srtO o L=S at hSl sz1 dz1 hSB ⊢
   have em:encTm (appT op S)=[.lit (.int .i64 op),.lit (.string ByteArray.empty),.lit (.int .i64 0),.sl (encTms S)]:=by simp only [appT,encTm]
   have zs:sizeTm (appT op S)=1+sizeTms S:=by rw [sizeTm_eq];rfl
   have c1:=con_l6Small (t:=appT op S) (by unfold big;omega)
   rw [em] at c1
   (have F:=@tmz;have NN:StopAt 25:=trivial;refine gGn ?_;clear F NN)
   refine gB ?_
   (have F:=@tmz;refine gC (con_l5Copies S hSB) ?_;clear F)
   (have F:=@tmz;refine gR ?_;clear F)
   (have F:=@tmz;have NN:StopAt 26:=trivial;refine gGn ?_;clear F NN)
   by_cases h7:o.assoc=true∧7 < S.length
   ·rw [if_pos (show BigT o op S from .inl h7)]
    obtain ⟨hac,h7⟩:=h7
    have q2:((S.length:Int)<=7)=False:=eq_false (by omega)
    refine gLp 13 12 13 ?_
    (have F:=ai @hac (ai @q2 @tmz);refine gR ?_;clear F)
    (have F:=ai @hz (ai @em @tmz);refine gG ?_;exact gTd)
   have hac:o.assoc=true->((S.length:Int)<=7)=True:=fun h=>eq_true (Int.not_lt.1 fun q=>h7 ⟨h,by omega⟩)
   have hres:(if BigT o op S then none else some (appT op S)).isSome=decide (sizeTm (appT op S)<=60∧depthTm (appT op S)<=20):=by
    by_cases hbg:BigT o op S
    ·rw [if_pos hbg]
     refine (decide_eq_false fun h=>?_).symm
     rcases hbg with h | h | h
     ·exact h7 h
     ·omega
     ·omega
    ·rw [if_neg hbg]
     refine (decide_eq_true ⟨?_,?_⟩).symm
     ·exact Nat.not_lt.1 fun h=>hbg (.inr (.inl h))
     ·exact Nat.not_lt.1 fun h=>hbg (.inr (.inr h))
   have hgd:(if BigT o op S then none else some (appT op S)).getD (appT op S)=appT op S:=by
    split <;> rfl
   rw [hres,hgd,em]
   rcases Bool.eq_false_or_eq_true o.assoc with ha' | ha'
   ·have q2:=hac ha'
    refine gLp 13 12 13 ?_
    (have F:=ai @ha' (ai @q2 @tmz);refine gC (c1) ?_;clear F)
    (have F:=@tmz;refine gR ?_;clear F)
    (have F:=@tmz;refine gG ?_;exact gTd)
   ·refine gLp 13 12 13 ?_
    (have F:=ai @ha' @tmz;refine gC (c1) ?_;clear F)
    (have F:=@tmz;refine gR ?_;clear F)
    (have F:=@tmz;refine gG ?_;exact gTd)
end
end Go.Proofs.YtffmjghcpgpfpaaGreatDoor
namespace Go.Proofs.YtffmjghcpgpfpaaGreatDoor
open Go.RowKit
def decN (n:Nat):List UInt8:=if n < 10 then [UInt8.ofNat (48+n)] else [UInt8.ofNat (48+n / 10),UInt8.ofNat (48+n % 10)]
def decB (i:Int):List UInt8:=if i < 0 then 45::decN (-i).toNat else decN i.toNat
mutual
def keyTm:Tm->List UInt8
 | .mk op nm so args=>decB op++((if op < 0 then 58::(nm.toList++58::decB so) else [])++40::(keyTms args++[41]))
def keyTms:List Tm->List UInt8
 | []=>[]
 | t::ts=>keyTm t++keyTms ts
end
theorem keyTms_app (a b:List Tm):keyTms (a++b)=keyTms a++keyTms b:=by
 induction a with
 | nil=>rfl
 | cons t ts ih=>simp only [List.cons_append,keyTms,ih,List.append_assoc]
theorem span_eq {P:UInt8->Prop}:∀ {l m:List UInt8} {c d:UInt8} {x y:List UInt8},(∀ b∈l,P b)->(∀ b∈m,P b)->¬ P c->¬ P d->l++c::x=m++d::y->l=m∧c=d∧x=y
 | [],[],c,d,x,y,_,_,_,_,h=>by simpa using h
 | [],b::m,c,d,x,y,_,hm,hc,_,h=>by
  simp only [List.nil_append,List.cons_append,List.cons.injEq] at h
  exact absurd (hm b List.mem_cons_self) (h.1 ▸ hc)
 | a::l,[],c,d,x,y,hl,_,_,hd,h=>by
  simp only [List.nil_append,List.cons_append,List.cons.injEq] at h
  exact absurd (hl a List.mem_cons_self) (h.1 ▸ hd)
 | a::l,b::m,c,d,x,y,hl,hm,hc,hd,h=>by
  simp only [List.cons_append,List.cons.injEq] at h
  obtain ⟨h1,h2⟩:=span_eq (fun b hb=>hl b (List.mem_cons_of_mem _ hb)) (fun b hb=>hm b (List.mem_cons_of_mem _ hb)) hc hd h.2
  exact ⟨by rw [h.1,h1],h2⟩
def NumB (b:UInt8):Prop:=b=45∨(48<=b.toNat∧b.toNat<=57)
instance (b:UInt8):Decidable (NumB b):=by unfold NumB;infer_instance
theorem dec_num:∀ i:Fin 15,∀ b∈decB ((i.val:Int) - 1),NumB b:=by decide
theorem dec_inj:∀ i j:Fin 15,decB ((i.val:Int) - 1)=decB ((j.val:Int) - 1)->i=j:=by decide
theorem dec_all {i:Int} (h0:-1<=i) (h1:i < 14):∀ b∈decB i,NumB b:=by
 have:=dec_num ⟨(i+1).toNat,by omega⟩
 rwa [show (((i+1).toNat:Nat):Int) - 1=i by omega] at this
theorem dec_one {i j:Int} (h0:-1<=i) (h1:i < 14) (h2:-1<=j) (h3:j < 14) (h:decB i=decB j):i=j:=by
 have:=dec_inj ⟨(i+1).toNat,by omega⟩ ⟨(j+1).toNat,by omega⟩ (by
  simp only
  rw [show (((i+1).toNat:Nat):Int) - 1=i by omega,show (((j+1).toNat:Nat):Int) - 1=j by omega];exact h)
 have:=congrArg Fin.val this
 simp only at this
 omega
theorem dec_head:∀ i:Fin 15,(decB ((i.val:Int) - 1)).head?≠some 41∧decB ((i.val:Int) - 1)≠[]:=by decide
def NamB (s:ByteArray):Prop:=∀ b∈s.toList,nameB (b.toNat:Int)=true
mutual
def KeyOk:Tm->Prop
 | .mk op nm so args=>-1<=op∧op < 14∧(op=-1->NamB nm∧0<=so∧so < 8)∧(op≠-1->nm=ByteArray.empty∧so=0)∧KeyOks args
def KeyOks:List Tm->Prop
 | []=>True
 | t::ts=>KeyOk t∧KeyOks ts
end
theorem toList_inj {a b:ByteArray} (h:a.toList=b.toList):a=b:=by
 rw [ByteArray.toList_eq,ByteArray.toList_eq] at h
 obtain ⟨x⟩:=a
 obtain ⟨y⟩:=b
 simp only at h
 rw [Array.toList_inj.1 h]
theorem not_num40:¬ NumB 40:=by decide
theorem not_num58:¬ NumB 58:=by decide
mutual
theorem key_inj:∀ (a b:Tm) (x y:List UInt8),KeyOk a->KeyOk b->keyTm a++x=keyTm b++y->a=b∧x=y
 | .mk op nm so args,.mk op' nm' so' args',x,y,ha,hb,h=>by
  simp only [KeyOk] at ha hb
  obtain ⟨a1,a2,a3,a4,a5⟩:=ha
  obtain ⟨b1,b2,b3,b4,b5⟩:=hb
  simp only [keyTm,List.append_assoc,List.cons_append] at h
  have n1:=dec_all a1 a2
  have n2:=dec_all b1 b2
  have hfst:op=op'∧nm=nm'∧so=so'∧keyTms args++([41]++x)=keyTms args'++([41]++y):=by
   by_cases h1:op < 0
   ·rw [if_pos h1] at h
    by_cases h2:op' < 0
    ·rw [if_pos h2] at h
     simp only [List.cons_append,List.append_assoc] at h
     obtain ⟨e1,_,e2⟩:=span_eq n1 n2 not_num58 not_num58 h
     have e1:=dec_one a1 a2 b1 b2 e1
     have o1:op=-1:=by omega
     have o2:op'=-1:=by omega
     obtain ⟨p1,p2,p3⟩:=a3 o1
     obtain ⟨q1,q2,q3⟩:=b3 o2
     obtain ⟨f1,_,f2⟩:=span_eq (P:=fun b=>nameB (b.toNat:Int)=true) p1 q1 (by decide) (by decide) e2
     obtain ⟨g1,_,g2⟩:=span_eq (dec_all (by omega) (by omega)) (dec_all (by omega) (by omega)) not_num40 not_num40 f2
     exact ⟨e1,toList_inj f1,dec_one (by omega) (by omega) (by omega) (by omega) g1,g2⟩
    ·rw [if_neg h2] at h
     simp only [List.cons_append,List.nil_append] at h
     obtain ⟨_,e,_⟩:=span_eq n1 n2 not_num58 not_num40 h
     exact absurd e (by decide)
   ·rw [if_neg h1] at h
    by_cases h2:op' < 0
    ·rw [if_pos h2] at h
     simp only [List.cons_append,List.nil_append] at h
     obtain ⟨_,e,_⟩:=span_eq n1 n2 not_num40 not_num58 h
     exact absurd e (by decide)
    ·rw [if_neg h2] at h
     simp only [List.nil_append] at h
     obtain ⟨e1,_,e2⟩:=span_eq n1 n2 not_num40 not_num40 h
     have e1:=dec_one a1 a2 b1 b2 e1
     obtain ⟨p1,p2⟩:=a4 (by omega)
     obtain ⟨q1,q2⟩:=b4 (by omega)
     exact ⟨e1,by rw [p1,q1],by rw [p2,q2],e2⟩
  obtain ⟨rfl,rfl,rfl,he⟩:=hfst
  obtain ⟨i1,i2⟩:=keys_inj args args' x y a5 b5 he
  exact ⟨by rw [i1],i2⟩
theorem keys_inj:∀ (xs bs:List Tm) (x y:List UInt8),KeyOks xs->KeyOks bs->keyTms xs++([41]++x)=keyTms bs++([41]++y)->xs=bs∧x=y
 | [],[],x,y,_,_,h=>by simpa [keyTms] using h
 | [],.mk op nm so args::bs,x,y,_,hb,h=>by
  exfalso
  simp only [KeyOks,KeyOk] at hb
  have:=dec_head ⟨(op+1).toNat,by omega⟩
  rw [show (((op+1).toNat:Nat):Int) - 1=op by omega] at this
  simp only [keyTms,keyTm,List.nil_append,List.append_assoc] at h
  cases hd:decB op with
  | nil=>exact this.2 hd
  | cons c l =>
   rw [hd] at h this
   simp only [List.cons_append,List.cons.injEq] at h
   exact this.1 (by rw [<- h.1];rfl)
 | .mk op nm so args::xs,[],x,y,ha,_,h=>by
  exfalso
  simp only [KeyOks,KeyOk] at ha
  have:=dec_head ⟨(op+1).toNat,by omega⟩
  rw [show (((op+1).toNat:Nat):Int) - 1=op by omega] at this
  simp only [keyTms,keyTm,List.nil_append,List.append_assoc] at h
  cases hd:decB op with
  | nil=>exact this.2 hd
  | cons c l =>
   rw [hd] at h this
   simp only [List.cons_append,List.cons.injEq] at h
   exact this.1 (by rw [h.1];rfl)
 | a::xs,b::bs,x,y,ha,hb,h=>by
  simp only [KeyOks] at ha hb
  simp only [keyTms,List.append_assoc] at h
  obtain ⟨e1,e2⟩:=key_inj a b _ _ ha.1 hb.1 h
  obtain ⟨f1,f2⟩:=keys_inj xs bs x y ha.2 hb.2 e2
  exact ⟨by rw [e1,f1],f2⟩
end
theorem name_all {s:ByteArray} (h:isName s=true):NamB s:=by
 unfold isName at h
 simp only [Bool.and_eq_true] at h
 have hn:=h.2
 unfold nameFrom at hn
 rw [List.all_eq_true] at hn
 intro b hb
 rw [ByteArray.toList_eq] at hb
 obtain ⟨i,hi,rfl⟩:=List.getElem_of_mem hb
 have hi':i < s.size:=by simpa using hi
 have:=hn i (List.mem_range'_1.2 ⟨Nat.zero_le _,by omega⟩)
 simp only [Bool.and_eq_true,byteAt,dif_pos hi'] at this
 exact this.1
mutual
theorem KeyOk_of {g:Sgn} (hg:SgnOk g):∀ (t:Tm),FormOk g t->KeyOk t
 | .mk op nm so args,h=>by
  have h2:FormOks g args:=by simp only [FormOk] at h;exact h.2.1
  have h1:NodeOk g (.mk op nm so args):=by simp only [FormOk] at h;exact h.1
  have hl:=hg.len
  have hn:=hg.sorts.n8
  refine ⟨?_,?_,?_,?_,KeyOks_of hg args h2⟩
  ·rcases h1 with h | ⟨o,d,h⟩
   ·have:op=-1:=h.1
    omega
   ·have:0<=op:=h.lo
    omega
  ·rcases h1 with h | ⟨o,d,h⟩
   ·have:op=-1:=h.1
    omega
   ·have h0:0<=op:=h.lo
    have:g.ops[op.toNat]?=some o:=h.at'
    have:=(List.getElem?_eq_some_iff.1 this).1
    omega
  ·intro ho
   rcases h1 with h | ⟨o,d,h⟩
   ·have h4:0<=so:=h.2.2.1
    have h5:so < g.sorts.names.length:=h.2.2.2.1
    exact ⟨name_all h.2.1,h4,by omega⟩
   ·have:0<=op:=h.lo
    omega
  ·intro ho
   rcases h1 with h | ⟨o,d,h⟩
   ·have:op=-1:=h.1
    omega
   ·exact ⟨h.nm,h.so⟩
theorem KeyOks_of {g:Sgn} (hg:SgnOk g):∀ (ts:List Tm),FormOks g ts->KeyOks ts
 | [],_=>trivial
 | t::ts,h=>by
  simp only [FormOks] at h
  exact ⟨KeyOk_of hg t h.1,KeyOks_of hg ts h.2⟩
end
def keyS (t:Tm):ByteArray:=⟨(keyTm t).toArray⟩
theorem keyS_inj {g:Sgn} (hg:SgnOk g) {a b:Tm} (ha:FormOk g a) (hb:FormOk g b) (h:(keyS a).toList=(keyS b).toList):a=b:=by
 rw [ByteArray.toList_eq,ByteArray.toList_eq] at h
 simp only [keyS] at h
 exact (key_inj a b [] [] (KeyOk_of hg a ha) (KeyOk_of hg b hb) (by rw [List.append_nil,List.append_nil];exact h)).1
end Go.Proofs.YtffmjghcpgpfpaaGreatDoor
namespace Go.Proofs.YtffmjghcpgpfpaaGreatDoor
open Go.RowKit
def bytesTy (P:Program) (s d:TypeId):Bool:=match P.underlying s,P.underlying d with
 | some (.slice e),some .string=>match P.underlying e with
  | some (.int .u8)=>true
  | _=>false
 | _,_=>false
section
variable {e:Env} {σ:St} {o:Oper} {K:St->Prop}
end
end Go.Proofs.YtffmjghcpgpfpaaGreatDoor
namespace Go.Proofs.YtffmjghcpgpfpaaGreatDoor
open Go.RowKit
section
variable {P:Program} {w:World}
theorem app_growS (ts:Array TypeId) (t ty e:TypeId) (i:TypeInfo) (z:Value) (h0:ts[0]?=some t) {t2:TypeId} (h1:ts[1]?=some t2) (ht2:P.underlying t2=some .string) (ht:P.underlying t=some (.slice e)) (hi:P.info? e=some i) (hz:i.zero=some z) (b:Option Addr) (sLen sCap:Nat) (olds:List Value) (x:Value) (n:Nat) (news:List Value)
  (hln:(Builtin.lenOf x).run P w=.ok n w) (hfo:(Builtin.firstCells i.size sLen (.slice b sLen sCap)).run P w.drew=.ok olds.toArray w.drew) (hf:(Builtin.firstCells i.size n x).run P w.drew=.ok news.toArray w.drew) (hg:sCap < sLen+n) (h63:((sLen+n:Nat):Int)<=9223372036854775807) (hfit:Builtin.nextslicecap (sLen+n) sCap * i.bytes<=281474976710656) :
  (Builtin.append_ ts ty #[.slice b sLen sCap,x]).run P w=.ok (.slice (some ⟨w.heap.size,0,none⟩) (sLen+n) (grownCap w (sLen+n) sCap e)) (w.drew.alloc (.cells (olds.toArray++news.toArray++Builtin.zeroCells z.cells (grownCap w (sLen+n) sCap e - (sLen+n))) e)):=by
 have hn:¬ (sLen+n<=sCap):=by omega
 have h63':¬ (9223372036854775807 < ((sLen:Int)+(n:Int))):=by omega
 have h48':¬ (281474976710656 < Builtin.nextslicecap (sLen+n) sCap * i.bytes):=by omega
 have e1:olds.toArray++(news.toArray++Builtin.zeroCells z.cells (grownCap w (sLen+n) sCap e - (sLen+n)))=(olds++news).toArray++Builtin.zeroCells z.cells (grownCap w (sLen+n) sCap e - (sLen+n)):=by
  apply Array.toList_inj.1;simp
 unfold grownCap at e1
 simp [Builtin.append_,h0,h1,run_underlying ht,run_underlying ht2,sizeOf,typeInfo,zeroValue,hi,hz,hln,hn,h63',h48',Question.forced,hf,hfo,newRow,grownCap,e1]
theorem app_roomS (ts:Array TypeId) (t ty e:TypeId) (i:TypeInfo) (h0:ts[0]?=some t) {t2:TypeId} (h1:ts[1]?=some t2) (ht2:P.underlying t2=some .string) (ht:P.underlying t=some (.slice e)) (hi:P.info? e=some i) (g sLen sCap:Nat) (cur:Array Value) (hg:w.heap[g]?=some (.cells cur e (0,0))) (x:Value) (n:Nat) (news:List Value)
  (hln:(Builtin.lenOf x).run P w=.ok n w) (hf:(Builtin.firstCells i.size n x).run P w=.ok news.toArray w) (hone:∀ u∈news,u.oneCell'=true) (hroom:sLen+n<=sCap) (hfit:sLen * i.size+news.length<=cur.size) :
  (Builtin.append_ ts ty #[.slice (some ⟨g,0,none⟩) sLen sCap,x]).run P w=.ok (.slice (some ⟨g,0,none⟩) (sLen+n) sCap) (w.setRow g (cur.toList.take (sLen * i.size)++news++cur.toList.drop (sLen * i.size+news.length)).toArray):=by
 have hst:=run_storeCells_at P g (sLen * i.size) e news 0 cur w hg (by simpa using hfit) hone
 simp only [Nat.add_zero] at hst
 simp [Builtin.append_,h0,h1,run_underlying ht,run_underlying ht2,sizeOf,typeInfo,hi,hln,hroom,hf,Addr.add_lit,hst]
theorem app_noneS (ts:Array TypeId) (t ty e:TypeId) (i:TypeInfo) (h0:ts[0]?=some t) {t2:TypeId} (h1:ts[1]?=some t2) (ht2:P.underlying t2=some .string) (ht:P.underlying t=some (.slice e)) (hi:P.info? e=some i) (b:Option Addr) (x:Value)
  (hln:(Builtin.lenOf x).run P w=.ok 0 w) (hf:(Builtin.firstCells i.size 0 x).run P w=.ok #[] w) :
  (Builtin.append_ ts ty #[.slice b 0 0,x]).run P w=.ok (.slice b 0 0) w:=by
 cases b <;> simp [Builtin.append_,h0,h1,run_underlying ht,run_underlying ht2,sizeOf,typeInfo,hi,hln,hf,storeCells]
end
section
variable {e:Env} {U:Nat->Prop} {w0:World} {S0:Nat->Prop} {nt:Nat} {σ:St} {a:Act} {w:World} {S:Nat->Prop} {L:Lay} {o:Oper}
theorem append_ownS (he:e.Ok) (hC:Cls e U w0.heap.size S0 σ.m w S L) {ts:Array TypeId} {t ty:TypeId} {ety sz by':Nat} (h0:ts[0]?=some t) {t2:TypeId} (h1:ts[1]?=some t2) (ht2:e.P.underlying t2=some .string) (hb:bytesT e.P t=some (ety,sz,by')) {rows ys:List (List C)} {v u:Value}
  (hv:BufRel w S ety sz rows v∨(DRel w S (.clip rows) v∧(rows=[]∨ys≠[]))) (hrl:rowsLen sz rows) (hyl:rowsLen sz ys) (hle:rows.length+ys.length<=maxApp)
  (hy:∃ (news:List Value),(∀ w',(Builtin.lenOf u).run e.P w'=.ok ys.length w')∧RepVals w S ys.flatten news∧∀ (P:Program) (w':World),(∀ p,w'.cell? p=w.cell? p)->(Builtin.firstCells sz ys.length u).run P w'=.ok news.toArray w') :
  ∃ v' w',(Builtin.append_ ts ty #[v,u]).run e.P w=.ok v' w'∧BufRel w' S ety sz (rows++ys) v'∧∃ τ:Option Nat,Kept e.D (fun b=>τ=some b) w.heap.size w w'∧(∀ g,τ=some g->vblk v=some g∧BufRel w S ety sz rows v)∧(∀ g,vblk v'=some g->τ=some g∨w.heap.size<=g):=by
 obtain ⟨i,z,hu,hi,hz,hsz,hby,hzs,hs0,hb4⟩:=bytesT_spec hb
 obtain ⟨news,hln,hnews,hf⟩:=hy
 have hnl:news.length=ys.length * sz:=by rw [hnews.len,flat_len hyl]
 have hone:=okCell_all (flat_ok hyl) hnews
 have hm30:rows.length+ys.length<=1073741824:=hle
 have hbytes:(rows.length+ys.length) * i.bytes<=140737488355328:=by
  have h2:(rows.length+ys.length) * i.bytes<=1073741824 * 4096:=Nat.mul_le_mul hm30 (by omega)
  omega
 have hrl2:rowsLen sz (rows++ys):=hrl.append hyl
 have grow:∀ (b:Option Addr) (cap:Nat) (olds:List Value),v=.slice b rows.length cap->cap < rows.length+ys.length->RepVals w S rows.flatten olds->(∀ (P:Program) (w':World),(∀ p,w'.cell? p=w.cell? p)->(Builtin.firstCells sz rows.length v).run P w'=.ok olds.toArray w') ->
   ∃ v' w',(Builtin.append_ ts ty #[v,u]).run e.P w=.ok v' w'∧BufRel w' S ety sz (rows++ys) v'∧∃ τ:Option Nat,Kept e.D (fun b=>τ=some b) w.heap.size w w'∧(∀ g,τ=some g->vblk v=some g∧BufRel w S ety sz rows v)∧(∀ g,vblk v'=some g->τ=some g∨w.heap.size<=g):=by
  intro b cap olds hv hlt hol hfo
  have h63:rows.length+ys.length<=maxLen:=by unfold maxLen;omega
  have hrun:=app_growS ts t ty ety i z h0 h1 ht2 hu hi hz b rows.length cap olds u ys.length news (hln w) (by rw [hsz,<- hv];exact hfo _ _ (drew_cell w)) (by rw [hsz];exact hf _ _ (drew_cell w)) hlt (by omega) (growslice_fits (by omega) hbytes)
  rw [<- hv] at hrun
  have hge:=grownCap_ge w (rows.length+ys.length) cap ety
  have hcm:=grownCap_le_maxLen w (rows.length+ys.length) cap ety h63
  generalize hcap:grownCap w (rows.length+ys.length) cap ety=nc at hrun hge hcm
  have hcl:olds.length=rows.length * sz:=by rw [hol.len,flat_len hrl]
  have hk:Kept e.D (fun b=>(none:Option Nat)=some b) w.heap.size w (w.drew.alloc (.cells (olds.toArray++news.toArray++Builtin.zeroCells z.cells (nc - (rows.length+ys.length))) ety)) :=
   ⟨rfl,rfl,rfl,fun _=>Nat.le_succ _,by simp,fun k hk _=>heap_alloc_old w.drew _ hk⟩
  have hheap:=heap_alloc_new w.drew (.cells (olds.toArray++news.toArray++Builtin.zeroCells z.cells (nc - (rows.length+ys.length))) ety)
  have hsW:(w.drew.alloc (.cells (olds.toArray++news.toArray++Builtin.zeroCells z.cells (nc - (rows.length+ys.length))) ety)).heap.size=w.heap.size+1:=by simp
  have e1:olds.toArray++news.toArray++Builtin.zeroCells z.cells (nc - (rows.length+ys.length))=((olds++news)++(Builtin.zeroCells z.cells (nc - (rows.length+ys.length))).toList).toArray:=by
   apply Array.toList_inj.1;simp
  rw [e1] at hrun hk hheap hsW
  generalize w.drew.alloc (.cells ((olds++news)++(Builtin.zeroCells z.cells (nc - (rows.length+ys.length))).toList).toArray ety)=W at hrun hk hheap hsW
  refine ⟨_,_,hrun,?_,none,hk,by simp,fun g hg=>?_⟩
  ·have hlen:rows.length+ys.length=(rows++ys).length:=by simp
   rw [hlen]
   refine grown_own (w:=w) (cells:=olds++news) (rest:=(Builtin.zeroCells z.cells (nc - (rows.length+ys.length))).toList) (n:=0) hs0 hrl2 hk.size (fun b o hs=>cell_of_heap (hk.block b (hC.sin b hs).1 (by simp)) o) ?_ (by simp;omega) hcm (by omega) (g:=w.heap.size) (by omega) (fun hs=>by have:=(hC.sin _ hs).1;omega) ?_ ?_
   ·rw [List.flatten_append];exact RepVals.app hol hnews
   ·exact hheap
   ·simp only [List.length_append,Array.length_toList,size_zeroCells,hzs,hcl,hnl,<- Nat.add_mul]
    congr 1
    omega
  ·simp only [vblk] at hg
   split at hg
   ·cases hg
   ·injection hg with hg;exact .inr (by omega)
 have stay:∀ (b:Option Addr),rows=[]->ys=[]->v=.slice b 0 0->∃ v' w',(Builtin.append_ ts ty #[v,u]).run e.P w=.ok v' w'∧BufRel w' S ety sz (rows++ys) v'∧∃ τ:Option Nat,Kept e.D (fun b=>τ=some b) w.heap.size w w'∧(∀ g,τ=some g->vblk v=some g∧BufRel w S ety sz rows v)∧(∀ g,vblk v'=some g->τ=some g∨w.heap.size<=g):=by
  intro b hr hy hvb
  subst hr hy
  have hn0:news=[]:=List.eq_nil_of_length_eq_zero (by simpa using hnl)
  have hrun:=app_noneS (P:=e.P) (w:=w) ts t ty ety i h0 h1 ht2 hu hi b u (hln w) (by rw [hsz];have:=hf e.P w (fun _=>rfl);rw [hn0] at this;simpa using this)
  rw [hvb]
  refine ⟨_,_,hrun,⟨hs0,by simpa using rowsLen.nil,.inl ⟨by simp,b,rfl⟩⟩,none,Kept.refl _ _ _ _,by simp,fun g hg=>?_⟩
  cases b <;> simp [vblk] at hg
 rcases hv with hv | ⟨hv,hne⟩
 ·have hv0:=hv
  obtain ⟨_,_,h3⟩:=hv
  rcases h3 with ⟨hr,b,hvb⟩ | ⟨g,cap,cur,hvb,hc,hg,hs,hh,hlc,hm,hcs,hr⟩
  ·by_cases hy0:ys=[]
   ·exact stay b hr hy0 hvb
   ·have hyl0:0 < ys.length:=List.length_pos_iff.2 hy0
    subst hr
    refine grow b 0 [] hvb (by simpa using hyl0) (by simp [RepVals]) (fun P w' _=>?_)
    rw [hvb]
    cases b <;> simp [Builtin.firstCells,loadCells,loadCellsFrom]
  ·by_cases hroom:rows.length+ys.length<=cap
   ·have hfit:rows.length * i.size+news.length<=cur.size:=by rw [hnl,hsz,hcs,<- Nat.add_mul];exact Nat.mul_le_mul_right _ hroom
    have hrun:=app_roomS (P:=e.P) (w:=w) ts t ty ety i h0 h1 ht2 hu hi g rows.length cap cur hh u ys.length news (hln w) (by rw [hsz];exact hf _ _ (fun _=>rfl)) hone hroom hfit
    rw [<- hvb] at hrun
    rw [hsz] at hrun hfit
    have hput:=put_setRow w g (rows.length * sz) ety news cur hh hfit
    have hheap:=setRow_heap w g cur (cur.toList.take (rows.length * sz)++news++cur.toList.drop (rows.length * sz+news.length)).toArray ety _ hh
    have hdr:(w.setRow g (cur.toList.take (rows.length * sz)++news++cur.toList.drop (rows.length * sz+news.length)).toArray).drawn=w.drawn:=setRow_drawn _ _ _
    generalize hW:w.setRow g (cur.toList.take (rows.length * sz)++news++cur.toList.drop (rows.length * sz+news.length)).toArray=W at hrun hput hheap hdr
    have hszW:W.heap.size=w.heap.size:=hput.size
    have hkc:∀ b o,S b->W.cell? ⟨b,o,none⟩=w.cell? ⟨b,o,none⟩:=fun b o hsb=>cell_of_heap (hput.other b (fun e=>hs (e ▸ hsb))) o
    refine ⟨_,_,hrun,⟨hs0,hrl2,.inr ⟨g,cap,_,by simp,hc,by omega,hs,hheap,by simpa using hroom,hm,by simp;omega,?_⟩⟩,some g,⟨hput.os,hput.tape,hput.output,fun _=>Nat.le_of_eq hdr.symm,by omega,fun b hb hE=>hput.other b (fun eq=>hE (by rw [eq]))⟩,fun q hq=>?_,fun q hq=>?_⟩
    ·apply RepRows.of_flat
     rw [List.flatten_append]
     have r1:=RepRow.keepAt (S':=S) (by omega) hkc (fun _ h=>h) g 0 rows.flatten (fun j hj=>hput.old _ (.inl (by rw [flat_len hrl] at hj;omega))) hr.flat
     refine RepRow.append _ _ 0 r1 ?_
     rw [flat_len hrl,Nat.zero_add]
     exact RepRow.of_vals _ news _ (RepVals.keep2 (by omega) hkc (fun _ h=>h) hnews) hput.new
    ·injection hq with hq;subst hq
     exact ⟨by rw [hvb];simp only [vblk];rw [if_neg (by omega)],hv0⟩
    ·simp only [vblk] at hq
     rw [if_neg (by omega)] at hq
     exact .inl hq
   ·obtain ⟨b',cap',olds,q1,_,_,q2,q3⟩:=buf_first hv0
    rw [hvb] at q1
    injection q1 with e1 e2 e3
    exact grow _ _ olds hvb (by omega) q2 q3
 ·obtain ⟨hrep,b,n,hvb⟩:=hv
  obtain ⟨b',cap',olds,q1,q2,q3,q4,q5⟩:=rep_first hrl hrep
  rw [hvb] at q1
  injection q1 with e1 e2 e3
  by_cases hy0:ys=[]
  ·have hr:rows=[]:=by
    rcases hne with h | h
    ·exact h
    ·exact absurd hy0 h
   refine stay b hr hy0 ?_
   rw [hvb]
   have:n=0:=by rw [e2,hr];rfl
   rw [this]
  ·have hyl0:0 < ys.length:=List.length_pos_iff.2 hy0
   exact grow b n olds (by rw [hvb,e2]) (by omega) q4 q5
end
def byR (s:ByteArray):List (List C):=s.data.toList.map fun b=>[.lit (.int .u8 b.toNat)]
theorem byR_len (s:ByteArray):(byR s).length=s.size:=by rw [byR,List.length_map,Array.length_toList];rfl
theorem byR_rows (s:ByteArray):rowsLen 1 (byR s):=fun r hr=>by
 obtain ⟨b,_,rfl⟩:=List.mem_map.1 hr
 exact ⟨rfl,rfl⟩
theorem byR_app (s t:ByteArray):byR s++byR t=byR (s++t):=by
 rw [byR,byR,byR,<- List.map_append]
 congr 1
theorem byR_vals (s:ByteArray):(byR s).flatten=(Lib.strCells s).map C.lit:=by
 rw [byR,Lib.strCells,List.map_map]
 induction s.data.toList with
 | nil=>rfl
 | cons b l ih=>simp only [List.map_cons,List.flatten_cons,ih,List.cons_append,List.nil_append];rfl
theorem repVals_lits {w:World} {S:Nat->Prop}:∀ vs:List Value,RepVals w S (vs.map C.lit) vs
 | []=>by simp [RepVals]
 | v::vs=>by simp only [List.map_cons,RepVals,Rep];exact ⟨trivial,repVals_lits vs⟩
section
variable {e:Env} {K:St->Prop} {ds:List (Option Nat)} {os:List Oper} {s:List (Nat × A)} {m:List (Nat × Bk)}
theorem step_appS {σ:St} {o:Oper} {x y:Operand} {t t2 ety by' k d:Nat} {rows:List (List C)} {oa:Option (Option Addr × Nat)} {str:ByteArray} (ho:o.op=.call ⟨.builtin .append,#[x,y],#[t,t2]⟩) (hdd:o.dst=some d) (hb:bytesT e.P t=some (ety,1,by')) (ht2:e.P.underlying t2=some .string)
  (hx:evA σ.s x=.buf k) (hm:gm σ.m k=some (.buf oa ety 1 rows)) (hy:evA σ.s y=.d (.one (.lit (.string str)))) (hle:rows.length+(byR str).length<=maxApp) (hK:K ⟨(d,.buf d)::killK d (killK k σ.s),(d,.buf none ety 1 (rows++byR str))::remM d (remM k σ.m)⟩):StepOk e o σ K:=by
 intro he U w0 S0 nt a w Q hd ⟨S,L,h⟩
 have hx':a.eval x=L.v k:=by have:=h.eval x;rw [hx] at this;exact this
 have hy':a.eval y=.string str:=by have:=h.eval y;rw [hy] at this;simpa [ARel,DRel,Rep] using this
 have ho':BufRel w S ety 1 rows (L.v k):=(h.cls.own k _ hm).2
 obtain ⟨v',w',hrun,hbuf,τ,hk,hτ,hblk⟩:=append_ownS (ty:=o.type) (ts:=#[t,t2]) (v:=L.v k) (u:=.string str) he h.cls rfl rfl ht2 hb (.inl ho') ho'.2.1 (byR_rows str) hle
  ⟨Lib.strCells str,fun w'=>by simp [Builtin.lenOf,byR_len],by rw [byR_vals];exact repVals_lits _,fun P w' _=>by rw [byR_len];exact Lib.run_firstCells_string w' 1 str⟩
 unfold Oper.wp
 have hr2:(execOp a.eval o).run e.P w=.ok (.value v') w':=by
  simp [execOp,ho,resolve,invoke,builtin,hx',hy',hrun,Result.andThen]
 rw [hr2,Oper.upon_value,hdd]
 refine ⟨_,hK,h.born he (hd d hdd) (τ:=τ) (b':=0) (v':=v') (s1:=killK k σ.s) (m1:=remM k σ.m) (fun _ h=>h) (fun _ h=>.inl h) (fun t=>?_) (fun k' x hx=>?_) (fun g hg=>?_) (fun k' x g hkd hx hg hb'=>?_) hk ?_ (fun g hg=>?_) (by simp [ARel])⟩
 ·rcases gs_killK k t σ.s with ⟨h1,_⟩ | h1
  ·exact .inl h1
  ·exact .inr h1
 ·rw [gm_remM] at hx
  split at hx
  ·cases hx
  ·exact hx
 ·have hg':=(hτ g hg).1
  exact ⟨(Own1.lt (k:=k) (L:=L) (bk:=.buf none ety 1 rows) ⟨by simp,ho'⟩ hg').2,h.cls.notE hm hg',h.cls.mine k _ g hm hg'⟩
 ·have hg':=(hτ g hg).1
  rw [gm_remM] at hx
  split at hx
  ·cases hx
  ·rename_i hne'
   exact hne' (h.cls.inj k' k x _ g hx hm hb' hg')
 ·simp only [Own1,if_true];exact ⟨by simp,hbuf⟩
 ·simp only [blkOf,if_true] at hg
  exact hblk g hg
theorem fold_push:∀ (l:List UInt8) (acc:ByteArray),(l.map fun b=>(b.toNat:Int)).foldl (fun r n=>r.push (UInt8.ofNat n.toNat)) acc=⟨acc.data++l.toArray⟩
 | [],acc=>by simp
 | b::l,acc=>by
  rw [List.map_cons,List.foldl_cons,fold_push l]
  have hb:UInt8.ofNat ((b.toNat:Int)).toNat=b:=by simp
  rw [hb]
  simp [ByteArray.push]
theorem fold_str (s:ByteArray):(s.data.toList.map fun b=>(b.toNat:Int)).foldl (fun r n=>r.push (UInt8.ofNat n.toNat)) ByteArray.empty=s:=by
 rw [fold_push]
 show (⟨#[]++s.data.toList.toArray⟩:ByteArray)=s
 simp
theorem step_bytesT {σ:St} {o:Oper} {t d:TypeId} {x:Operand} {k ety:Nat} {oa:Option (Option Addr × Nat)} {str:ByteArray} (ho:o.op=.convert t d x) (hx:evA σ.s x=.buf k) (hm:gm σ.m k=some (.buf oa ety 1 (byR str))) (ht:bytesTy e.P t d=true) (hK:K ⟨setA σ.s o.dst (.d (.one (.lit (.string str)))),σ.m⟩):StepOk e o σ K:=by
 intro he U w0 S0 nt a w Q hd ⟨S,L,h⟩
 have hx':a.eval x=L.v k:=by have:=h.eval x;rw [hx] at this;exact this
 have ho':BufRel w S ety 1 (byR str) (L.v k):=(h.cls.own k _ hm).2
 have hrun:(convert t d (L.v k)).run e.P w=.ok (.string str) w:=by
  unfold bytesTy at ht
  split at ht
  ·rename_i e1 h1 h2
   split at ht
   ·rename_i h3
    have key:∀ (b:Option Addr) (cap:Nat),L.v k=.slice b str.size cap->(∀ ad,b=some ad->(loadCells ad str.size).run e.P w=.ok ((str.data.toList.map fun b=>(b.toNat:Int)).map (Value.int .u8)).toArray w)->(b=none->str.size=0)->(convert t d (L.v k)).run e.P w=.ok (.string str) w:=fun b cap hv hl hn=>by
     rw [hv,run_convert_bytes_string w t d e1 b _ cap h1 h3 h2]
     cases b with
     | none =>
      have h0:=hn rfl
      have:str=ByteArray.empty:=by
       cases str with
       | mk data=>simp only [ByteArray.size] at h0;rw [Array.eq_empty_of_size_eq_zero h0];rfl
      rw [this]
      simp [Conv.bytesToString]
     | some ad =>
      rw [run_bytesToString w ad _ cap _ (hl ad rfl),fold_str]
    rcases ho'.2.2 with ⟨hr,b,hv⟩ | ⟨g,cap,cur,hv,hc,hg,hs,hh,hlc,hmx,hcs,hr⟩
    ·have h0:str.size=0:=by rw [<- byR_len,hr];rfl
     have hd0:str.data.toList=[]:=List.eq_nil_of_length_eq_zero (by rw [Array.length_toList];exact h0)
     refine key b 0 (by rw [hv,h0]) (fun ad _=>?_) (fun _=>h0)
     rw [h0,hd0]
     simp [loadCells,loadCellsFrom]
    ·rw [byR_len] at hv
     refine key _ cap hv (fun ad had=>?_) (fun hb=>by cases hb)
     injection had with had
     subst had
     have hl:=run_loadCells_list (P:=e.P) w ⟨g,0,none⟩ ((str.data.toList.map fun b=>(b.toNat:Int)).map (Value.int .u8)) (fun j u hj=>by
      rw [List.getElem?_map,List.getElem?_map] at hj
      obtain ⟨b,hb,rfl⟩:∃ b,str.data.toList[j]?=some b∧u=.int .u8 b.toNat:=by
       cases hq:str.data.toList[j]? with
       | none=>rw [hq] at hj;cases hj
       | some b=>rw [hq] at hj;injection hj with hj;exact ⟨b,rfl,hj.symm⟩
      have h1:=RepRows.get (byR str) 0 j [.lit (.int .u8 b.toNat)] (k:=1) (fun z hz=>(byR_rows str z hz).1) hr (by rw [byR,List.getElem?_map,hb];rfl)
      rw [Addr.add_at]
      simpa [RepRow,Rep] using h1)
     rw [List.length_map,List.length_map,Array.length_toList] at hl
     exact hl
   ·cases ht
  ·cases ht
 unfold Oper.wp
 have hr2:(execOp a.eval o).run e.P w=.ok (.value (.string str)) w:=by
  simp [execOp,ho,hx',hrun,Result.andThen]
 rw [hr2,Oper.upon_value]
 exact ⟨_,hK,S,L,h.put (α:=.d (.one (.lit (.string str)))) (by simp [ARel,DRel,Rep]) hd⟩
theorem gSt {d t t2 ty ety by' k:Nat} {p:String} {ed:Array Edge} {x y:Operand} {rows:List (List C)} {oa:Option (Option Addr × Nat)} {str:ByteArray} {s2:List (Nat × A)} {m2:List (Nat × Bk)} (hle:rows.length+(byR str).length<=maxApp) (ht2:e.P.underlying t2=some .string) (hK:Runs e ds 0 os ⟨(d,.buf d)::s2,(d,.buf none ety 1 (rows++byR str))::m2⟩ K)
  (hb:bytesT e.P t=some (ety,1,by'):=by exact sfx) (hx:evA s x=.buf k:=by exact sfx) (hm:gm m k=some (.buf oa ety 1 rows):=by exact snx) (hy:evA s y=.d (.one (.lit (.string str))):=by exact sfx)
  (hs:killK d (killK k s)=s2:=by exact snv) (hr:remM d (remM k m)=m2:=by exact snv):Runs e ds 0 (⟨some d,.call ⟨.builtin .append,#[x,y],#[t,t2]⟩,ty,p,ed,none⟩::os) ⟨s,m⟩ K:=by
 subst hs hr
 simp only [Runs] at hK ⊢
 exact runsS_step rfl (step_appS rfl rfl hb ht2 hx hm hy hle hK)
theorem gTx {d t1 t2 ty ety k:Nat} {p:String} {ed:Array Edge} {x:Operand} {oa:Option (Option Addr × Nat)} (str:ByteArray) (ht:bytesTy e.P t1 t2=true) (hK:Runs e ds 0 os ⟨(d,.d (.one (.lit (.string str))))::s,m⟩ K) (hx:evA s x=.buf k:=by exact sfx) (hm:gm m k=some (.buf oa ety 1 (byR str)):=by exact snx):Runs e ds 0 (⟨some d,.convert t1 t2 x,ty,p,ed,none⟩::os) ⟨s,m⟩ K:=by
 simp only [Runs] at hK ⊢
 exact runsS_step rfl (step_bytesT (o:=⟨some d,.convert t1 t2 x,ty,p,ed,none⟩) rfl hx hm ht hK)
end
end Go.Proofs.YtffmjghcpgpfpaaGreatDoor
namespace Go.Proofs.YtffmjghcpgpfpaaGreatDoor
open Go.RowKit
def decS (i:Int):ByteArray:=⟨(decB i).toArray⟩
set_option maxHeartbeats 8000000 in
set_option maxRecDepth 100000 in
theorem con_small {i:Int} (h0:0<=i) (h1:i < 14):Con e0 261 [.one (.lit (.int .i64 i))] [.one (.lit (.string (decS i)))]:=by
 have h:i=0∨i=1∨i=2∨i=3∨i=4∨i=5∨i=6∨i=7∨i=8∨i=9∨i=10∨i=11∨i=12∨i=13:=by omega
 rcases h with rfl | rfl | rfl | rfl | rfl | rfl | rfl | rfl | rfl | rfl | rfl | rfl | rfl | rfl
 all_goals (
  have w1:IntKind.i64.wrap (0+1)=1:=by decide
  have w2:IntKind.i64.wrap (1+1)=2:=by decide
  have w3:IntKind.i64.wrap (2+1)=3:=by decide
  have w4:IntKind.i64.wrap (3+1)=4:=by decide
  have w5:IntKind.i64.wrap (4+1)=5:=by decide
  have w6:IntKind.i64.wrap (5+1)=6:=by decide
  have w7:IntKind.i64.wrap (6+1)=7:=by decide
  have w8:IntKind.i64.wrap (7+1)=8:=by decide
  have w9:IntKind.i64.wrap (8+1)=9:=by decide
  have wa:IntKind.i64.wrap (9+1)=10:=by decide
  have u0:IntKind.i64.wrap (10 * 2)=20:=by decide
  have u1:IntKind.i64.wrap (11 * 2)=22:=by decide
  have u2:IntKind.i64.wrap (12 * 2)=24:=by decide
  have u3:IntKind.i64.wrap (13 * 2)=26:=by decide
  have v0:IntKind.i64.wrap (20+2)=22:=by decide
  have v1:IntKind.i64.wrap (22+2)=24:=by decide
  have v2:IntKind.i64.wrap (24+2)=26:=by decide
  have v3:IntKind.i64.wrap (26+2)=28:=by decide
  refine gI (ts:=[.slot 2]) 21 Tryz.func261 ?_
  (have F:=ai @w1 (ai @w2 (ai @w3 (ai @w4 (ai @w5 (ai @w6 (ai @w7 (ai @w8 (ai @w9 (ai @wa (ai @u0 (ai @u1 (ai @u2 (ai @u3 (ai @v0 (ai @v1 (ai @v2 @v3))))))))))))))));refine gG ?_;exact gTd))
theorem rb_by (s:ByteArray):rowsB 1 (byR s)=true:=by
 unfold byR
 induction s.data.toList with
 | nil=>rfl
 | cons b l ih=>simp only [List.map_cons,rowsB_cons,ih,Bool.and_true];rfl
def RBy (s:ByteArray) (r:List D) (pm:List Bk):Prop:=∃ a cap,r=[.one (.lit (.slice a (byR s).length cap))]∧pm=[.buf (some (a,cap)) 5 1 (byR s)]
theorem bx_lss {P:Program} {t:TypeId} {a b:Int}:binT P .lss t (.int .u64 a) (.int .u64 b)=some (.bool (decide (a < b))):=rfl
theorem un_u64K:intKindT (Tryz.prog.underlying 224)=some .u64:=by kernel_rfl
theorem un_u64:Tryz.prog.underlying 224=some (.int .u64):=by kernel_rfl
theorem un_i64K:intKindT (Tryz.prog.underlying 2)=some .i64:=by kernel_rfl
theorem un_strA:e0.P.underlying 9=some .string:=by kernel_rfl
set_option maxHeartbeats 8000000 in
set_option maxRecDepth 100000 in
theorem conP_appU {i:Int} (h0:0<=i) (h1:i < 14) (s:ByteArray) (hl:s.size<=1000000) (a:Option Addr) (cap:Nat):ConP e0 247 [.one (.lit (.slice a (byR s).length cap)),.one (.lit (.int .u64 i)),.one (.lit (.int .i64 10))] [.buf (some (a,cap)) 5 1 (byR s)] (RBy (s++decS i)):=by
 have q1:(i < 100)=True:=eq_true (by omega)
 have w1:IntKind.i64.wrap i=i:=IntWalk.i64_in _ (by omega)
 have l1:(byR s).length+(byR (decS i)).length<=maxApp:=by
  rw [byR_len,byR_len]
  have:(decS i).size<=3:=by unfold decS decB decN;show (List.toArray _).size<=3;rw [List.size_toArray];split <;> split <;> simp
  unfold maxApp;omega
 refine gIP (ts:=[.slot 6]) [1000] 5575 Tryz.func247 ?_
 (have F:=ai @q1 (ai @bx_lss @tmz);have NN:StopAt 3:=trivial;refine gGn ?_;clear F NN)
 refine gB ?_
 (have F:=ai @w1 (ai @un_u64K (ai @un_u64 (ai @un_int (ai @cv_intU @tmz))));refine gC (con_small h0 h1) ?_;clear F)
 refine gK 13 ?_
 refine (have F:=tmz;gSt l1 un_strA ?_)
 rw [byR_app]
 refine gS 17 fun a2 cap2=>?_
 (have F:=@tmz;refine gR ?_;clear F)
 (have F:=@tmz;refine gG ?_;clear F)
 exact (have F:=tmz;gTP (R:=RBy (s++decS i)) [17] ⟨a2,cap2,rfl,rfl⟩)
set_option maxHeartbeats 8000000 in
set_option maxRecDepth 100000 in
theorem conP_appI {i:Int} (h0:-1<=i) (h1:i < 14) (s:ByteArray) (hl:s.size<=100000) (a:Option Addr) (cap:Nat):ConP e0 223 [.one (.lit (.slice a (byR s).length cap)),.one (.lit (.int .i64 i)),.one (.lit (.int .i64 10))] [.buf (some (a,cap)) 5 1 (byR s)] (RBy (s++decS i)):=by
 refine gIP (ts:=[.slot 6]) [1000] 2247 Tryz.func223 ?_
 by_cases hn:i < 0
 ·obtain rfl:i=-1:=by omega
  have q1:((-1:Int) < 0)=True:=eq_true (by omega)
  have w1:IntKind.u64.wrap (-1)=18446744073709551615:=by decide
  have w2:IntKind.u64.wrap (0 - 18446744073709551615)=1:=by decide
  have l1:(byR s).length+1<=maxApp:=by rw [byR_len];unfold maxApp;omega
  have l2:rowsB 1 (byR s)=true:=rb_by s
  have e1:byR s++[[.lit (.int .u8 45)]]=byR (s++⟨#[45]⟩):=by rw [<- byR_app];rfl
  have e2:s++⟨#[45]⟩++decS 1=s++decS (-1):=by rw [ByteArray.append_assoc];rfl
  have cU:=fun a cap=>conP_appU (i:=1) (by omega) (by omega) (s++⟨#[45]⟩) (by rw [ByteArray.size_append];show s.size+1<=_;omega) a cap
  rw [e2] at cU
  (have F:=ai @q1 (ai @w1 (ai @un_u64K (ai @un_i64K (ai @cv_uint @tmz))));have NN:StopAt 3:=trivial;refine gGn ?_;clear F NN)
  refine gB ?_
  (have F:=ai @l1 (ai @l2 (ai @e1 @tmz));refine gR ?_;clear F)
  (have F:=ai @w2 (ai @ux_neg @tmz);have NN:StopAt 5:=trivial;refine gGn ?_;clear F NN)
  refine pS 0 fun a2 cap2=>?_
  refine gB ?_
  (have F:=@tmz;refine gCP [0] [1001] (cU a2 cap2) ?_;clear F)
  rintro r pm ⟨a3,cap3,rfl,rfl⟩
  simp only [setA,retA,zipM,List.cons_append,List.nil_append]
  (have F:=@tmz;refine gR ?_;clear F)
  (have F:=@tmz;refine gG ?_;clear F)
  exact (have F:=tmz;gTP (R:=RBy (s++decS (-1))) [1001] ⟨a3,cap3,rfl,rfl⟩)
 ·have q1:(i < 0)=False:=eq_false hn
  have w1:IntKind.u64.wrap i=i:=by
   have h:=@Int.emod_eq_of_lt
   unfold IntKind.wrap
   simp only [IntKind.signed,IntKind.bits]
   exact Int.emod_eq_of_lt (by omega) (by omega)
  have cU:=conP_appU (by omega) h1 s (by omega) a cap
  (have F:=ai @q1 (ai @w1 (ai @un_u64K (ai @un_i64K (ai @cv_uint @tmz))));have NN:StopAt 5:=trivial;refine gGn ?_;clear F NN)
  refine gB ?_
  (have F:=@tmz;refine gCP [1000] [1001] (cU) ?_;clear F)
  rintro r pm ⟨a3,cap3,rfl,rfl⟩
  simp only [setA,retA,zipM,List.cons_append,List.nil_append]
  (have F:=@tmz;refine gR ?_;clear F)
  (have F:=@tmz;refine gG ?_;clear F)
  exact (have F:=tmz;gTP (R:=RBy (s++decS i)) [1001] ⟨a3,cap3,rfl,rfl⟩)
set_option maxHeartbeats 8000000 in
set_option maxRecDepth 100000 in
theorem conP_appInt {i:Int} (h0:-1<=i) (h1:i < 14) (s:ByteArray) (hl:s.size<=100000) (a:Option Addr) (cap:Nat):ConP e0 170 [.one (.lit (.slice a (byR s).length cap)),.one (.lit (.int .i64 i)),.one (.lit (.int .i64 10))] [.buf (some (a,cap)) 5 1 (byR s)] (RBy (s++decS i)):=by
 refine gIP (ts:=[.slot 6]) [1000] 71 Tryz.func170 ?_
 (have F:=@tmz;have NN:StopAt 1:=trivial;refine gGn ?_;clear F NN)
 refine gB ?_
 (have F:=@tmz;refine gCP [1000] [1001] (conP_appI h0 h1 s hl a cap) ?_;clear F)
 rintro r pm ⟨a3,cap3,rfl,rfl⟩
 simp only [setA,retA,zipM,List.cons_append,List.nil_append]
 (have F:=@tmz;refine gR ?_;clear F)
 (have F:=@tmz;refine gG ?_;clear F)
 exact (have F:=tmz;gTP (R:=RBy (s++decS i)) [1001] ⟨a3,cap3,rfl,rfl⟩)
end Go.Proofs.YtffmjghcpgpfpaaGreatDoor
namespace Go.Proofs.YtffmjghcpgpfpaaGreatDoor
open Go.RowKit
def bs (l:List UInt8):ByteArray:=⟨l.toArray⟩
theorem bs_app (l m:List UInt8):bs l++bs m=bs (l++m):=by
 apply ByteArray.ext
 rw [ByteArray.data_append]
 simp [bs]
theorem bs_size (l:List UInt8):(bs l).size=l.length:=by show (List.toArray l).size=_;simp
theorem bs_toList (s:ByteArray):bs s.toList=s:=by
 rw [ByteArray.toList_eq]
 unfold bs
 simp
theorem dec_len {i:Int} (h1:i < 100):(decB i).length<=3:=by
 unfold decB decN
 split <;> split <;> simp
mutual
theorem key_size {g:Sgn} (hg:SgnOk g):∀ (t:Tm),FormOk g t->(keyTm t).length<=22 * sizeTm t
 | .mk op nm so args,h=>by
  have h1:=keys_size hg args (by simp only [FormOk] at h;exact h.2.1)
  have hk:=KeyOk_of hg _ h
  simp only [KeyOk] at hk
  obtain ⟨k0,k1,k2,k3,_⟩:=hk
  have d1:=dec_len (i:=op) (by omega)
  simp only [keyTm,sizeTm,List.length_append,List.length_cons,List.length_nil]
  split
  ·have d2:=dec_len (i:=so) (by have:=(k2 (by omega)).2.2;omega)
   have hn:isName nm=true:=by
    rcases h.node with hv | ⟨o,d,hA⟩
    ·exact hv.2.1
    ·have:=hA.lo
     have:(Tm.mk op nm so args).op=op:=rfl
     omega
   have h4:¬ 12 < nm.size:=fun h=>by rw [isName_bad (.inr (.inl h))] at hn;cases hn
   have h5:nm.toList.length=nm.size:=by rw [ByteArray.toList_eq];exact Array.length_toList
   simp only [List.length_cons,List.length_append]
   omega
  ·simp only [List.length_nil]
   omega
theorem keys_size {g:Sgn} (hg:SgnOk g):∀ (ts:List Tm),FormOks g ts->(keyTms ts).length<=22 * sizeTms ts
 | [],_=>by simp [keyTms,sizeTms]
 | t::ts,h=>by
  simp only [FormOks] at h
  have h1:=key_size hg t h.1
  have h2:=keys_size hg ts h.2
  simp only [keyTms,sizeTms,List.length_append]
  omega
end
theorem keyTms_take {l:List Tm} {i:Nat} {t:Tm} (h:l[i]?=some t):keyTms (l.take (i+1))=keyTms (l.take i)++keyTm t:=by
 rw [show l.take (i+1)=l.take i++[t] by simp [List.take_add_one,h],keyTms_app]
 simp [keyTms]
theorem keyTms_le:∀ (l:List Tm) (i:Nat),(keyTms (l.take i)).length<=(keyTms l).length
 | [],i=>by simp [keyTms]
 | x::xs,0=>by simp [keyTms]
 | x::xs,i+1=>by have:=keyTms_le xs i;simp only [List.take_succ_cons,keyTms,List.length_append];omega
theorem KeyOks_all:∀ {ts:List Tm},KeyOks ts->∀ t∈ts,KeyOk t
 | _::_,h,t,ht=>by
  simp only [KeyOks] at h
  rcases List.mem_cons.1 ht with rfl | ht
  ·exact h.1
  ·exact KeyOks_all h.2 t ht
def keyP (op:Int) (nm:ByteArray) (so:Int):List UInt8:=decB op++(if op < 0 then 58::(nm.toList++58::decB so) else [])
theorem keyTm_u (op:Int) (nm:ByteArray) (so:Int) (args:List Tm):keyTm (.mk op nm so args)=keyP op nm so++[40]++keyTms args++[41]:=by
 simp [keyTm,keyP,List.append_assoc]
theorem kt_fT:kindT Tryz.prog 164=some .one:=by kernel_rfl
theorem zt_fT:sizeT Tryz.prog 164=some 1:=by kernel_rfl
theorem ot_fT:zeroT Tryz.prog 164=some [.lit .nilFunc]:=by kernel_rfl
theorem okc_nf:okCell (.lit .nilFunc)=true:=rfl
theorem okc_fn {f:FuncId} {cs:List C}:okCell (.fn f cs)=true:=rfl
def ptrB (b:Nat):Value:=.pointer (some ⟨b,0,none⟩)
def RKey (bo bv:Nat) (f:FuncId) (s:ByteArray) (r:List D) (pm:List Bk):Prop:=∃ a cap,r=[]∧pm=[.var (some bo) [.lit (.slice a (byR s).length cap)],.buf (some (a,cap)) 5 1 (byR s),.var (some bv) [.fn f [.lit (ptrB bo),.lit (ptrB bv)]]]
theorem gTPk {X:Prop} {P:Program} {ts:List RS} {R:List D->List Bk->Prop} {σ:St} {r:List D} {pm:List Bk} (ks:List Nat) (hR:R r pm) (hx:retQP P ts R .normal σ->X:=by first | exact fun h=>h | exact fun h=>⟨_,Wk.refl _,h⟩) (hr:resD P σ ts=some r:=by exact sfy) (hg:getM σ.m ks=some pm:=by exact sny) (hn:ks.Nodup:=by decide) (hp:pm.all pinned=true:=by simp only [pz,↓reduceIte,Nat.reduceEqDiff,Nat.reduceAdd,Nat.reduceSub,Nat.reduceMul,Nat.reduceLeDiff,Nat.reduceBEq,Bool.false_eq_true,decide_true,decide_false,Int.reduceLE,Int.reduceToNat,Int.reduceLT,Int.reduceEq,eq_self,Nat.reduceShiftRight,Nat.reduceAnd,Nat.reduceBneDiff]):X :=
 hx ⟨r,ks,pm,hg,hn,hp,hR,resOk_of hr⟩
set_option maxHeartbeats 8000000 in
set_option maxRecDepth 100000 in
theorem conP_key_of (t:Tm) (hk:KeyOk t) (hsz:sizeTm t<=60) (l:List UInt8) (a:Option Addr) (cap bo bv:Nat) (hne:bo≠bv) (hl:l.length+(keyTm t).length<=90000)
  (h:∀ x∈t.args,∀ (l:List UInt8) (a:Option Addr) (cap:Nat),l.length+(keyTm x).length<=90000->ConP e0 169 [.agg (encTm x),.one (.lit (ptrB bo)),.one (.lit (ptrB bv))] [.var (some bo) [.lit (.slice a (byR (bs l)).length cap)],.buf (some (a,cap)) 5 1 (byR (bs l)),.var (some bv) [.fn 169 [.lit (ptrB bo),.lit (ptrB bv)]]] (RKey bo bv 169 (bs (l++keyTm x)))) :
  ConP e0 169 [.agg (encTm t),.one (.lit (ptrB bo)),.one (.lit (ptrB bv))] [.var (some bo) [.lit (.slice a (byR (bs l)).length cap)],.buf (some (a,cap)) 5 1 (byR (bs l)),.var (some bv) [.fn 169 [.lit (ptrB bo),.lit (ptrB bv)]]] (RKey bo bv 169 (bs (l++keyTm t))):=by
 obtain ⟨op,nm,so,args⟩:=t
 have hc:encTm (.mk op nm so args)=[.lit (.int .i64 op),.lit (.string nm),.lit (.int .i64 so),.sl (encTms args)]:=by simp only [encTm]
 have hn1:(bo=bv)=False:=eq_false hne
 have hn2:(bv=bo)=False:=eq_false (fun e=>hne e.symm)
 simp only [Tm.args] at h
 have hsl:=sizeTms_len args
 simp only [sizeTm] at hsz
 simp only [ptrB] at h ⊢
 simp only [KeyOk] at hk
 obtain ⟨k0,k1,k2,k3,k4⟩:=hk
 rw [keyTm_u] at hl ⊢
 simp only [List.length_append,List.length_cons,List.length_nil] at hl
 have rb:=fun l=>rb_by (bs l)
 have e0':bs l++decS op=bs (l++decB op):=bs_app _ _
 have c1:=conP_appInt k0 k1 (bs l) (by rw [bs_size];omega) a cap
 rw [e0'] at c1
 have hP:keyP op nm so=decB op++(if op < 0 then 58::(nm.toList++58::decB so) else []):=rfl
 have ap:=fun (l:List UInt8) (b:UInt8) (b':Int) (hb:b'=b.toNat)=>show byR (bs l)++[[.lit (.int .u8 b')]]=byR (bs (l++[b])) by rw [<- bs_app,<- byR_app,hb];rfl
 have ml:=fun (l:List UInt8) (hl:l.length<=90000)=>show ((byR (bs l)).length+1<=maxApp)=True from eq_true (by rw [byR_len,bs_size];unfold maxApp;omega)
 refine gIP (ts:=[]) [1001,1000,1002] 32212258863 Tryz.func169 ?_
 (have F:=@tmz;have NN:StopAt 1:=trivial;refine gGn ?_;clear F NN)
 refine gB ?_
 (have F:=ai @hc (ai @hn1 (ai @hn2 @tmz));refine gCP [1000] [1000] (c1) ?_;clear F)
 rintro r pm ⟨a1,cap1,rfl,rfl⟩
 simp only [setA,retA,zipM,List.cons_append,List.nil_append]
 (have F:=ai @hc (ai @hn1 (ai @hn2 @tmz));refine gR ?_;clear F)
 (have F:=ai @hc @tmz;refine gG ?_;clear F)
 refine gM (ι:=Option Addr × Nat) [] [1000,1001] (fun x=>[]) (fun x=>[(1001,.var (some bo) [.lit (.slice x.1 (byR (bs (l++keyP op nm so))).length x.2)]),(1000,.buf (some (x.1,x.2)) 5 1 (byR (bs (l++keyP op nm so))))]) (fun x=>True) ?_ (fun x hx=>Exists.intro _ (ai (Wk.refl _) ?_))
 ·by_cases ho:op < 0
  ·have q1:(op < 0)=True:=eq_true ho
   rw [if_pos ho] at hP
   obtain ⟨_,s0,s8⟩:=k2 (by omega)
   have hnm:(bs (l++decB op++[58]))++nm=bs (l++decB op++[58]++nm.toList):=by rw [<- bs_toList nm,bs_app,bs_toList]
   have e2:bs (l++decB op++[58]++nm.toList++[58])++decS so=bs (l++keyP op nm so):=by
    rw [hP]
    refine (bs_app _ _).trans ?_
    simp [List.append_assoc]
   have hpl:=congrArg List.length hP
   simp only [List.length_append,List.length_cons] at hpl
   have c2:=fun a cap=>conP_appInt (i:=so) (by omega) (by omega) (bs (l++decB op++[58]++nm.toList++[58])) (by rw [bs_size];simp only [List.length_append,List.length_cons,List.length_nil];omega) a cap
   rw [e2] at c2
   have m1:=ml (l++decB op) (by simp only [List.length_append];omega)
   have m2:=ml (l++decB op++[58]++nm.toList) (by simp only [List.length_append,List.length_cons,List.length_nil];omega)
   have m3:(byR (bs (l++decB op++[58]))).length+(byR nm).length<=maxApp:=by
    rw [byR_len,byR_len,bs_size]
    have:nm.size=nm.toList.length:=by rw [ByteArray.toList_eq];exact Array.length_toList.symm
    simp only [List.length_append,List.length_cons,List.length_nil]
    unfold maxApp
    omega
   have b1:=rb (l++decB op)
   have b2:=rb (l++decB op++[58]++nm.toList)
   have p1:=ap (l++decB op) 58 58 rfl
   have p2:=ap (l++decB op++[58]++nm.toList) 58 58 rfl
   clear hP hpl ap ml rb
   rw [decide_eq_true ho]
   (have F:=ai @hc @tmz;have NN:StopAt 3:=trivial;refine gGn ?_;clear F NN)
   refine gB ?_
   (have F:=ai @m1 (ai @b1 (ai @p1 (ai @hn1 (ai @hn2 @tmz))));refine gP 3 ?_;clear F)
   refine gS 15 fun a2 cap2=>?_
   (have F:=ai @hn1 (ai @hn2 @tmz);refine gR ?_;clear F)
   (have F:=@tmz;have NN:StopAt 4:=trivial;refine gGn ?_;clear F NN)
   refine gB ?_
   (have F:=ai @hc (ai @hn1 (ai @hn2 @tmz));refine gP 3 ?_;clear F)
   refine gK 16 ?_
   refine (have F:=tmz;gSt m3 un_strA ?_)
   rw [byR_app,hnm]
   refine gS 19 fun a3 cap3=>?_
   (have F:=ai @hn1 (ai @hn2 @tmz);refine gR ?_;clear F)
   (have F:=@tmz;have NN:StopAt 5:=trivial;refine gGn ?_;clear F NN)
   refine gB ?_
   (have F:=ai @m2 (ai @b2 (ai @p2 (ai @hn1 (ai @hn2 @tmz))));refine gP 3 ?_;clear F)
   refine gS 22 fun a4 cap4=>?_
   (have F:=ai @hn1 (ai @hn2 @tmz);refine gR ?_;clear F)
   (have F:=@tmz;have NN:StopAt 6:=trivial;refine gGn ?_;clear F NN)
   refine gB ?_
   (have F:=ai @hc (ai @hn1 (ai @hn2 @tmz));refine gCP [22] [1000] (c2 a4 cap4) ?_;clear F)
   rintro r pm ⟨a5,cap5,rfl,rfl⟩
   simp only [setA,retA,zipM,List.cons_append,List.nil_append]
   (have F:=ai @hn1 (ai @hn2 @tmz);refine gR ?_;clear F)
   exact (have F:=tmz;⟨(a5,cap5),trivial,gw,gw⟩)
  ·have q1:(op < 0)=False:=eq_false ho
   rw [if_neg ho,List.append_nil] at hP
   rw [hP,decide_eq_false ho]
   (have F:=ai @hc @tmz;refine gG ?_;exact ⟨(a1,cap1),trivial,gw,gw⟩)
 obtain ⟨a2,cap2⟩:=x
 dsimp only
 have m1:=ml (l++keyP op nm so) (by simp only [List.length_append];omega)
 have b1:=rb (l++keyP op nm so)
 have p1:=ap (l++keyP op nm so) 40 40 rfl
 have e3:l++(keyP op nm so++[40]++keyTms args++[41])=l++keyP op nm so++[40]++keyTms args++[41]:=by simp [List.append_assoc]
 rw [e3]
 have hP2:(l++keyP op nm so++[40]).length=l.length+(keyP op nm so).length+1:=by simp only [List.length_append,List.length_cons,List.length_nil]
 have hal:=keyTms_le args
 (have F:=@tmz;have NN:StopAt 7:=trivial;refine gGn ?_;clear F NN)
 refine gB ?_
 (have F:=ai @m1 (ai @b1 (ai @p1 (ai @hn1 (ai @hn2 @tmz))));refine gP 3 ?_;clear F)
 refine gS 29 fun a3 cap3=>?_
 (have F:=ai @hn1 (ai @hn2 @tmz);refine gR ?_;clear F)
 clear m1 b1 p1 e3 hP c1 e0'
 generalize l++keyP op nm so++[40]=q at hP2 ⊢
 have hq0:q++keyTms []=q:=by simp [keyTms]
 (have F:=ai @hc @tmz;refine gG ?_;clear F)
 (have F:=@hq0;refine gL (ι:=Nat × Option Addr × Nat) [5,33,34] [29,1001,1002] (fun x=>[(33,.d (.one (.lit (.int .i64 (x.1:Int)))))]) (fun x=>[(1001,.var (some bo) [.lit (.slice x.2.1 (byR (bs (q++keyTms (args.take x.1)))).length x.2.2)]),(29,.buf (some (x.2.1,x.2.2)) 5 1 (byR (bs (q++keyTms (args.take x.1))))),(1002,.var (some bv) [.fn 169 [.lit (.pointer (some ⟨bo,0,none⟩)),.lit (.pointer (some ⟨bv,0,none⟩))]])]) (fun x=>x.1<=args.length) (fun x=>args.length - x.1) ((0,a3,cap3)) (Nat.zero_le _) (fun x hx=>?_);clear F)
 obtain ⟨i,a4,cap4⟩:=x
 simp only at hx
 dsimp only
 by_cases hlt:i < args.length
 ·obtain ⟨b,hg⟩:∃ b,args[i]?=some b:=⟨_,List.getElem?_eq_getElem hlt⟩
  have q2:((i:Int) < (args.length:Int))=True:=eq_true (by omega)
  have q4:IntKind.i64.wrap ((i:Int)+1)=(i:Int)+1:=IntWalk.i64_in _ (by omega)
  have hvt:=keyTms_take hg
  have hle:=hal (i+1)
  rw [hvt,List.length_append] at hle
  have hcon:=h b (List.mem_of_getElem? hg) (q++keyTms (args.take i)) a4 cap4 (by rw [List.length_append];omega)
  rw [List.append_assoc,<- hvt] at hcon
  (have F:=ai @q2 (ai @hc (ai @encTms_len (ai @encTms_get (ai @hg @tmz))));refine gG ?_;clear F)
  refine gB ?_
  (have F:=ai @kt_fT (ai @hn1 (ai @hn2 @tmz));refine gCP [1001,29,1002] [1001,29,1002] (hcon) ?_;clear F)
  rintro r pm ⟨a5,cap5,rfl,rfl⟩
  simp only [ptrB,setA,retA,zipM,List.cons_append,List.nil_append]
  (have F:=@tmz;refine gR ?_;clear F)
  (have F:=@q4;refine gG ?_;exact ⟨(i+1,a5,cap5),hlt,gw,gw,by omega⟩)
 ·obtain rfl:i=args.length:=by omega
  have q2:((args.length:Int) < (args.length:Int))=False:=eq_false (by omega)
  rw [List.take_length]
  have m1:=ml (q++keyTms args) (by rw [List.length_append];omega)
  have b1:=rb (q++keyTms args)
  have p1:=ap (q++keyTms args) 41 41 rfl
  (have F:=@q2;have NN:StopAt 13:=trivial;refine gGn ?_;clear F NN)
  refine gB ?_
  (have F:=ai @m1 (ai @b1 (ai @p1 (ai @hn1 (ai @hn2 @tmz))));refine gP 3 ?_;clear F)
  refine gS 43 fun a5 cap5=>?_
  (have F:=ai @hn1 (ai @hn2 @tmz);refine gR ?_;clear F)
  exact (have F:=tmz;gTPk (R:=RKey bo bv 169 (bs (q++keyTms args++[41]))) [1001,43,1002] ⟨a5,cap5,rfl,rfl⟩)
theorem conP_key_n (bo bv:Nat) (hne:bo≠bv) (n:Nat):∀ (t:Tm),sizeTm t < n->KeyOk t->sizeTm t<=60->∀ (l:List UInt8) (a:Option Addr) (cap:Nat),l.length+(keyTm t).length<=90000->ConP e0 169 [.agg (encTm t),.one (.lit (ptrB bo)),.one (.lit (ptrB bv))] [.var (some bo) [.lit (.slice a (byR (bs l)).length cap)],.buf (some (a,cap)) 5 1 (byR (bs l)),.var (some bv) [.fn 169 [.lit (ptrB bo),.lit (ptrB bv)]]] (RKey bo bv 169 (bs (l++keyTm t))):=by
 induction n with
 | zero=>exact fun _ h=>by omega
 | succ n ih =>
  intro t hn hk hsz l a cap hl
  refine conP_key_of t hk hsz l a cap bo bv hne hl fun x hx l a cap hl2=>ih x ?_ ?_ ?_ l a cap hl2
  ·have:=sizeTms_mem hx
   rw [sizeTm_eq] at hn
   omega
  ·obtain ⟨op,nm,so,args⟩:=t
   simp only [KeyOk] at hk
   exact KeyOks_all hk.2.2.2.2 x hx
  ·have:=sizeTms_mem hx
   rw [sizeTm_eq] at hsz
   omega
theorem bytesTyK:bytesTy e0.P 162 9=true:=by kernel_rfl
set_option maxHeartbeats 8000000 in
set_option maxRecDepth 100000 in
theorem con_keyOf {g:Sgn} (hg:SgnOk g) {t:Tm} (hf:FormOk g t) (hsz:sizeTm t<=60):Con e0 109 [.agg (encTm t)] [.one (.lit (.string (keyS t)))]:=by
 have hks:=key_size hg t hf
 have hby0:byR (bs [])=[]:=rfl
 refine gI (ts:=[.slot 2]) 31 Tryz.func109 ?_
 (have F:=@tmz;have NN:StopAt 1:=trivial;refine gGn ?_;clear F NN)
 refine gB ?_
 (have F:=@tmz;refine gP 1 ?_;clear F)
 refine gO 5 5 1 ?_
 refine gS 5 fun a cap=>?_
 (have F:=@tmz;refine gR ?_;clear F)
 (have F:=ai @ot_fT (ai @zt_fT @tmz);have NN:StopAt 3:=trivial;refine gGn ?_;clear F NN)
 refine pV 3 fun b3 hb3=>?_
 refine pV 4 fun b4 hb4=>?_
 have hne:b3≠b4:=fun e=>hb4 3 b3 _ (by decide) rfl e.symm
 clear hb3 hb4
 have hn1:(b3=b4)=False:=eq_false hne
 have hn2:(b4=b3)=False:=eq_false (fun e=>hne e.symm)
 (have F:=ai @kt_fT (ai @zt_fT (ai @okc_nf (ai @okc_fn (ai @hn1 (ai @hn2 @tmz)))));have NN:StopAt 4:=trivial;refine gGn ?_;clear F NN)
 refine gB ?_
 have hcon:=conP_key_n b3 b4 hne _ t (Nat.lt_succ_self _) (KeyOk_of hg t hf) hsz [] a cap (by simp only [List.length_nil];omega)
 simp only [ptrB,hby0,List.length_nil,List.nil_append] at hcon
 (have F:=ai @kt_fT (ai @hn1 (ai @hn2 @tmz));refine gCP [3,5,4] [3,5,4] (hcon) ?_;clear F)
 rintro r pm ⟨a2,cap2,rfl,rfl⟩
 simp only [ptrB,setA,retA,zipM,List.cons_append,List.nil_append]
 (have F:=@tmz;refine gR ?_;clear F)
 refine pwp_seqW ?_
 refine gB ?_
 (have F:=ai @hn1 (ai @hn2 @tmz);refine gP 1 ?_;clear F)
 refine gK 10 ?_
 refine (have F:=tmz;gTx (k:=5) (bs (keyTm t)) bytesTyK ?_)
 (have F:=@tmz;refine gR ?_;clear F)
 (have F:=@tmz;refine gG ?_;exact gTd)
end Go.Proofs.YtffmjghcpgpfpaaGreatDoor
namespace Go.Proofs.YtffmjghcpgpfpaaGreatDoor
open Go.RowKit Go.MapKept Go.ChangeMaps
theorem findS_snoc {l:List (ByteArray × Value)} {k s:ByteArray} {v:Value}:findS (l++[(k,v)]) s=(findS l s).or (if s.toList=k.toList then some v else none):=by
 unfold findS
 rw [List.find?_append]
 cases h:l.find? fun p=>s.toList==p.1.toList with
 | some p=>simp
 | none =>
  by_cases e:s.toList=k.toList
  ·simp [List.find?,e]
  ·have e2:(s.toList==k.toList)=false:=beq_eq_false_iff_ne.2 e
   simp only [List.find?,e2,Option.or,if_neg e,Option.map_none]
def Memo (g:Sgn) (l:List (ByteArray × Value)):Prop:=∀ u,FormOk g u->∀ v,findS l (keyS u)=some v->v=.int .i64 (sortsTm g u:Nat)
def Grew (g:Sgn) (n:Nat) (l l':List (ByteArray × Value)):Prop:=∀ u,FormOk g u->n < sizeTm u->findS l (keyS u)=none->findS l' (keyS u)=none
theorem Grew.refl {g:Sgn} {n:Nat} {l:List (ByteArray × Value)}:Grew g n l l:=fun _ _ _ h=>h
theorem Grew.trans {g:Sgn} {n:Nat} {l l' l'':List (ByteArray × Value)} (h:Grew g n l l') (h':Grew g n l' l''):Grew g n l l'':=fun u hu hs h0=>h' u hu hs (h u hu hs h0)
theorem Grew.mono {g:Sgn} {n m:Nat} {l l':List (ByteArray × Value)} (h:Grew g n l l') (hn:n<=m):Grew g m l l':=fun u hu hs h0=>h u hu (by omega) h0
theorem Memo.nil {g:Sgn}:Memo g []:=fun u _ v h=>by simp [findS] at h
theorem Memo.snoc {g:Sgn} (hg:SgnOk g) {l:List (ByteArray × Value)} (h:Memo g l) {t:Tm} (ht:FormOk g t):Memo g (l++[(keyS t,.int .i64 (sortsTm g t:Nat))]):=by
 intro u hu v hv
 rw [findS_snoc] at hv
 cases hl:findS l (keyS u) with
 | some x =>
  rw [hl] at hv
  simp only [Option.some_or,Option.some.injEq] at hv
  subst hv
  exact h u hu _ hl
 | none =>
  rw [hl,Option.none_or] at hv
  by_cases e:(keyS u).toList=(keyS t).toList
  ·rw [if_pos e] at hv
   obtain rfl:=keyS_inj hg hu ht e
   simpa using hv.symm
  ·rw [if_neg e] at hv;cases hv
theorem Grew.snoc {g:Sgn} (hg:SgnOk g) {l:List (ByteArray × Value)} {t:Tm} (ht:FormOk g t) {v:Value}:Grew g (sizeTm t) l (l++[(keyS t,v)]):=by
 intro u hu hs h0
 rw [findS_snoc,h0,Option.none_or,if_neg]
 intro e
 obtain rfl:=keyS_inj hg hu ht e
 omega
section
variable {e:Env} {K:St->Prop} {ds:List (Option Nat)} {os:List Oper} {s:List (Nat × A)} {m:List (Nat × Bk)}
theorem gLo {d t ty:Nat} {p:String} {ed:Array Edge} {x y:Operand} {b:Nat} {l:List (ByteArray × Value)} {k:ByteArray} {kt el:TypeId} {z v:Value} {f:Bool} (κ:Nat) (ht:e.P.underlying t=some (.map kt el)) (hk:e.P.underlying kt=some .string) (hz:∀ w,(zeroValue el).run e.P w=.ok z w) (hv:(findS l k).getD z=v) (hf:(findS l k).isSome=f)
  (hK:Runs e ds 0 os ⟨(d,.tup [.one (.lit v),.one (.lit (.bool f))])::s,m⟩ K) (hx:evA s x=.d (.one (.lit (.map (some b)))):=by exact sfx) (hy:evA s y=.d (.one (.lit (.string k))):=by exact sfx) (hm:gm m κ=some (mapB b l):=by exact snx):Runs e ds 0 (⟨some d,.lookup t x y true,ty,p,ed,none⟩::os) ⟨s,m⟩ K :=
 runs_step0 rfl (step_look rfl ht hk hz hx hy hm (α:=.tup [.one (.lit v),.one (.lit (.bool f))]) (fun w S L=>by
  rw [hv,hf]
  exact ⟨[v,.bool f],rfl,by simp [DsRel,DRel,Rep]⟩) hK)
theorem un_mapI:e0.P.underlying 146=some (.map 9 3):=by kernel_rfl
theorem zv_int:∀ w,(zeroValue 3).run e0.P w=.ok (.int .i64 0) w:=fun w=>by kernel_rfl
end
end Go.Proofs.YtffmjghcpgpfpaaGreatDoor
namespace Go.Proofs.YtffmjghcpgpfpaaGreatDoor
open Go.RowKit
theorem con_clipB {e:Env} {f:FuncId} {a b:D} {rows:List (List C)} {r:List D} (h:Con e f [a,b,.one (.sl rows)] r):Con e f [a,b,.clip rows] r :=
 ⟨h.1,fun w S vs hS hE hG hv=>h.2 w S vs hS hE hG (by
  match vs,hv with
  | [x,y,z],hv=>exact ⟨hv.1,hv.2.1,hv.2.2.1.1,trivial⟩)⟩
def FitN (d:Dcl) (sets:List Nat) (n:Nat):Prop:=∀ (i:Nat) k s,i < n->d.args[i]?=some k->sets[i]?=some s->s.testBit k.toNat=true
theorem FitN.zero {d:Dcl} {sets:List Nat}:FitN d sets 0:=fun i k s h=>absurd h (Nat.not_lt_zero i)
theorem FitN.succ {d:Dcl} {sets:List Nat} {n:Nat} {k:Int} {s:Nat} (hk:d.args[n]?=some k) (hs:sets[n]?=some s):FitN d sets (n+1) ↔ FitN d sets n∧s.testBit k.toNat=true:=by
 constructor
 ·exact fun h=>⟨fun i k s hi=>h i k s (by omega),h n k s (by omega) hk hs⟩
 ·rintro ⟨h1,h2⟩ i k' s' hi hk' hs'
  by_cases e:i=n
  ·subst e
   rw [hk] at hk'
   rw [hs] at hs'
   injection hk' with hk'
   injection hs' with hs'
   subst hk' hs'
   exact h2
  ·exact h1 i k' s' (by omega) hk' hs'
theorem FitN.full {d:Dcl} {sets:List Nat}:FitN d sets d.args.length ↔ ∀ (i:Nat) k s,d.args[i]?=some k->sets[i]?=some s->s.testBit k.toNat=true :=
 ⟨fun h i k s hk hs=>h i k s (List.getElem?_eq_some_iff.1 hk).1 hk hs,fun h i k s _ hk hs=>h i k s hk hs⟩
def GvB (g:Sgn) (P:Dcl->Prop) (ds:List Dcl) (b:Nat):Prop:=∃ d∈ds,P d∧(upk g d.res).testBit b=true
theorem gv_zero {g:Sgn} {P:Dcl->Prop} {N:Nat}:ofB (GvB g P []) N=0:=ofB_none fun b _ h=>by
 obtain ⟨d,hd,_⟩:=h
 cases hd
theorem gv_yes {g:Sgn} {P:Dcl->Prop} {N:Nat} {ds:List Dcl} {d:Dcl} (h:P d) (hu:upk g d.res < 2 ^ N):ofB (GvB g P (ds++[d])) N=ofB (GvB g P ds) N ||| upk g d.res:=by
 rw [<- ofB_self hu,ofB_or]
 refine ofB_congr fun b _=>?_
 constructor
 ·rintro ⟨x,hx,h1,h2⟩
  rcases List.mem_append.1 hx with hx | hx
  ·exact .inl ⟨x,hx,h1,h2⟩
  ·rw [List.mem_singleton.1 hx] at h2;exact .inr h2
 ·rintro (⟨x,hx,h1,h2⟩ | h2)
  ·exact ⟨x,List.mem_append_left _ hx,h1,h2⟩
  ·exact ⟨d,List.mem_append_right _ (List.mem_singleton.2 rfl),h,h2⟩
theorem gv_no {g:Sgn} {P:Dcl->Prop} {N:Nat} {ds:List Dcl} {d:Dcl} (h:¬ P d):ofB (GvB g P (ds++[d])) N=ofB (GvB g P ds) N:=by
 refine ofB_congr fun b _=>?_
 constructor
 ·rintro ⟨x,hx,h1,h2⟩
  rcases List.mem_append.1 hx with hx | hx
  ·exact ⟨x,hx,h1,h2⟩
  ·rw [List.mem_singleton.1 hx] at h1;exact absurd h1 h
 ·rintro ⟨x,hx,h1,h2⟩
  exact ⟨x,List.mem_append_left _ hx,h1,h2⟩
theorem gv_any {g:Sgn} {o:Opr} {sets:List Nat} {N:Nat}:ofB (GvB g (fun d=>FitN d sets d.args.length∨(o.comm=true∧FitN d sets.reverse d.args.length)) o.decls) N=ofB (AnyB g o sets) N:=by
 refine ofB_congr fun b _=>?_
 unfold AnyB GiveB
 constructor
 ·rintro ⟨d,hd,h1,h2⟩
  rcases h1 with h1 | ⟨h0,h1⟩
  ·exact .inl ⟨d,hd,FitN.full.1 h1,h2⟩
  ·exact .inr ⟨h0,d,hd,FitN.full.1 h1,h2⟩
 ·rintro (⟨d,hd,h1,h2⟩ | ⟨h0,d,hd,h1,h2⟩)
  ·exact ⟨d,hd,.inl (FitN.full.2 h1),h2⟩
  ·exact ⟨d,hd,.inr ⟨h0,FitN.full.2 h1⟩,h2⟩
theorem small62 {v N:Nat} (h:v < 2 ^ N) (hN:N<=8):v < 4611686018427387904:=by
 have:2 ^ N<=2 ^ 8:=Nat.pow_le_pow_right (by omega) hN
 omega
section
variable {g:Sgn} {mc:C}
open Classical in
set_option maxHeartbeats 32000000 in
set_option maxRecDepth 100000 in
theorem con_results (hg:SgnOk g) {op:Int} {o:Opr} (h0:0<=op) (ho:g.ops[op.toNat]?=some o) (sets:List Nat) (hlen:∀ d∈o.decls,d.args.length=sets.length) (hsl:sets.length<=3) (hs:∀ s∈sets,s < 2 ^ g.sorts.names.length):Con e0 175 [.one (.ptr (encX g mc)),.one (.lit (.int .i64 op)),.one (.sl (nR sets))] [.one (.lit (.int .i64 ((ofB (AnyB g o sets) g.sorts.names.length:Nat):Int)))]:=by
 have hN:=hg.sorts.n8
 have hD:=hg.decls o (List.mem_of_getElem? ho)
 have hdl:o.decls.length<=4:=hD.len4
 rw [<- gv_any]
 generalize hPd:(fun d=>FitN d sets d.args.length∨(o.comm=true∧FitN d sets.reverse d.args.length))=P
 have z0:ofB (GvB g P []) g.sorts.names.length=0:=gv_zero
 have z1:((ofB (GvB g P []) g.sorts.names.length:Nat):Int)=0:=by rw [z0];rfl
 have hUl:(nR (up g.sorts)).length=g.sorts.names.length:=by rw [nR_len,up_len hg.sorts]
 refine gI (ts:=[.slot 6]) 1180591620846512012743 Tryz.func175 ?_
 (have F:=ai @encX_u (ai @h0 (ai @ho (ai @encOpr_u @tmz)));refine gG ?_;clear F)
 (have F:=@tmz;refine gL (ι:=Nat × Nat) [8,10,11,12,13,14,26,27,33,34,35,36,70] [] (fun x=>[(26,A.d (.one (.lit (.int .i64 x.1)))),(8,A.d (.one (.lit (.int .i64 x.2))))]) (fun x=>[]) (fun x=>x.1<=o.decls.length∧x.2=ofB (GvB g P (o.decls.take x.1)) g.sorts.names.length) (fun x=>o.decls.length - x.1) ((0,0)) (⟨Nat.zero_le _,z0.symm⟩) (fun x hx=>?_);clear F)
 obtain ⟨i,out⟩:=x
 obtain ⟨hi,hout⟩:=hx
 simp only at hi hout
 subst hout
 dsimp only
 have hob:ofB (GvB g P (o.decls.take i)) g.sorts.names.length < 2 ^ g.sorts.names.length:=ofB_lt _ _
 have hob62:=small62 hob hN
 by_cases hlt:i < o.decls.length
 rotate_left
 ·obtain rfl:i=o.decls.length:=by omega
  have q1:((o.decls.length:Int) < (o.decls.length:Int))=False:=eq_false (by omega)
  rw [List.take_length]
  (have F:=ai @q1 @tmz;refine gG ?_;exact gTd)
 obtain ⟨d,hdi⟩:∃ d,o.decls[i]?=some d:=⟨_,List.getElem?_eq_getElem hlt⟩
 have hdm:=List.mem_of_getElem? hdi
 have hdl2:=hlen d hdm
 obtain ⟨f,hf,_⟩:=hg.first ho
 have hdo:=hD.all f hf d hdm
 have q1:((i:Int) < (o.decls.length:Int))=True:=eq_true (by omega)
 have hw1:=wrap1 (k:=i) (by omega)
 have hsnoc:o.decls.take (i+1)=o.decls.take i++[d]:=by simp [List.take_add_one,hdi]
 (have F:=ai @q1 (ai @hdi @tmz);have NN:StopAt 6:=trivial;refine gGn ?_;clear F NN)
 refine region_Dk 4 (by decide +kernel) ?_
 intro ds hds
 simp only [List.map] at hds
 subst hds
 (have F:=ai @encOpr_u @tmz;refine gP 2 ?_;clear F)
 refine (have F:=tmz;gAq ?_)
 refine (have F:=tmz;gAq ?_)
 (have F:=@tmz;refine gR ?_;clear F)
 (have F:=ai @encDcl_u @tmz;refine gG ?_;clear F)
 (have F:=@tmz;refine gL (ι:=Nat × Bool × Bool) [11,12,13,14,35,36] [] (fun y=>[(35,A.d (.one (.lit (.int .i64 y.1)))),(11,A.d (.one (.lit (.bool y.2.1)))),(12,A.d (.one (.lit (.bool y.2.2))))]) (fun y=>[]) (fun y=>y.1<=d.args.length∧y.2.1=decide (FitN d sets y.1)∧y.2.2=decide (o.comm=true∧FitN d sets.reverse y.1)) (fun y=>d.args.length - y.1) ((0,true,o.comm)) (⟨Nat.zero_le _,(decide_eq_true FitN.zero).symm,by cases o.comm <;> simp [FitN.zero]⟩) (fun y hy=>?_);clear F)
 obtain ⟨j,b1,b2⟩:=y
 obtain ⟨hj,hb1,hb2⟩:=hy
 simp only at hj hb1 hb2
 dsimp only
 by_cases hjl:j < d.args.length
 ·obtain ⟨k,hk⟩:∃ k,d.args[j]?=some k:=⟨_,List.getElem?_eq_getElem hjl⟩
  have hkr:=hdo.args k (List.mem_of_getElem? hk)
  obtain ⟨kn,rfl⟩:∃ kn:Nat,k=kn:=⟨k.toNat,by omega⟩
  obtain ⟨s,hsj⟩:∃ s,sets[j]?=some s:=⟨_,List.getElem?_eq_getElem (by omega)⟩
  obtain ⟨s',hsj'⟩:∃ s,sets[sets.length - 1 - j]?=some s:=⟨_,List.getElem?_eq_getElem (by omega)⟩
  have hrv:sets.reverse[j]?=some s':=by rw [List.getElem?_reverse (by omega)];exact hsj'
  have b62:=small62 (hs s (List.mem_of_getElem? hsj)) hN
  have b62':=small62 (hs s' (List.mem_of_getElem? hsj')) hN
  have q2:((j:Int) < (d.args.length:Int))=True:=eq_true (by omega)
  have hwj:=wrap1 (k:=j) (by omega)
  have r1:=nR_get hsj
  have r2:=nR_get hsj'
  have rl:=nR_len (l:=sets)
  have rr:=nR_rows (l:=sets)
  have h1:=shl_k (k:=kn) (by omega)
  have h2:=and_k (x:=s) (k:=kn) b62 (by omega)
  have h3:=and_k (x:=s') (k:=kn) b62' (by omega)
  have w1:IntKind.i64.wrap ((sets.length:Int) - 1)=((sets.length - 1:Nat):Int):=wrapN (by omega) (by omega) (by omega)
  have w2:IntKind.i64.wrap (((sets.length - 1:Nat):Int) - (j:Int))=((sets.length - 1 - j:Nat):Int):=wrapN (by omega) (by omega) (by omega)
  have i1:(j < sets.length)=True:=eq_true (by omega)
  have i2:(sets.length - 1 - j < sets.length)=True:=eq_true (by omega)
  have hf1:=FitN.succ (n:=j) hk hsj
  have hf2:=FitN.succ (sets:=sets.reverse) (n:=j) hk hrv
  rw [show (kn:Int).toNat=kn from rfl] at hf1 hf2
  (have F:=ai @q2 (ai @hk (ai @encInt_u @tmz));have NN:StopAt 10:=trivial;refine gGn ?_;clear F NN)
  refine gM (ι:=Bool) [11] [] (fun b=>[(11,A.d (.one (.lit (.bool b))))]) (fun b=>[]) (fun b=>b=decide (FitN d sets (j+1))) ?_ (fun b hb=>Exists.intro _ (ai (Wk.refl _) ?_))
  ·cases b1 with
   | false =>
    have e:false=decide (FitN d sets (j+1)):=(decide_eq_false fun h=>by
     have:=hf1.1 h
     rw [decide_eq_true this.1] at hb1
     cases hb1).symm
    (have F:=@tmz;refine gG ?_;exact ⟨false,e,gw,gw⟩)
   | true =>
    have hb1':=of_decide_eq_true hb1.symm
    cases ht:tbit s kn with
    | false =>
     rw [ht] at h2
     have e:false=decide (FitN d sets (j+1)):=(decide_eq_false fun h=>by
      have:=(hf1.1 h).2
      rw [show s.testBit kn=false from ht] at this
      cases this).symm
     (have F:=ai @r1 (ai @rl (ai @rr (ai @h1 (ai @h2 (ai @i1 (ai @natInt @tmz))))));refine gG ?_;exact ⟨false,e,gw,gw⟩)
    | true =>
     rw [ht] at h2
     have e:true=decide (FitN d sets (j+1)):=(decide_eq_true (hf1.2 ⟨hb1',ht⟩)).symm
     (have F:=ai @r1 (ai @rl (ai @rr (ai @h1 (ai @h2 (ai @i1 (ai @natInt @tmz))))));refine gG ?_;exact ⟨true,e,gw,gw⟩)
  clear hb1
  (have F:=@tmz;have NN:StopAt 11:=trivial;refine gGn ?_;clear F NN)
  refine gM (ι:=Bool) [12] [] (fun c=>[(12,A.d (.one (.lit (.bool c))))]) (fun c=>[]) (fun c=>c=decide (o.comm=true∧FitN d sets.reverse (j+1))) ?_ (fun c hc=>Exists.intro _ (ai (Wk.refl _) ?_))
  ·cases b2 with
   | false =>
    have e:false=decide (o.comm=true∧FitN d sets.reverse (j+1)):=(decide_eq_false fun h=>by
     have:=hf2.1 h.2
     rw [decide_eq_true ⟨h.1,this.1⟩] at hb2
     cases hb2).symm
    (have F:=@tmz;refine gG ?_;exact ⟨false,e,gw,gw⟩)
   | true =>
    have hb2':=of_decide_eq_true hb2.symm
    cases ht:tbit s' kn with
    | false =>
     rw [ht] at h3
     have e:false=decide (o.comm=true∧FitN d sets.reverse (j+1)):=(decide_eq_false fun h=>by
      have:=(hf2.1 h.2).2
      rw [show s'.testBit kn=false from ht] at this
      cases this).symm
     (have F:=ai @r2 (ai @rl (ai @rr (ai @w1 (ai @w2 (ai @h1 (ai @h3 (ai @i2 (ai @natInt @tmz))))))));refine gG ?_;exact ⟨false,e,gw,gw⟩)
    | true =>
     rw [ht] at h3
     have e:true=decide (o.comm=true∧FitN d sets.reverse (j+1)):=(decide_eq_true ⟨hb2'.1,hf2.2 ⟨hb2'.2,ht⟩⟩).symm
     (have F:=ai @r2 (ai @rl (ai @rr (ai @w1 (ai @w2 (ai @h1 (ai @h3 (ai @i2 (ai @natInt @tmz))))))));refine gG ?_;exact ⟨true,e,gw,gw⟩)
  (have F:=ai @hwj @tmz;refine gG ?_;exact ⟨(j+1,b,c),⟨hjl,hb,hc⟩,gw,gw,by omega⟩)
 ·obtain rfl:j=d.args.length:=by omega
  have q2:((d.args.length:Int) < (d.args.length:Int))=False:=eq_false (by omega)
  have hPi:P d ↔ FitN d sets d.args.length∨(o.comm=true∧FitN d sets.reverse d.args.length):=by rw [<- hPd]
  have hres:=upk_get hg.sorts hdo.res.1 hdo.res.2
  have ru:=casts_get hres.1
  have rr:=nR_rows (l:=up g.sorts)
  have ho2:=bits_or hob62 (small62 hres.2 hN)
  have hr0:=hdo.res.1
  have hr1:=hdo.res.2
  have hrl:(d.res.toNat < g.sorts.names.length)=True:=eq_true (by omega)
  by_cases hp:P d
  ·have hor:(b1 || b2)=true:=by
    rcases hPi.1 hp with h | h
    ·rw [hb1,decide_eq_true h];rfl
    ·rw [hb2,decide_eq_true h,Bool.or_true]
   have e:=gv_yes (N:=g.sorts.names.length) (ds:=o.decls.take i) hp hres.2
   rw [<- hsnoc] at e
   rw [<- e] at ho2
   cases b1 with
   | true => 
    (have F:=ai @q2 (ai @encX_u (ai @ru (ai @encInt_u (ai @hr0 (ai @ho2 (ai @hw1 @tmz))))));refine gG ?_;exact ⟨(i+1,ofB (GvB g P (o.decls.take (i+1))) g.sorts.names.length),⟨hlt,rfl⟩,gw,gw,by omega⟩)
   | false =>
    rw [Bool.false_or] at hor
    subst hor
    (have F:=ai @q2 (ai @encX_u (ai @ru (ai @encInt_u (ai @hr0 (ai @ho2 (ai @hw1 @tmz))))));refine gG ?_;exact ⟨(i+1,ofB (GvB g P (o.decls.take (i+1))) g.sorts.names.length),⟨hlt,rfl⟩,gw,gw,by omega⟩)
  ·have h1:b1=false:=by rw [hb1];exact decide_eq_false fun h=>hp (hPi.2 (.inl h))
   have h2:b2=false:=by rw [hb2];exact decide_eq_false fun h=>hp (hPi.2 (.inr h))
   subst h1 h2
   have e:=gv_no (g:=g) (N:=g.sorts.names.length) (ds:=o.decls.take i) hp
   rw [<- hsnoc] at e
   rw [<- e]
   (have F:=ai @q2 (ai @hw1 @tmz);refine gG ?_;exact ⟨(i+1,ofB (GvB g P (o.decls.take (i+1))) g.sorts.names.length),⟨hlt,rfl⟩,gw,gw,by omega⟩)
def ClB (g:Sgn) (v n b:Nat):Prop:=∃ k,k < n∧v.testBit k=true∧((up g.sorts).getD k 0).testBit b=true
theorem cl_step {v n N:Nat} (h:tbit v n=true) (hu:(up g.sorts).getD n 0 < 2 ^ N):ofB (ClB g v (n+1)) N=ofB (ClB g v n) N ||| (up g.sorts).getD n 0:=by
 rw [<- ofB_self hu,ofB_or]
 refine ofB_congr fun b _=>?_
 constructor
 ·rintro ⟨k,h1,h2,h3⟩
  by_cases e:k=n
  ·subst e;exact .inr h3
  ·exact .inl ⟨k,by omega,h2,h3⟩
 ·rintro (⟨k,h1,h2,h3⟩ | h3)
  ·exact ⟨k,by omega,h2,h3⟩
  ·exact ⟨n,by omega,h,h3⟩
theorem cl_skip {v n N:Nat} (h:tbit v n=false):ofB (ClB g v (n+1)) N=ofB (ClB g v n) N:=by
 refine ofB_congr fun b _=>?_
 constructor
 ·rintro ⟨k,h1,h2,h3⟩
  by_cases e:k=n
  ·subst e
   rw [show v.testBit k=false from h] at h2
   cases h2
  ·exact ⟨k,by omega,h2,h3⟩
 ·rintro ⟨k,h1,h2,h3⟩
  exact ⟨k,by omega,h2,h3⟩
theorem cl_zero {v N:Nat}:ofB (ClB g v 0) N=0:=ofB_none fun b _ h=>by
 obtain ⟨k,h1,_⟩:=h
 omega
set_option maxHeartbeats 8000000 in
set_option maxRecDepth 100000 in
theorem con_l3Close (hg:SgnOk g) {v:Nat} (hv:v < 2 ^ g.sorts.names.length):Con e0 260 [.one (.sl (nR (up g.sorts))),.one (.lit (.int .i64 (v:Int)))] [.one (.lit (.int .i64 ((ofB (ClB g v g.sorts.names.length) g.sorts.names.length:Nat):Int)))]:=by
 have hN:=hg.sorts.n8
 have hv62:=small62 hv hN
 have hUl:(nR (up g.sorts)).length=g.sorts.names.length:=by rw [nR_len,up_len hg.sorts]
 have z0:ofB (ClB g v 0) g.sorts.names.length=0:=cl_zero
 have rr:=nR_rows (l:=up g.sorts)
 refine gI (ts:=[.slot 4]) 33907 Tryz.func260 ?_
 (have F:=@tmz;refine gG ?_;clear F)
 (have F:=@tmz;refine gL (ι:=Nat × Nat) [5,6,10,15] [] (fun x=>[(6,A.d (.one (.lit (.int .i64 x.1)))),(5,A.d (.one (.lit (.int .i64 x.2))))]) (fun x=>[]) (fun x=>x.1<=g.sorts.names.length∧x.2=ofB (ClB g v x.1) g.sorts.names.length) (fun x=>g.sorts.names.length - x.1) ((0,0)) (⟨Nat.zero_le _,z0.symm⟩) (fun x hx=>?_);clear F)
 obtain ⟨i,out⟩:=x
 obtain ⟨hi,hout⟩:=hx
 simp only at hi hout
 subst hout
 dsimp only
 by_cases hlt:i < g.sorts.names.length
 rotate_left
 ·obtain rfl:i=g.sorts.names.length:=by omega
  have q1:((g.sorts.names.length:Int) < (g.sorts.names.length:Int))=False:=eq_false (by omega)
  (have F:=ai @q1 (ai @hUl @tmz);refine gG ?_;exact gTd)
 have q1:((i:Int) < (g.sorts.names.length:Int))=True:=eq_true (by omega)
 have hw1:=wrap1 (k:=i) (by omega)
 have hu:=(up_ok (SortsOk.subsIn hg.sorts.subs)).get hlt
 have ru:=nR_get hu.1
 have ho2:=bits_or (small62 (ofB_lt (ClB g v i) g.sorts.names.length) hN) (small62 hu.2 hN)
 (have F:=ai @q1 (ai @hUl @tmz);have NN:StopAt 5:=trivial;refine gGn ?_;clear F NN)
 refine gB ?_
 (have F:=@tmz;refine gC (con_l2Has (a:=v) (k:=i) hv62 (by omega)) ?_;clear F)
 cases ht:tbit v i with
 | false =>
  have e:=cl_skip (g:=g) (N:=g.sorts.names.length) ht
  rw [<- e]
  (have F:=@tmz;refine gR ?_;clear F)
  (have F:=ai @hw1 @tmz;refine gG ?_;exact ⟨(i+1,ofB (ClB g v (i+1)) g.sorts.names.length),⟨hlt,rfl⟩,gw,gw,by omega⟩)
 | true =>
  have e:=cl_step ht hu.2
  rw [<- e] at ho2
  (have F:=@tmz;refine gR ?_;clear F)
  (have F:=ai @ru (ai @rr (ai @hUl (ai @hlt (ai @ho2 (ai @hw1 (ai @natInt @tmz))))));refine gG ?_;exact ⟨(i+1,ofB (ClB g v (i+1)) g.sorts.names.length),⟨hlt,rfl⟩,gw,gw,by omega⟩)
def RsB (P:Dcl->Prop) (ds:List Dcl) (b:Nat):Prop:=∃ d∈ds,P d∧d.res.toNat=b
theorem rs_zero {P:Dcl->Prop} {N:Nat}:ofB (RsB P []) N=0:=ofB_none fun b _ h=>by
 obtain ⟨d,hd,_⟩:=h
 cases hd
theorem rs_yes {P:Dcl->Prop} {N:Nat} {ds:List Dcl} {d:Dcl} (h:P d) (hu:d.res.toNat < N):ofB (RsB P (ds++[d])) N=ofB (RsB P ds) N ||| 2 ^ d.res.toNat:=by
 have h2:2 ^ d.res.toNat < 2 ^ N:=Nat.pow_lt_pow_right (by omega) hu
 rw [<- ofB_self h2,ofB_or]
 refine ofB_congr fun b _=>?_
 rw [pow_bit]
 constructor
 ·rintro ⟨x,hx,h1,h2⟩
  rcases List.mem_append.1 hx with hx | hx
  ·exact .inl ⟨x,hx,h1,h2⟩
  ·rw [List.mem_singleton.1 hx] at h2;exact .inr h2
 ·rintro (⟨x,hx,h1,h2⟩ | h2)
  ·exact ⟨x,List.mem_append_left _ hx,h1,h2⟩
  ·exact ⟨d,List.mem_append_right _ (List.mem_singleton.2 rfl),h,h2⟩
theorem rs_no {P:Dcl->Prop} {N:Nat} {ds:List Dcl} {d:Dcl} (h:¬ P d):ofB (RsB P (ds++[d])) N=ofB (RsB P ds) N:=by
 refine ofB_congr fun b _=>?_
 constructor
 ·rintro ⟨x,hx,h1,h2⟩
  rcases List.mem_append.1 hx with hx | hx
  ·exact ⟨x,hx,h1,h2⟩
  ·rw [List.mem_singleton.1 hx] at h1;exact absurd h1 h
 ·rintro ⟨x,hx,h1,h2⟩
  exact ⟨x,List.mem_append_left _ hx,h1,h2⟩
theorem give_cl (hg:SgnOk g) {o:Opr} (hD:∀ d∈o.decls,0<=d.res∧d.res < g.sorts.names.length) (sets:List Nat):ofB (ClB g (ofB (RsB (fun d=>FitN d sets d.args.length) o.decls) g.sorts.names.length) g.sorts.names.length) g.sorts.names.length=ofB (GiveB g o sets) g.sorts.names.length:=by
 refine ofB_congr fun b _=>?_
 unfold ClB GiveB
 constructor
 ·rintro ⟨k,h1,h2,h3⟩
  obtain ⟨h4,d,hd,h5,h6⟩:=(ofB_bit _ _ _).1 h2
  refine ⟨d,hd,FitN.full.1 h5,?_⟩
  unfold upk
  rw [h6];exact h3
 ·rintro ⟨d,hd,h1,h2⟩
  have hr:=hD d hd
  exact ⟨d.res.toNat,by omega,(ofB_bit _ _ _).2 ⟨by omega,d,hd,FitN.full.2 h1,rfl⟩,h2⟩
open Classical in
set_option maxHeartbeats 32000000 in
set_option maxRecDepth 100000 in
theorem con_l7Give (hg:SgnOk g) {o:Opr} (hm:o∈g.ops) (sets:List Nat) (hlen:∀ d∈o.decls,d.args.length=sets.length) (hsl:sets.length<=3) (hs:∀ s∈sets,s < 2 ^ g.sorts.names.length):Con e0 242 [.one (.sl (nR (up g.sorts))),.one (.sl (o.decls.map encDcl)),.one (.sl (nR sets))] [.one (.lit (.int .i64 ((ofB (GiveB g o sets) g.sorts.names.length:Nat):Int)))]:=by
 have hN:=hg.sorts.n8
 have hD:=hg.decls o hm
 have hdl:o.decls.length<=4:=hD.len4
 obtain ⟨f,hf⟩:∃ f,o.decls[0]?=some f:=⟨_,List.getElem?_eq_getElem (by have:=hD.len1;omega)⟩
 have hres:=fun d hd=>(hD.all f hf d hd).res
 rw [<- give_cl hg hres sets]
 generalize hPd:(fun d=>FitN d sets d.args.length)=P
 have z0:ofB (RsB P []) g.sorts.names.length=0:=rs_zero
 have cC:=con_l3Close hg (ofB_lt (RsB P o.decls) g.sorts.names.length)
 refine gI (ts:=[.slot 6]) 549756880839 Tryz.func242 ?_
 (have F:=@tmz;refine gG ?_;clear F)
 (have F:=@tmz;refine gL (ι:=Nat × Nat) [7,8,9,10,14,20,39] [] (fun x=>[(8,A.d (.one (.lit (.int .i64 x.1)))),(7,A.d (.one (.lit (.int .i64 x.2))))]) (fun x=>[]) (fun x=>x.1<=o.decls.length∧x.2=ofB (RsB P (o.decls.take x.1)) g.sorts.names.length) (fun x=>o.decls.length - x.1) ((0,0)) (⟨Nat.zero_le _,z0.symm⟩) (fun x hx=>?_);clear F)
 obtain ⟨i,out⟩:=x
 obtain ⟨hi,hout⟩:=hx
 simp only at hi hout
 subst hout
 dsimp only
 by_cases hlt:i < o.decls.length
 rotate_left
 ·obtain rfl:i=o.decls.length:=by omega
  have q1:((o.decls.length:Int) < (o.decls.length:Int))=False:=eq_false (by omega)
  rw [List.take_length]
  (have F:=ai @q1 @tmz;have NN:StopAt 12:=trivial;refine gGn ?_;clear F NN)
  refine gB ?_
  (have F:=@tmz;refine gC (cC) ?_;clear F)
  (have F:=@tmz;refine gR ?_;clear F)
  (have F:=@tmz;refine gG ?_;exact gTd)
 obtain ⟨d,hdi⟩:∃ d,o.decls[i]?=some d:=⟨_,List.getElem?_eq_getElem hlt⟩
 have hdm:=List.mem_of_getElem? hdi
 have hdl2:=hlen d hdm
 have hdo:=hD.all f hf d hdm
 have q1:((i:Int) < (o.decls.length:Int))=True:=eq_true (by omega)
 have hw1:=wrap1 (k:=i) (by omega)
 have hsnoc:o.decls.take (i+1)=o.decls.take i++[d]:=by simp [List.take_add_one,hdi]
 have rl:=nR_len (l:=sets)
 have rr:=nR_rows (l:=sets)
 (have F:=ai @q1 @tmz;refine gG ?_;clear F)
 (have F:=@tmz;refine gL (ι:=Nat × Bool) [9,10,20] [] (fun y=>[(10,A.d (.one (.lit (.int .i64 y.1)))),(9,A.d (.one (.lit (.bool y.2))))]) (fun y=>[]) (fun y=>y.1<=sets.length∧y.2=decide (FitN d sets y.1)) (fun y=>sets.length - y.1) ((0,true)) (⟨Nat.zero_le _,(decide_eq_true FitN.zero).symm⟩) (fun y hy=>?_);clear F)
 obtain ⟨j,b1⟩:=y
 obtain ⟨hj,hb1⟩:=hy
 simp only at hj hb1
 dsimp only
 by_cases hjl:j < sets.length
 ·obtain ⟨k,hk⟩:∃ k,d.args[j]?=some k:=⟨_,List.getElem?_eq_getElem (by omega)⟩
  have hkr:=hdo.args k (List.mem_of_getElem? hk)
  obtain ⟨kn,rfl⟩:∃ kn:Nat,k=kn:=⟨k.toNat,by omega⟩
  obtain ⟨s,hsj⟩:∃ s,sets[j]?=some s:=⟨_,List.getElem?_eq_getElem (by omega)⟩
  have b62:=small62 (hs s (List.mem_of_getElem? hsj)) hN
  have q2:((j:Int) < (sets.length:Int))=True:=eq_true (by omega)
  have hwj:=wrap1 (k:=j) (by omega)
  have r1:=nR_get hsj
  have i1:(j < sets.length)=True:=eq_true (by omega)
  have i3:(j < d.args.length)=True:=eq_true (by omega)
  have hf1:=FitN.succ (n:=j) hk hsj
  rw [show (kn:Int).toNat=kn from rfl] at hf1
  (have F:=ai @q2 (ai @rl @tmz);have NN:StopAt 9:=trivial;refine gGn ?_;clear F NN)
  refine gM (ι:=Bool) [9] [] (fun b=>[(9,A.d (.one (.lit (.bool b))))]) (fun b=>[]) (fun b=>b=decide (FitN d sets (j+1))) ?_ (fun b hb=>Exists.intro _ (ai (Wk.refl _) ?_))
  ·cases b1 with
   | false =>
    have e:false=decide (FitN d sets (j+1)):=(decide_eq_false fun h=>by
     have:=hf1.1 h
     rw [decide_eq_true this.1] at hb1
     cases hb1).symm
    (have F:=@tmz;refine gG ?_;exact ⟨false,e,gw,gw⟩)
   | true =>
    have hb1':=of_decide_eq_true hb1.symm
    have e:tbit s kn=decide (FitN d sets (j+1)):=by
     cases ht:tbit s kn with
     | false=>exact (decide_eq_false fun h=>by
       have:=(hf1.1 h).2
       rw [show s.testBit kn=false from ht] at this
       cases this).symm
     | true=>exact (decide_eq_true (hf1.2 ⟨hb1',ht⟩)).symm
    refine gB ?_
    (have F:=ai @r1 (ai @rl (ai @rr (ai @i1 (ai @i3 (ai @hdi (ai @hk (ai @encDcl_u (ai @encInt_u (ai @natInt @tmz)))))))));refine gC (con_l2Has (a:=s) (k:=kn) b62 (by omega)) ?_;clear F)
    (have F:=@tmz;refine gR ?_;clear F)
    (have F:=@tmz;refine gG ?_;exact ⟨tbit s kn,e,gw,gw⟩)
  (have F:=ai @hwj @tmz;refine gG ?_;exact ⟨(j+1,b),⟨hjl,hb⟩,gw,gw,by omega⟩)
 ·obtain rfl:j=sets.length:=by omega
  have q2:((sets.length:Int) < (sets.length:Int))=False:=eq_false (by omega)
  have hPi:P d ↔ FitN d sets sets.length:=by rw [<- hPd,<- hdl2]
  have hr0:=hdo.res.1
  have hr1:=hdo.res.2
  obtain ⟨rn,hrn⟩:∃ rn:Nat,d.res=rn:=⟨d.res.toNat,by omega⟩
  have cB:=con_l2Bit (k:=rn) (by omega)
  rw [<- hrn] at cB
  have ho2:=bits_or (small62 (ofB_lt (RsB P (o.decls.take i)) g.sorts.names.length) hN) (small62 (v:=2 ^ rn) (N:=g.sorts.names.length) (Nat.pow_lt_pow_right (by omega) (by omega)) hN)
  cases b1 with
  | true =>
   have hp:P d:=hPi.2 (of_decide_eq_true hb1.symm)
   have e:=rs_yes (N:=g.sorts.names.length) (ds:=o.decls.take i) hp (by omega)
   rw [<- hsnoc,show d.res.toNat=rn by omega] at e
   rw [<- e] at ho2
   (have F:=ai @q2 (ai @rl @tmz);have NN:StopAt 11:=trivial;refine gGn ?_;clear F NN)
   refine gB ?_
   (have F:=ai @hdi (ai @encDcl_u @tmz);refine gC (cB) ?_;clear F)
   (have F:=ai @ho2 @tmz;refine gR ?_;clear F)
   (have F:=ai @hw1 @tmz;refine gG ?_;exact ⟨(i+1,ofB (RsB P (o.decls.take (i+1))) g.sorts.names.length),⟨hlt,rfl⟩,gw,gw,by omega⟩)
  | false =>
   have hp:¬ P d:=fun h=>by rw [decide_eq_true (hPi.1 h)] at hb1;cases hb1
   have e:=rs_no (N:=g.sorts.names.length) (ds:=o.decls.take i) hp
   rw [<- hsnoc] at e
   rw [<- e]
   (have F:=ai @q2 (ai @rl (ai @hw1 @tmz));refine gG ?_;exact ⟨(i+1,ofB (RsB P (o.decls.take (i+1))) g.sorts.names.length),⟨hlt,rfl⟩,gw,gw,by omega⟩)
set_option maxHeartbeats 8000000 in
set_option maxRecDepth 100000 in
theorem con_l7Apply (hg:SgnOk g) {op:Int} {o:Opr} (h0:0<=op) (ho:g.ops[op.toNat]?=some o) (sets:List Nat) (hlen:∀ d∈o.decls,d.args.length=sets.length) (hsl:sets.length<=3) (hs:∀ s∈sets,s < 2 ^ g.sorts.names.length):Con e0 209 [.agg (encSgn g),.one (.lit (.int .i64 op)),.one (.sl (nR sets))] [.one (.lit (.int .i64 ((ofB (GiveB g o sets) g.sorts.names.length:Nat):Int)))]:=by
 have cU:=con_l3Up hg.sorts.n8 hg.sorts.m16 (SortsOk.subsIn hg.sorts.subs)
 have cG:=con_l7Give hg (List.mem_of_getElem? ho) sets hlen hsl hs
 rw [encSrt] at cU
 rw [encSgn]
 refine gI (ts:=[.slot 6]) 79 Tryz.func209 ?_
 (have F:=@tmz;have NN:StopAt 1:=trivial;refine gGn ?_;clear F NN)
 refine gB ?_
 (have F:=@tmz;refine gC (cU) ?_;clear F)
 (have F:=ai @h0 (ai @ho (ai @encOpr_u @tmz));refine gC (cG) ?_;clear F)
 (have F:=@tmz;refine gR ?_;clear F)
 (have F:=@tmz;refine gG ?_;exact gTd)
end
end Go.Proofs.YtffmjghcpgpfpaaGreatDoor
namespace Go.Proofs.YtffmjghcpgpfpaaGreatDoor
open Go.RowKit
theorem bits_xor {a b:Nat} (ha:a < 4611686018427387904) (hb:b < 4611686018427387904):bits .xor .i64 (a:Int) (b:Int)=((a ^^^ b:Nat):Int):=by
 have h:a ^^^ b < 2 ^ 62:=Nat.xor_lt_two_pow (by omega) (by omega)
 have e:(BitVec.ofInt IntKind.i64.bits (a:Int) ^^^ BitVec.ofInt IntKind.i64.bits (b:Int)).toNat=a ^^^ b:=by
  rw [BitVec.toNat_xor]
  show (BitVec.ofInt 64 (a:Int)).toNat ^^^ (BitVec.ofInt 64 (b:Int)).toNat=_
  rw [bv_nat (by omega),bv_nat (by omega)]
 unfold bits
 show IntKind.i64.wrap _=_
 rw [e]
 exact wrap_i64 (by omega) (by omega)
def Eith (R:Nat->Nat->Nat->Prop) (a c b:Nat):Prop:=R a c b∨R c a b
theorem bag_eith {R:Nat->Nat->Nat->Prop} {sets:List Nat} {m b:Nat}:BagB (Eith R) sets m b ↔ BagB R sets m b:=by
 constructor
 ·intro h
  induction h with
  | leaf h1 h2=>exact .leaf h1 h2
  | node h1 h2 h3 _ _ h6 i1 i2 =>
   rcases h6 with h6 | h6
   ·exact .node h1 h2 h3 i1 i2 h6
   ·rw [Nat.or_comm]
    exact .node h2 h1 (by rw [Nat.and_comm];exact h3) i2 i1 h6
 ·intro h
  induction h with
  | leaf h1 h2=>exact .leaf h1 h2
  | node h1 h2 h3 _ _ h6 i1 i2=>exact .node h1 h2 h3 i1 i2 (.inl h6)
theorem two_eith {R:Nat->Nat->Nat->Prop} {s t b:Nat}:Two (Eith R) s t b ↔ Two R s t b∨Two R t s b:=by
 unfold Two Eith
 constructor
 ·rintro ⟨a,c,h1,h2,h3 | h3⟩
  ·exact .inl ⟨a,c,h1,h2,h3⟩
  ·exact .inr ⟨c,a,h2,h1,h3⟩
 ·rintro (⟨a,c,h1,h2,h3⟩ | ⟨a,c,h1,h2,h3⟩)
  ·exact ⟨a,c,h1,h2,.inl h3⟩
  ·exact ⟨c,a,h2,h1,.inr h3⟩
noncomputable def bvN (g:Sgn) (R:Nat->Nat->Nat->Prop) (sets:List Nat) (m:Nat):Nat:=ofB (BagB R sets m) g.sorts.names.length
theorem bvN_eith {g:Sgn} {R:Nat->Nat->Nat->Prop} {sets:List Nat} {m:Nat}:bvN g (Eith R) sets m=bvN g R sets m:=ofB_congr fun b _=>bag_eith
def BagT (g:Sgn) (R:Nat->Nat->Nat->Prop) (sets:List Nat) (M:Nat) (T:List Nat):Prop:=T.length=2 ^ sets.length∧∀ m,1<=m->m < 2 ^ sets.length->(m < M->T[m]?=some (bvN g R sets m))∧(M<=m->T[m]?=some 0)
section
variable {g:Sgn} {R:Nat->Nat->Nat->Prop} {sets:List Nat}
theorem BagT.start:BagT g R sets 1 (List.replicate (2 ^ sets.length) 0):=⟨by simp,fun m h1 h2=>⟨fun h=>by omega,fun _=>by rw [List.getElem?_replicate,if_pos h2]⟩⟩
theorem BagT.next {M:Nat} {T:List Nat} (h:BagT g R sets M T) (hM:M < 2 ^ sets.length):BagT g R sets (M+1) (T.set M (bvN g R sets M)):=by
 refine ⟨by rw [List.length_set,h.1],fun m h1 h2=>?_⟩
 by_cases e:m=M
 ·subst e
  exact ⟨fun _=>List.getElem?_set_self (by rw [h.1];exact h2),fun q=>by omega⟩
 ·rw [List.getElem?_set_ne (Ne.symm e)]
  exact ⟨fun q=>(h.2 m h1 h2).1 (by omega),fun q=>(h.2 m h1 h2).2 (by omega)⟩
theorem BagT.zero {M:Nat} {T:List Nat} (h:BagT g R sets M T) (h1:1<=M) (hM:M < 2 ^ sets.length):T.set M 0=T:=by
 have h2:=(h.2 M h1 hM).2 (Nat.le_refl _)
 refine List.ext_getElem? fun q=>?_
 by_cases e:q=M
 ·subst e
  rw [List.getElem?_set_self (by rw [h.1];exact hM),h2]
 ·rw [List.getElem?_set_ne (Ne.symm e)]
theorem pow_and:∀ (q:Nat),(2 ^ q - 1) &&& 2 ^ q=0:=fun q=>by
 refine Nat.eq_of_testBit_eq fun i=>?_
 rw [Nat.testBit_and,Nat.testBit_two_pow_sub_one,Nat.testBit_two_pow,Nat.zero_testBit]
 by_cases h:i < q
 ·simp [h];omega
 ·simp [h]
theorem not_pow {m:Nat} (hm:m≠0) (h:(m - 1) &&& m=0):∃ q,m=2 ^ q:=by
 refine ⟨Nat.log2 m,?_⟩
 have h1:=Nat.log2_self_le hm
 have h2:m < 2 ^ (Nat.log2 m+1):=(Nat.log2_lt hm).1 (Nat.lt_succ_self _)
 refine Classical.byContradiction fun hne=>?_
 have h3:(m - 1).testBit (Nat.log2 m)=true:=by
  have:=Nat.testBit_lt_two_pow (x:=m - 1) (i:=Nat.log2 m)
  cases ht:(m - 1).testBit (Nat.log2 m) with
  | true=>rfl
  | false =>
   have h4:m - 1 < 2 ^ Nat.log2 m:=Nat.lt_pow_two_of_testBit _ fun i hi=>by
    rcases Nat.lt_or_eq_of_le hi with hi | hi
    ·exact Nat.testBit_lt_two_pow (Nat.lt_of_lt_of_le (by omega:m - 1 < 2 ^ (Nat.log2 m+1)) (Nat.pow_le_pow_right (by omega) hi))
    ·rw [<- hi];exact ht
   omega
 have h5:m.testBit (Nat.log2 m)=true:=by
  cases ht:m.testBit (Nat.log2 m) with
  | true=>rfl
  | false =>
   have h4:m < 2 ^ Nat.log2 m:=Nat.lt_pow_two_of_testBit _ fun i hi=>by
    rcases Nat.lt_or_eq_of_le hi with hi | hi
    ·exact Nat.testBit_lt_two_pow (Nat.lt_of_lt_of_le h2 (Nat.pow_le_pow_right (by omega) hi))
    ·rw [<- hi];exact ht
   omega
 have h6:=Nat.testBit_and (m - 1) m (Nat.log2 m)
 rw [h,h3,h5] at h6
 simp at h6
end
end Go.Proofs.YtffmjghcpgpfpaaGreatDoor
namespace Go.Proofs.YtffmjghcpgpfpaaGreatDoor
open Go.RowKit
section
variable {w:World} {S:Nat->Prop} {a:Option Addr} {n cap:Nat} {rows:List (List C)}
def datRw (a:Option Addr) (n cap:Nat) (rows:List (List C)) (R:List (List C)):List (List C):=R.map fun r=>r.map (datC a n cap rows)
theorem datRw_len {R:List (List C)}:(datRw a n cap rows R).length=R.length:=by simp [datRw]
theorem okCell_dat {c:C} (h:okCell c=true):okCell (datC a n cap rows c)=true:=by
 unfold datC
 split
 ·split
  ·rfl
  ·exact h
 ·exact h
theorem datRw_ok {sz:Nat} {R:List (List C)} (h:rowsLen sz R):rowsLen sz (datRw a n cap rows R):=fun r hr=>by
 obtain ⟨r',hr',rfl⟩:=List.mem_map.1 hr
 obtain ⟨h1,h2⟩:=h r' hr'
 refine ⟨by rw [List.length_map];exact h1,?_⟩
 rw [List.all_map,List.all_eq_true]
 exact fun c hc=>okCell_dat (List.all_eq_true.1 h2 c hc)
theorem datC_rows (hr:Rep w S (.sl rows) (.slice a n cap)) {b:Nat}:∀ {R:List (List C)} {off:Nat},RepRows w S b off R->RepRows w S b off (datRw a n cap rows R)
 | [],_,h=>h
 | r::R,off,h=>by
  simp only [datRw,List.map_cons,RepRows,List.length_map] at h ⊢
  exact ⟨datC_row hr h.1,datC_rows hr h.2⟩
theorem datC_buf (hr:Rep w S (.sl rows) (.slice a n cap)) {ety sz:Nat} {R:List (List C)} {v:Value} (h:BufRel w S ety sz R v):BufRel w S ety sz (datRw a n cap rows R) v:=by
 obtain ⟨h1,h2,h3⟩:=h
 refine ⟨h1,datRw_ok h2,?_⟩
 rcases h3 with ⟨h4,h5⟩ | ⟨g,cap',cur,h4,h5⟩
 ·exact .inl ⟨by rw [h4];rfl,h5⟩
 ·refine .inr ⟨g,cap',cur,by rw [datRw_len];exact h4,?_⟩
  obtain ⟨q1,q2,q3,q4,q5,q6,q7,q8⟩:=h5
  exact ⟨q1,q2,q3,q4,by rw [datRw_len];exact q5,q6,q7,datC_rows hr q8⟩
end
section
variable {e:Env} {σ:St} {mask:Nat} {Q:PX->St->Prop}
theorem turn_datB (k kb:Nat) (hne:kb≠k) {a:Option Addr} {cap ety sz ety' sz':Nat} {rows R:List (List C)} {o':Option (Option Addr × Nat)} (hm:gm σ.m k=some (.buf (some (a,cap)) ety sz rows)) (hb:gm σ.m kb=some (.buf o' ety' sz' R)) :
  Turn e σ (fun σ'=>σ'=⟨frzS k (.buf (some (a,cap)) ety sz rows) σ.s,(kb,.buf o' ety' sz' (datRw a rows.length cap rows R))::remM kb (remM k σ.m)⟩):=by
 intro he U w0 S0 nt ac w ⟨S,L,h⟩
 have ho:=h.cls.own k _ hm
 have hv:L.v k=.slice a rows.length cap:=ho.1 (a,cap) rfl
 have hrep:=BufRel.rep ho.2
 rw [hv] at hrep
 obtain ⟨S',L',h',hS'⟩:=h.freeze2 he hm
 have hr:Rep w S' (.sl rows) (.slice a rows.length cap):=hrep.mono fun b hb=>(hS' b).2 (hb.imp id (fun q=>by show vblk (L.v k)=some b;rw [hv];exact q))
 have hb':gm (remM k σ.m) kb=some (.buf o' ety' sz' R):=by rw [gm_remM,if_neg hne];exact hb
 have hob:=h'.cls.own kb _ hb'
 exact ⟨_,rfl,S',L',h'.cls.swap hb' (bk':=.buf o' ety' sz' (datRw a rows.length cap rows R)) ⟨fun p hp=>by rw [datRw_len];exact hob.1 p hp,datC_buf hr hob.2⟩ (fun g hg=>hg),h'.rel,h'.size,h'.defers,h'.kept⟩
theorem pDb {c:Code} {s s2:List (Nat × A)} {m m2:List (Nat × Bk)} {a:Option Addr} {cap ety sz ety' sz':Nat} {rows R:List (List C)} {o':Option (Option Addr × Nat)} (k kb:Nat) (hne:kb≠k) (hK:pwp e mask c ⟨s2,(kb,.buf o' ety' sz' (datRw a rows.length cap rows R))::m2⟩ Q)
  (hm:gm m k=some (.buf (some (a,cap)) ety sz rows):=by exact snv) (hb:gm m kb=some (.buf o' ety' sz' R):=by exact snv) (hs:frzS k (.buf (some (a,cap)) ety sz rows) s=s2:=by exact snv) (hr:remM kb (remM k m)=m2:=by exact snv):pwp e mask c ⟨s,m⟩ Q :=
 pwp_turn (turn_datB k kb hne hm hb) fun σ' hσ=>by subst hσ;simp only [hs,hr];exact hK
end
end Go.Proofs.YtffmjghcpgpfpaaGreatDoor
