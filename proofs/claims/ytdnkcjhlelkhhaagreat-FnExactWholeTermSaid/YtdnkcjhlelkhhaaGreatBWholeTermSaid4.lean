/-
  Part of a proof.
-/
import Derived.Test.YtdnkcjhlelkhhaaGreatBWholeTermSaid0
import Derived.Test.YtdnkcjhlelkhhaaGreatBWholeTermSaid1
import Derived.Test.YtdnkcjhlelkhhaaGreatBWholeTermSaid2
import Derived.Test.YtdnkcjhlelkhhaaGreatBWholeTermSaid3
import Derived.Shelf.Lays8
import Derived.Test.YtdnkcjhlelkhhaaGreatChecked
import Derived.Shelf.Spec.SlicesGrow
import Derived.Shelf.SlSortCmp.WholeK
import Derived.Shelf.SlSortCmp.NoneTotal
import Derived.Lib.QuietBelow
import Derived.Shelf.SlLaysF0
set_option linter.unusedSimpArgs false
set_option linter.unusedVariables false
set_option maxHeartbeats 400000000
set_option maxRecDepth 100000
namespace Go.Proofs.YtdnkcjhlelkhhaaGreat
open Go.Shelf
def ZwH:Ren:=⟨fun | 4=>110 | n=>n,fun | 22=>51 | 25=>109 | 3=>3 | 4=>4 | 9=>9 | 20=>20 | 0=>0 | n=>n,fun | n=>n⟩
theorem ZzK:Go.Proofs.Lays8.n4 Tryz.prog ZwH:={
 mixed:=by kernel_rfl,
 f4:=⟨Tryz.f110.name,by decide,Tryz.func110.trans (congrArg some (by kernel_rfl))⟩,
 t0:=Tryz.underlying0,
 a0:=Tryz.isAgg0,
 z0:=Tryz.sizeOf0,
 v0:=Tryz.zeroValue0,
 t3:=Tryz.underlying3,
 a3:=Tryz.isAgg3,
 z3:=Tryz.sizeOf3,
 v3:=Tryz.zeroValue3,
 t4:=Tryz.underlying4,
 a4:=Tryz.isAgg4,
 z4:=Tryz.sizeOf4,
 v4:=Tryz.zeroValue4,
 t9:=Tryz.underlying9,
 a9:=Tryz.isAgg9,
 z9:=Tryz.sizeOf9,
 v9:=Tryz.zeroValue9,
 t20:=Tryz.underlying20,
 a20:=Tryz.isAgg20,
 z20:=Tryz.sizeOf20,
 v20:=Tryz.zeroValue20,
 t22:=Tryz.underlying51,
 a22:=Tryz.isAgg51,
 z22:=Tryz.sizeOf51,
 v22:=Tryz.zeroValue51 }
def ZwI:Ren:=⟨fun | 4=>67 | n=>n,fun | 22=>40 | 25=>42 | 3=>3 | 4=>4 | 9=>9 | 20=>20 | 0=>0 | n=>n,fun | n=>n⟩
theorem ZzL:Go.Proofs.Lays8.n4 Tryz.prog ZwI:={
 mixed:=by kernel_rfl,
 f4:=⟨Tryz.f67.name,by decide,Tryz.func67.trans (congrArg some (by kernel_rfl))⟩,
 t0:=Tryz.underlying0,
 a0:=Tryz.isAgg0,
 z0:=Tryz.sizeOf0,
 v0:=Tryz.zeroValue0,
 t3:=Tryz.underlying3,
 a3:=Tryz.isAgg3,
 z3:=Tryz.sizeOf3,
 v3:=Tryz.zeroValue3,
 t4:=Tryz.underlying4,
 a4:=Tryz.isAgg4,
 z4:=Tryz.sizeOf4,
 v4:=Tryz.zeroValue4,
 t9:=Tryz.underlying9,
 a9:=Tryz.isAgg9,
 z9:=Tryz.sizeOf9,
 v9:=Tryz.zeroValue9,
 t20:=Tryz.underlying20,
 a20:=Tryz.isAgg20,
 z20:=Tryz.sizeOf20,
 v20:=Tryz.zeroValue20,
 t22:=Tryz.underlying40,
 a22:=Tryz.isAgg40,
 z22:=Tryz.sizeOf40,
 v22:=Tryz.zeroValue40 }
end Go.Proofs.YtdnkcjhlelkhhaaGreat
namespace Go.Proofs.YtdnkcjhlelkhhaaGreat
open Go.RowKit
theorem Zll {ρ:Go.Shelf.Ren} (L:Go.Proofs.Lays8.n4 Tryz.prog ρ) {ts ety sz by':Nat} (he:ρ.t 25=ety) (hb:Za3 Tryz.prog ts=some (ety,sz,by')) (hby:by'<=4096) (hf:Zb9 Tryz.prog (ρ.f 4)=true) {n:Nat} (h0:0 < n) (h1:n<=4000000):ConR e0 (ρ.f 4) [.clip [],.one (.lit (.int .i64 n))] ety sz []:=by
 subst he;refine ⟨hf,fun w S vs hS hE hG hv=>?_⟩;obtain ⟨i,z,hu,hi,hz,hsz,hby',hzs,hs0,hb4⟩:=Zdq hb
 match vs,hv with
 | [v,u],hv =>
  obtain ⟨⟨⟨A,n',cap,hvA,hn',_⟩,b,k,hbk⟩,h2,_⟩:=hv;have h2:u=.int .i64 n:=by simpa [DRel,Rep] using h2
  subst h2;have hk:k=0:=by
   rw [hbk] at hvA;obtain ⟨_,e1,e2⟩:=by simpa only [Value.slice.injEq] using hvA
   simp at hn';omega
  subst hk hbk
  have h:=Any8.slices_Grow_grow L i z hi hz om b 0 0 n [] w (Tai _) om (by
   have:(0+n) * i.bytes<=4000000 * 4096:=Nat.mul_le_mul om om;omega) om (by simp) (fun _=>rfl) (fun a _ j v hj=>by simp at hj)
  refine h.mono fun en w' ⟨h3,h4⟩=>?_;have hge:=grownCap_ge w (0+n) 0 (ρ.t 25);have hle:=grownCap_le_maxLen w (0+n) 0 (ρ.t 25) (by unfold maxLen;omega);generalize grownCap w (0+n) 0 (ρ.t 25)=G at h3 h4 hge hle;have hne:G≠0:=om;have hvb:vblk (.slice (some ⟨w.heap.size,0,none⟩) 0 G)=some w.heap.size:=by simp [vblk,hne]
  subst h4
  have hk:Kept e0.D (fun b=>(none:Option Nat)=some b) w.heap.size w (w.drew.alloc (.cells (([]:List Value).toArray++Builtin.zeroCells z.cells (0+n - 0)++Builtin.zeroCells z.cells (G - (0+n))) (ρ.t 25))) :=
   ⟨rfl,rfl,rfl,fun _=>Nat.le_succ _,by simp,fun k hk _=>heap_alloc_old w.drew _ hk⟩
  have hheap:=heap_alloc_new w.drew (.cells (([]:List Value).toArray++Builtin.zeroCells z.cells (0+n - 0)++Builtin.zeroCells z.cells (G - (0+n))) (ρ.t 25));refine ⟨_,h3,⟨hk.os,hk.tape,hk.output,hk.drawn,hk.size,fun b hb _=>hk.block b hb (by simp)⟩,ZnP.keep w _ hk.size (fun b' hb'=>hk.block b' (hE b' hb') (by simp)) hG,fun g hg=>?_,?_⟩
  ·rw [hvb] at hg;injection hg with hg
   omega
  ·refine ⟨om,fun r hr=>by simp at hr,.inr ⟨w.heap.size,G,_,rfl,om,by simp,fun h=>h.2 hvb,hheap,by simp,hle,?_,by simp [Zas]⟩⟩;simp only [Array.size_append,size_zeroCells,hzs,List.size_toArray,Tak,Nat.zero_add,Nat.sub_zero,<- Nat.add_mul];rw [show n+(G - n)=G by omega]
theorem Zqk {ρ:Go.Shelf.Ren} (L:Go.Proofs.Lays8.n4 Tryz.prog ρ) {ts ety sz by':Nat} (he:ρ.t 25=ety) (hb:Za3 Tryz.prog ts=some (ety,sz,by')) (hby:by'<=4096) (hf:Zb9 Tryz.prog (ρ.f 4)=true) {n:Nat} (h0:0 < n) (h1:n<=1000000):ConR e0 (ρ.f 4) [.clip [],.one (.lit (.int .i64 n))] ety sz []:=Zll L he hb hby hf h0 om
theorem ZiJ {ρ:Go.Shelf.Ren} (L:Go.Proofs.Lays8.n4 Tryz.prog ρ) (hf:Zb9 Tryz.prog (ρ.f 4)=true) {n:Nat} (h0:n=0):Con e0 (ρ.f 4) [.clip [],.one (.lit (.int .i64 n))] [.clip []]:=by
 subst h0;refine ⟨hf,fun w S vs hS hE hG hv=>?_⟩
 match vs,hv with
 | [v,u],hv =>
  obtain ⟨⟨⟨A,n',cap,hvA,hn',hr⟩,b,k,hbk⟩,h2,_⟩:=hv;have h2:u=.int .i64 ((0:Nat):Int):=by simpa [DRel,Rep] using h2
  subst h2;have hk:k=0:=by
   rw [hbk] at hvA;obtain ⟨_,e1,e2⟩:=by simpa only [Value.slice.injEq] using hvA
   simp at hn';omega
  subst hk hbk;have h:=Any8.slices_Grow_room L b 0 0 0 w (Tai _) om om om;refine h.mono fun en w' ⟨h3,h4⟩=>?_;subst h4;refine ⟨_,h3,⟨rfl,rfl,rfl,fun _=>Tai _,Tai _,fun k hk _=>rfl⟩,hG,?_⟩;simp only [retA,ARel,DRel,Rep];exact ⟨⟨b,0,0,rfl,by simp,by simp,by simp,fun h=>absurd h (by simp)⟩,b,0,rfl⟩
theorem ZsV {n:Nat} (h0:n=0):Con e0 110 [.clip [],.one (.lit (.int .i64 n))] [.clip []]:=ZiJ ZzK (by kernel_rfl) h0
theorem ZsW {n:Nat} (h0:0 < n) (h1:n<=1000000):ConR e0 110 [.clip [],.one (.lit (.int .i64 n))] 109 9 [] :=
 Zqk ZzK (ts:=51) (by':=136) rfl (by kernel_rfl) (by decide) (by kernel_rfl) h0 h1
def totR (rs:List (List (List C))) (x:Nat):Nat:=(rs.take x).flatten.length
def flR (rs:List (List (List C))) (x:Nat):List (List C):=(rs.take x).flatten
theorem ZwJ (rs:List (List (List C))):totR rs 0=0:=by simp [totR]
theorem ZzM (rs:List (List (List C))):flR rs 0=[]:=by simp [flR]
theorem Zke {rs:List (List (List C))} {x:Nat} {r:List (List C)} (h:rs[x]?=some r):flR rs x++r=flR rs (x+1):=by
 simp [flR,List.take_add_one,h]
theorem ZmX {rs:List (List (List C))} {x:Nat} {r:List (List C)} (h:rs[x]?=some r):totR rs (x+1)=totR rs x+r.length:=by
 have:=Zke h;simp only [totR,flR] at this ⊢;rw [<- this,Tae]
theorem Zji (rs:List (List (List C))) (x:Nat):totR rs x<=rs.flatten.length:=by
 have:rs.flatten=(rs.take x).flatten++(rs.drop x).flatten:=by rw [<- List.flatten_append,Tbm]
 rw [totR,this,Tae];omega
theorem ZwK (rs:List (List (List C))):ZaC 1 (rs.map fun r=>[C.sl r])=true:=by
 induction rs with
 | nil=>rfl
 | cons r rs ih=>simp [Zeo,ih,Zai]
theorem Zql (rs:List (List (List C))) (hr:∀ r∈rs,ZaC 9 r=true) (hn:rs.length<=1000) (hl:rs.flatten.length<=1000000):Con e0 62 [.one (.sl (rs.map fun r=>[.sl r]))] [.one (.sl rs.flatten)]:=by
 have rb:=ZwK rs;refine gI 504373101 Tryz.func62 ?_;refine fG @tmz ?_;have F:=((ZwJ rs));refine gL (ι:=Nat) [3,5,11,12,20] [] (fun x=>[(3,A.d (.one (.lit (.int .i64 (totR rs x))))),(11,A.d (.one (.lit (.int .i64 x))))]) (fun x=>[]) (fun x=>x<=rs.length) (fun x=>rs.length - x) (0) (Taj _) (fun x hx=>?_);clear F;by_cases hlt:x < rs.length
 ·have q1:(x:Int) < (rs.length:Int):=om;obtain ⟨r,hx1⟩:∃ a,rs[x]?=some a:=⟨_,Taa hlt⟩;have hw1:=Zaw (k:=x) om;have hts:=ZmX hx1;have htl:=Zji rs (x+1);have hw2:IntKind.i64.wrap ((totR rs x:Int)+(r.length:Int))=(totR rs (x+1):Int):=by rw [IntWalk.i64_in _ om];omega
  have hn2:¬ ((totR rs (x+1):Int) < 0):=om;have F:=aj7 @tmz @rb @q1 @hx1 @hw1 @hw2 @hn2;refine gG ?_;exact ⟨x+1,hlt,gw,gw,om⟩
 obtain rfl:x=rs.length:=by omega
 have q1:¬ ((rs.length:Int) < (rs.length:Int)):=om;have htt:totR rs rs.length=rs.flatten.length:=by simp [totR]
 refine fB (ai @tmz @q1) ?_;have hfin:flR rs rs.length=rs.flatten:=by simp [flR]
 rcases Nat.eq_zero_or_pos (totR rs rs.length) with h0 | h0
 refine fC @tmz (ZsV h0) ?_;rotate_left;have F:=@tmz;refine gCR (ZsW h0 om) ?_;clear F
 all_goals (
  refine fR @tmz ?_;refine fG @tmz ?_;have F:=((ZzM rs));refine gL (ι:=Nat) [6,8,27,28] [6] (fun y=>[(6,.buf 6),(27,A.d (.one (.lit (.int .i64 y))))]) (fun y=>[(6,.buf none 109 9 (flR rs y))]) (fun y=>y<=rs.length) (fun y=>rs.length - y) (0) (Taj _) (fun y hy=>?_);clear F;by_cases hlt:y < rs.length
  ·have q2:(y:Int) < (rs.length:Int):=om;obtain ⟨r,hy1⟩:∃ a,rs[y]?=some a:=⟨_,Taa hlt⟩;have hw1:=Zaw (k:=y) om;have hrr:=hr r (Tac hy1);have hst:=Zke hy1;have htl:=Zji rs (y+1);have hlen:(flR rs y).length+r.length<=maxApp:=by
    rw [<- Tae,hst];unfold maxApp;have:(flR rs (y+1)).length=totR rs (y+1):=rfl;omega
   have F:=aj8 @tmz @rb @q2 @hy1 @hw1 @hrr @hst @hlen;refine gG ?_;exact ⟨y+1,hlt,gw,gw,om⟩
  obtain rfl:y=rs.length:=by omega
  have q2:¬ ((rs.length:Int) < (rs.length:Int)):=om;rw [hfin]
  (have F:=ai @tmz @q2;refine gG ?_;exact gTz [2]))
theorem ZsX {n:Nat} (h0:n=0):Con e0 67 [.clip [],.one (.lit (.int .i64 n))] [.clip []]:=ZiJ ZzL (by kernel_rfl) h0
theorem ZsY {n:Nat} (h0:0 < n) (h1:n<=4000000):ConR e0 67 [.clip [],.one (.lit (.int .i64 n))] 42 4 [] :=
 Zll ZzL (ts:=40) (by':=56) rfl (by kernel_rfl) (by decide) (by kernel_rfl) h0 h1
theorem ZjQ (rs:List (List (List C))) (hr:∀ r∈rs,ZaC 4 r=true) (hn:rs.length<=1000) (hl:rs.flatten.length<=4000000):Con e0 33 [.one (.sl (rs.map fun r=>[.sl r]))] [.one (.sl rs.flatten)]:=by
 have rb:=ZwK rs;refine gI 504373101 Tryz.func33 ?_;refine fG @tmz ?_;have F:=((ZwJ rs));refine gL (ι:=Nat) [3,5,11,12,20] [] (fun x=>[(3,A.d (.one (.lit (.int .i64 (totR rs x))))),(11,A.d (.one (.lit (.int .i64 x))))]) (fun x=>[]) (fun x=>x<=rs.length) (fun x=>rs.length - x) (0) (Taj _) (fun x hx=>?_);clear F;by_cases hlt:x < rs.length
 ·have q1:(x:Int) < (rs.length:Int):=om;obtain ⟨r,hx1⟩:∃ a,rs[x]?=some a:=⟨_,Taa hlt⟩;have hw1:=Zaw (k:=x) om;have hts:=ZmX hx1;have htl:=Zji rs (x+1);have hw2:IntKind.i64.wrap ((totR rs x:Int)+(r.length:Int))=(totR rs (x+1):Int):=by rw [IntWalk.i64_in _ om];omega
  have hn2:¬ ((totR rs (x+1):Int) < 0):=om;have F:=aj7 @tmz @rb @q1 @hx1 @hw1 @hw2 @hn2;refine gG ?_;exact ⟨x+1,hlt,gw,gw,om⟩
 obtain rfl:x=rs.length:=by omega
 have q1:¬ ((rs.length:Int) < (rs.length:Int)):=om;have htt:totR rs rs.length=rs.flatten.length:=by simp [totR]
 refine fB (ai @tmz @q1) ?_;have hfin:flR rs rs.length=rs.flatten:=by simp [flR]
 rcases Nat.eq_zero_or_pos (totR rs rs.length) with h0 | h0
 refine fC @tmz (ZsX h0) ?_;rotate_left;have F:=@tmz;refine gCR (ZsY h0 om) ?_;clear F
 all_goals (
  refine fR @tmz ?_;refine fG @tmz ?_;have F:=((ZzM rs));refine gL (ι:=Nat) [6,8,27,28] [6] (fun y=>[(6,.buf 6),(27,A.d (.one (.lit (.int .i64 y))))]) (fun y=>[(6,.buf none 42 4 (flR rs y))]) (fun y=>y<=rs.length) (fun y=>rs.length - y) (0) (Taj _) (fun y hy=>?_);clear F;by_cases hlt:y < rs.length
  ·have q2:(y:Int) < (rs.length:Int):=om;obtain ⟨r,hy1⟩:∃ a,rs[y]?=some a:=⟨_,Taa hlt⟩;have hw1:=Zaw (k:=y) om;have hrr:=hr r (Tac hy1);have hst:=Zke hy1;have htl:=Zji rs (y+1);have hlen:(flR rs y).length+r.length<=maxApp:=by
    rw [<- Tae,hst];unfold maxApp;have:(flR rs (y+1)).length=totR rs (y+1):=rfl;omega
   have F:=aj8 @tmz @rb @q2 @hy1 @hw1 @hrr @hst @hlen;refine gG ?_;exact ⟨y+1,hlt,gw,gw,om⟩
  obtain rfl:y=rs.length:=by omega
  have q2:¬ ((rs.length:Int) < (rs.length:Int)):=om;rw [hfin]
  (have F:=ai @tmz @q2;refine gG ?_;exact gTz [2]))
theorem Zlo {e:Env} {f:FuncId} {rows:List (List C)} {r:List D} (h:Con e f [.one (.sl rows)] r):Con e f [.clip rows] r :=
 ⟨h.1,fun w S vs h1 h2 h3 h4=>h.2 w S vs h1 h2 h3 (by
  match vs,h4 with
  | [x],h4=>exact ⟨h4.1.1,trivial⟩)⟩
theorem Zyf (a b:List Tm) (t:Tm) (h:a.length+b.length<=1048576):Con e0 33 [.one (.sl [[.sl (Zaa a)],[.sl [(Zad t)]],[.sl (Zaa b)]])] [.one (.sl (Zaa (a++(t::b))))]:=by
 have e1:=Zac a;have e2:=Zac b;have h1:=ZjQ [Zaa a,[Zad t],Zaa b] (fun r hr=>by
  simp only [Tbg,List.not_mem_nil,or_false] at hr;rcases hr with rfl | rfl | rfl
  ·exact Zco _
  ·have:=Zco [t]
   rwa [Zes] at this
  ·exact Zco _) (by simp) (by simp only [List.flatten_cons,List.flatten_nil,Tae,Tag,Tak];omega)
 simp only [Tbq,List.map_nil,List.flatten_cons,List.flatten_nil,List.append_nil] at h1;rw [ZbK,show Zaa (t::b)=[Zad t]++Zaa b by simp [Zaa]];exact h1
theorem Zyg (a b:List Tm) (h:a.length+b.length<=1048576):Con e0 33 [.one (.sl [[.sl (Zaa a)],[.sl (Zaa b)]])] [.one (.sl (Zaa (a++b)))]:=by
 have e1:=Zac a;have e2:=Zac b;have h1:=ZjQ [Zaa a,Zaa b] (fun r hr=>by
  simp only [Tbg,List.not_mem_nil,or_false] at hr;rcases hr with rfl | rfl <;> exact Zco _) (by simp) (by simp only [List.flatten_cons,List.flatten_nil,Tae,Tag,Tak];omega)
 simp only [Tbq,List.map_nil,List.flatten_cons,List.flatten_nil,List.append_nil] at h1;rw [ZbK];exact h1
theorem Zs5 {g:Sgn} {mc:C} (hg:SgnOk g) {p:Pnd} (hp:PndOk g p) {t:Tm} (ht:TermOk g t) (hb:bulkRow (ZaX p)+1+bulkRow (Zad t)<=1048576):Con e0 68 [.one (.ptr (encX g mc)),.one (.lit (.int .i64 p.op)),.one (.sl (Zaa (ZbV p t)))] [.agg (Zad ((mkT g p.op (ZbV p t)).getD zTm)),.one (.lit (.bool (mkT g p.op (ZbV p t)).isSome))]:=by
 have hl:=hp.lo;have hh:=hp.hi;obtain ⟨o,ho⟩:∃ o,g.ops[p.op.toNat]?=some o:=⟨_,Taa om⟩;obtain ⟨d,hd,_⟩:=hg.first ho;have h1:=ZgQ p t;have h2:=Zjh o p.op (ZbV p t);rw [ZwB ho hd];exact Zs4 hg hp.lo ho hd _ (hp.args ht) om om
theorem ZwR {l:List Pnd} {k:Nat} {p:Pnd} (h:l[k]?=some p):bulkRows ((l.take (k+1)).map ZaX)=bulkRows ((l.take k).map ZaX)+bulkRow (ZaX p):=by
 have h2:(l.map ZaX)[k]?=some (ZaX p):=by rw [Tba,h];rfl
 rw [List.map_take,List.map_take];exact Zc3 h2
theorem ZwS {g:Sgn} {mc:C} (hg:SgnOk g) {stk:List Pnd} (hs:∀ p∈stk,PndOk g p) {t:Tm} (ht:TermOk g t) (hb:bulkRow (Zad t)+(stk.length+bulkRows (stk.map ZaX))<=1048576):Con e0 34 [.one (.ptr (encX g mc)),.agg (Zad t),.one (.sl (stk.map ZaX))] [.agg (Zad ((whR g stk.reverse t).getD zTm)),.one (.lit (.bool (whR g stk.reverse t).isSome))]:=by
 have hz:=Zeu;have hrb:=Zlj stk;have hkl:(stk.map ZaX).length=stk.length:=Tay ..;generalize hW:whR g stk.reverse t=W;refine gI (ts:=[.cell 6 42,.slot 7]) 35184372158423 Tryz.func34 ?_;have w0:IntKind.i64.wrap ((stk.length:Int) - 1)=(stk.length:Int) - 1:=IntWalk.i64_in _ om;refine fG (aj3 @w0 @hkl @tmz) ?_;have F:=aj3 @w0 @hkl @tmz;refine gL (ι:=Nat × Tm) [7,8,9,10,11,16,45] [4] (fun x=>[(8,.d (.one (.lit (.int .i64 ((x.1:Int) - 1)))))]) (fun x=>[(4,.var none (Zad x.2))]) (fun x=>x.1<=stk.length∧TermOk g x.2∧whR g (stk.take x.1).reverse x.2=W∧bulkRow (Zad x.2)+(x.1+bulkRows ((stk.take x.1).map ZaX))<=1048576) (fun x=>x.1) ((stk.length,t)) (⟨Tai _,ht,by rw [Tap];exact hW,by rw [Tap];exact hb⟩) (fun x hx=>?_);clear F
 obtain ⟨j,now⟩:=x;simp only at hx;obtain ⟨hj,hT,hw,hBB⟩:=hx;dsimp only
 cases j with
 | zero =>
  have q1:((0:Int)<=((0:Nat):Int) - 1)=False:=eq_false om;have q2:((0:Int)<=-1)=False:=eq_false om;have q3:((0:Nat):Int) - 1=-1:=rfl;simp only [List.take_zero,List.reverse_nil,whR] at hw;rw [<- hw];rw [q3];refine fG (ai @q2 @tmz) ?_;exact fD @tmz
 | succ k =>
  obtain ⟨p,hp⟩:∃ p,stk[k]?=some p:=⟨_,Taa om⟩;have hpm:=hs p (Tac hp);have hk:(stk.map ZaX)[k]?=some [.lit (.int .i64 p.op),.sl (Zaa p.dn),.sl (Zaa p.lf)]:=by rw [Tba,hp];rfl
  have q3:((k+1:Nat):Int) - 1=(k:Int):=om;have q1:((0:Int)<=(k:Int))=True:=eq_true om;rw [q3];rw [Zo5 hp] at hw;rw [ZwR hp] at hBB;have h1:=ZgQ p now;have h2:(ZbV p now).length=p.dn.length+(p.lf.length+1):=by simp [ZbV]
  have cC:=Zlo (Zyf p.dn p.lf now om);rw [show p.dn++now::p.lf=ZbV p now from rfl] at cC;have cB:=Zs5 (mc:=mc) hg hpm hT om;have hu:=fun u=>Zo3 hg (t:=u) hpm.lo (hpm.args hT);have hub:=fun u=>Zo7 (g:=g) (op:=p.op) (xs:=ZbV p now) (t:=u);simp only [whR] at hw;refine fN 4 (aj3 @q1 @hkl @tmz) ?_
  /- gk l18wh -/
  refine gGx (X:=UU) [(0,.d (.one (.ptr (encX g mc)))),(1,.d (.agg (Zad t))),(2,.d (.one (.sl (stk.map ZaX)))),(4,.ref 4 0),(6,.ref 6 0),(8,.d (.one (.lit (.int .i64 (k:Int)))))] [(4,.var none (Zad now)),(6,.var none [.lit (.int .i64 0),.lit (.string ByteArray.empty),.lit (.int .i64 0),.sl []])] (fun _ x=>x.ok) (fun x=>[([(19,.d (.one (.sl (stk.map ZaX))))],[]),([(20,.d (.one (.lit (.int .i64 (k:Int)))))],[]),([(21,.d (.one (.ptr [.lit (.int .i64 p.op),.sl (Zaa p.dn),.sl (Zaa p.lf)])))],[]),([(22,.d (.one (.ptr [.sl (Zaa p.dn),.sl (Zaa p.lf)])))],[]),([(23,.d (.one (.sl (Zaa p.dn))))],[]),([(24,.d (.agg (Zad now)))],[]),([(25,.d (.clip [(Zad now)]))],[]),([(26,.d (.one (.sl (stk.map ZaX))))],[]),([(27,.d (.one (.lit (.int .i64 (k:Int)))))],[]),([(28,.d (.one (.ptr [.lit (.int .i64 p.op),.sl (Zaa p.dn),.sl (Zaa p.lf)])))],[]),([(29,.d (.one (.ptr [.sl (Zaa p.lf)])))],[]),([(30,.d (.one (.sl (Zaa p.lf))))],[]),([(31,.d (.clip [[.sl (Zaa p.dn)],[.sl [(Zad now)]],[.sl (Zaa p.lf)]]))],[]),([(32,.d (.one (.sl (Zaa (ZbV p now)))))],[]),([(9,.d (.one (.sl (Zaa (ZbV p now)))))],[])]) (fun _=>none) [] (⟨by simp [gs],by simp [gm]⟩) (fun j hj=>by simp at hj) ⟨?_,?_,?_,?_,?_,?_,?_,?_,?_,?_,?_,?_,?_,?_,?_,trivial⟩ ?_
  ·intro s' m' hB hD hI hJ;have F:=ZaQ.1 hB;simp only [lkS,lkM,List.getD_cons_zero,List.getD_cons_succ,and_true,true_and] at F;have F:=aj5 F hk hkl hrb tmz;refine gO3 ?_;exact xS hB (Zap.2 ⟨UU.z,UU.z_ok,by simp [lkS,lkM,gs,gm,Zat,UU.two,UU.vs,UU.sl]⟩)
  ·intro s' m' hB hD hI hJ;have F:=ZaQ.1 hB;simp only [lkS,lkM,List.getD_cons_zero,List.getD_cons_succ,and_true,true_and] at F;have F:=aj5 F hk hkl hrb tmz;refine gO3 ?_;exact xS hB (Zap.2 ⟨UU.z,UU.z_ok,by simp [lkS,lkM,gs,gm,Zat,UU.two,UU.vs,UU.sl]⟩)
  ·intro s' m' hB hD hI hJ;have F:=ZaQ.1 hB;simp only [lkS,lkM,List.getD_cons_zero,List.getD_cons_succ,and_true,true_and] at F;obtain ⟨x0,o0,F0⟩:=Zap.1 (hD 0 (by decide) (.inl rfl));obtain ⟨x1,o1,F1⟩:=Zap.1 (hD 1 (by decide) (.inl rfl));simp only [lkS,lkM,List.getD_cons_zero,List.getD_cons_succ,and_true,true_and] at F0;have F:=ai F F0;simp only [lkS,lkM,List.getD_cons_zero,List.getD_cons_succ,and_true,true_and] at F1
   have F:=ai F F1;have F:=aj5 F hk hkl hrb tmz;refine gO3 ?_;exact xS hB (Zap.2 ⟨UU.z,UU.z_ok,by simp [lkS,lkM,gs,gm,Zat,F0,F1,UU.two,UU.vs,UU.sl]⟩)
  ·intro s' m' hB hD hI hJ;have F:=ZaQ.1 hB;simp only [lkS,lkM,List.getD_cons_zero,List.getD_cons_succ,and_true,true_and] at F;obtain ⟨x2,o2,F2⟩:=Zap.1 (hD 2 (by decide) (.inl rfl));simp only [lkS,lkM,List.getD_cons_zero,List.getD_cons_succ,and_true,true_and] at F2;have F:=ai F F2;have F:=aj5 F hk hkl hrb tmz;refine gO3 ?_;exact xS hB (Zap.2 ⟨UU.z,UU.z_ok,by simp [lkS,lkM,gs,gm,Zat,F2,UU.two,UU.vs,UU.sl]⟩)
  ·intro s' m' hB hD hI hJ;have F:=ZaQ.1 hB;simp only [lkS,lkM,List.getD_cons_zero,List.getD_cons_succ,and_true,true_and] at F;obtain ⟨x3,o3,F3⟩:=Zap.1 (hD 3 (by decide) (.inl rfl));simp only [lkS,lkM,List.getD_cons_zero,List.getD_cons_succ,and_true,true_and] at F3;have F:=ai F F3;have F:=aj5 F hk hkl hrb tmz;refine gO3 ?_;exact xS hB (Zap.2 ⟨UU.z,UU.z_ok,by simp [lkS,lkM,gs,gm,Zat,F3,UU.two,UU.vs,UU.sl]⟩)
  ·intro s' m' hB hD hI hJ;have F:=ZaQ.1 hB;simp only [lkS,lkM,List.getD_cons_zero,List.getD_cons_succ,and_true,true_and] at F;have F:=aj5 F hk hkl hrb tmz;refine gO3 ?_;exact xS hB (Zap.2 ⟨UU.z,UU.z_ok,by simp [lkS,lkM,gs,gm,Zat,UU.two,UU.vs,UU.sl]⟩)
  ·intro s' m' hB hD hI hJ;have F:=ZaQ.1 hB;simp only [lkS,lkM,List.getD_cons_zero,List.getD_cons_succ,and_true,true_and] at F;obtain ⟨x5,o5,F5⟩:=Zap.1 (hD 5 (by decide) (.inl rfl));simp only [lkS,lkM,List.getD_cons_zero,List.getD_cons_succ,and_true,true_and] at F5;have F:=ai F F5;have F:=aj5 F hk hkl hrb tmz;refine gO3 ?_;exact xS hB (Zap.2 ⟨UU.z,UU.z_ok,by simp [lkS,lkM,gs,gm,Zat,F5,UU.two,UU.vs,UU.sl]⟩)
  ·intro s' m' hB hD hI hJ;have F:=ZaQ.1 hB;simp only [lkS,lkM,List.getD_cons_zero,List.getD_cons_succ,and_true,true_and] at F;have F:=aj5 F hk hkl hrb tmz;refine gO3 ?_;exact xS hB (Zap.2 ⟨UU.z,UU.z_ok,by simp [lkS,lkM,gs,gm,Zat,UU.two,UU.vs,UU.sl]⟩)
  ·intro s' m' hB hD hI hJ;have F:=ZaQ.1 hB;simp only [lkS,lkM,List.getD_cons_zero,List.getD_cons_succ,and_true,true_and] at F;have F:=aj5 F hk hkl hrb tmz;refine gO3 ?_;exact xS hB (Zap.2 ⟨UU.z,UU.z_ok,by simp [lkS,lkM,gs,gm,Zat,UU.two,UU.vs,UU.sl]⟩)
  ·intro s' m' hB hD hI hJ;have F:=ZaQ.1 hB;simp only [lkS,lkM,List.getD_cons_zero,List.getD_cons_succ,and_true,true_and] at F;obtain ⟨x7,o7,F7⟩:=Zap.1 (hD 7 (by decide) (.inl rfl));obtain ⟨x8,o8,F8⟩:=Zap.1 (hD 8 (by decide) (.inl rfl));simp only [lkS,lkM,List.getD_cons_zero,List.getD_cons_succ,and_true,true_and] at F7;have F:=ai F F7;simp only [lkS,lkM,List.getD_cons_zero,List.getD_cons_succ,and_true,true_and] at F8
   have F:=ai F F8;have F:=aj5 F hk hkl hrb tmz;refine gO3 ?_;exact xS hB (Zap.2 ⟨UU.z,UU.z_ok,by simp [lkS,lkM,gs,gm,Zat,F7,F8,UU.two,UU.vs,UU.sl]⟩)
  ·intro s' m' hB hD hI hJ;have F:=ZaQ.1 hB;simp only [lkS,lkM,List.getD_cons_zero,List.getD_cons_succ,and_true,true_and] at F;obtain ⟨x9,o9,F9⟩:=Zap.1 (hD 9 (by decide) (.inl rfl));simp only [lkS,lkM,List.getD_cons_zero,List.getD_cons_succ,and_true,true_and] at F9;have F:=ai F F9;have F:=aj5 F hk hkl hrb tmz;refine gO3 ?_;exact xS hB (Zap.2 ⟨UU.z,UU.z_ok,by simp [lkS,lkM,gs,gm,Zat,F9,UU.two,UU.vs,UU.sl]⟩)
  ·intro s' m' hB hD hI hJ;have F:=ZaQ.1 hB;simp only [lkS,lkM,List.getD_cons_zero,List.getD_cons_succ,and_true,true_and] at F;obtain ⟨x10,o10,F10⟩:=Zap.1 (hD 10 (by decide) (.inl rfl));simp only [lkS,lkM,List.getD_cons_zero,List.getD_cons_succ,and_true,true_and] at F10;have F:=ai F F10;have F:=aj5 F hk hkl hrb tmz;refine gO3 ?_;exact xS hB (Zap.2 ⟨UU.z,UU.z_ok,by simp [lkS,lkM,gs,gm,Zat,F10,UU.two,UU.vs,UU.sl]⟩)
  ·intro s' m' hB hD hI hJ;have F:=ZaQ.1 hB;simp only [lkS,lkM,List.getD_cons_zero,List.getD_cons_succ,and_true,true_and] at F;obtain ⟨x4,o4,F4⟩:=Zap.1 (hD 4 (by decide) (.inl rfl));obtain ⟨x6,o6,F6⟩:=Zap.1 (hD 6 (by decide) (.inl rfl));obtain ⟨x11,o11,F11⟩:=Zap.1 (hD 11 (by decide) (.inl rfl));simp only [lkS,lkM,List.getD_cons_zero,List.getD_cons_succ,and_true,true_and] at F4;have F:=ai F F4;simp only [lkS,lkM,List.getD_cons_zero,List.getD_cons_succ,and_true,true_and] at F6
   have F:=ai F F6;simp only [lkS,lkM,List.getD_cons_zero,List.getD_cons_succ,and_true,true_and] at F11;have F:=ai F F11;have F:=aj5 F hk hkl hrb tmz;refine gO3 ?_;exact xS hB (Zap.2 ⟨UU.z,UU.z_ok,by simp [lkS,lkM,gs,gm,Zat,F4,F6,F11,UU.two,UU.vs,UU.sl]⟩)
  ·intro s' m' hB hD hI hJ;have F:=ZaQ.1 hB;simp only [lkS,lkM,List.getD_cons_zero,List.getD_cons_succ,and_true,true_and] at F;obtain ⟨x12,o12,F12⟩:=Zap.1 (hD 12 (by decide) (.inl rfl));simp only [lkS,lkM,List.getD_cons_zero,List.getD_cons_succ,and_true,true_and] at F12;have F:=ai F F12;have F:=aj5 F hk hkl hrb tmz;refine gC (cC) ?_;refine ZbP ?_;exact xS hB (Zap.2 ⟨UU.z,UU.z_ok,by simp [lkS,lkM,gs,gm,Zat]⟩)
  ·intro s' m' hB hD hI hJ;have F:=ZaQ.1 hB;simp only [lkS,lkM,List.getD_cons_zero,List.getD_cons_succ,and_true,true_and] at F;obtain ⟨x13,o13,F13⟩:=Zap.1 (hD 13 (by decide) (.inl rfl));simp only [lkS,lkM,List.getD_cons_zero,List.getD_cons_succ,and_true,true_and] at F13;have F:=ai F F13;have F:=aj5 F hk hkl hrb tmz;refine gO3 ?_;exact xS hB (Zap.2 ⟨UU.z,UU.z_ok,by simp [lkS,lkM,gs,gm,Zat,F13,UU.two,UU.vs,UU.sl]⟩)
  intro s' m' hB hP;obtain ⟨x14,o14,P14⟩:=hP 14 (.inl (by decide)) (fun k h=>by simp [List.lookup] at h);refine ⟨_,_,hB.app P14,?_⟩;simp only [Taf,Tah,List.append_nil,List.getD_cons_zero,List.getD_cons_succ]
  /- gk end l18wh -/
  refine ⟨_,Wk.refl _,?_⟩;refine fN 5 @tmz ?_;refine gB ?_;refine fC (aj4 @hk @hkl @hrb @tmz) (cB) ?_;have wk:IntKind.i64.wrap ((k:Int) - 1)=(k:Int) - 1:=IntWalk.i64_in _ om
  cases hmk:mkT g p.op (ZbV p now) with
  | none =>
   rw [hmk] at hw;simp only [Option.bind_none] at hw;rw [<- hw];refine fR @tmz ?_;exact fD (ai @hz @tmz)
  | some u =>
   rw [hmk] at hw;simp only [Option.bind_some] at hw;have hu:=hu u hmk;have hub:=hub u hmk;refine fR @tmz ?_;refine fN 8 @tmz ?_;have F:=ai @wk @tmz;refine gG ?_;exact ⟨(k,u),⟨om,hu,hw,by dsimp only;omega⟩,gw,gw,om⟩
end Go.Proofs.YtdnkcjhlelkhhaaGreat
namespace Go.Proofs.YtdnkcjhlelkhhaaGreat
open Go.RowKit
open Go.Sort (grow HoldsK putRowK flatK SWO PermIn SortedIn Holds mapBlock onCells putRow putCells get_flatK size_flatK)
theorem ZwX {w w':World} (h:Kept True (fun _=>False) w.heap.size w w'):∃ q os,w'=grow (w.drewN q) os:=by
 obtain ⟨p,hp⟩:=regrown_of_below (w:=w) (w':=w') ⟨h.os,h.tape,h.output,h.size,fun k hk=>h.block k hk id⟩;have hd:=h.drawn trivial;have e:p.d=w'.drawn:=by rw [hp];rfl
 refine ⟨w'.drawn - w.drawn,p.os,?_⟩;have e2:redrawn w p.d=w.drewN (w'.drawn - w.drawn):=by
  unfold redrawn World.drewN;rw [e,show w.drawn+(w'.drawn - w.drawn)=w'.drawn by omega]
 rw [<- e2];exact hp
abbrev SRow (w:World) (S:Nat->Prop) (Q:List C->Prop):={x:List C × List Value // Q x.1∧Zab w S x.1 x.2}
theorem Zpj {w:World} {S:Nat->Prop} {b k:Nat} {Q:List C->Prop} (hk:∀ r,Q r->r.length=k):∀ (rows:List (List C)) (off:Nat),(∀ r∈rows,Q r)->Zas w S b off rows->∃ l:List (SRow w S Q),l.map (fun x=>x.1.1)=rows∧∀ (i:Nat) x,l[i]?=some x->∀ j u,x.1.2[j]?=some u->w.cell? ⟨b,off+i * k+j,none⟩=some u
 | [],off,_,_=>⟨[],rfl,fun i x h=>by simp at h⟩
 | r::rs,off,hQ,h=>by
  simp only [Zas] at h;obtain ⟨vs,h1,h2⟩:=h.1.vals;obtain ⟨l,e,hl⟩:=Zpj hk rs (off+r.length) (fun x hx=>hQ x (Tal _ hx)) h.2;have hr:=hQ r Tas;refine ⟨⟨(r,vs),hr,h1⟩::l,by simp [e],fun i x hi j u hj=>?_⟩
  cases i with
  | zero =>
   simp only [Tat,Taq] at hi;subst hi;have:=h2 j u hj
   rwa [Nat.zero_mul,Nat.add_zero]
  | succ i =>
   have:=hl i x (by simpa using hi) j u hj;rw [hk r hr] at this
   rwa [show off+(i+1) * k+j=off+k+i * k+j by rw [Nat.succ_mul];omega]
theorem Zlq {w W:World} {S S2:Nat->Prop} {b k:Nat} {Q:List C->Prop} (hk:∀ r,Q r->r.length=k) (hv:∀ x:SRow w S Q,Zab W S2 x.1.1 x.1.2):∀ (l:List (SRow w S Q)) (off:Nat),(∀ (i:Nat) x,l[i]?=some x->∀ j u,x.1.2[j]?=some u->W.cell? ⟨b,off+i * k+j,none⟩=some u)->Zas W S2 b off (l.map (fun x=>x.1.1))
 | [],off,_=>by simp [Zas]
 | x::l,off,h=>by
  simp only [Tbq,Zas];refine ⟨Zal.of_vals _ _ off (hv x) fun j u hj=>?_,?_⟩
  ·have:=h 0 x rfl j u hj
   rwa [Nat.zero_mul,Nat.add_zero] at this
  ·rw [hk _ x.2.1];refine Zlq hk hv l (off+k) fun i y hi j u hj=>?_;have:=h (i+1) y (by simpa using hi) j u hj
   rwa [show off+(i+1) * k+j=off+k+i * k+j by rw [Nat.succ_mul];omega] at this
theorem Zpk {α:Type} [Inhabited α] {enc:α->List Value} {k:Nat} {W:World} {b:Nat} {d:Array α} (hk:∀ x,(enc x).length=k) (h:HoldsK enc k W b 0 d) {i:Nat} {x:α} (hi:d.toList[i]?=some x) {j:Nat} {u:Value} (hj:(enc x)[j]?=some u):W.cell? ⟨b,0+i * k+j,none⟩=some u:=by
 have hil:i < d.size:=by have:=(Tad.1 hi).1;simpa using this
 have hjl:j < k:=by have:=(Tad.1 hj).1;rwa [hk] at this
 have ht:i * k+j < d.size * k:=by
  have:=Nat.mul_le_mul_right k (show i+1<=d.size from hil);rw [Nat.succ_mul] at this;omega
 have h1:=(h (i * k+j) (by rw [size_flatK];exact ht)).1;rw [get_flatK _ _ _ _ ht,show (i * k+j) / k=i by rw [Nat.add_comm,Nat.add_mul_div_right _ _ om,Nat.div_eq_of_lt hjl,Nat.zero_add],show (i * k+j) % k=j by rw [Nat.add_comm,Nat.add_mul_mod_self_right,Nat.mod_eq_of_lt hjl]] at h1;have e1:d[i]! = x:=by
  rw [getElem!_pos d i hil];have:=(Tad.1 hi).2;simpa using this
 have e2:(enc x)[j]! = u:=by
  rw [getElem!_pos (enc x) j (by rw [hk];exact hjl)];exact (Tad.1 hj).2
 rw [e1,e2,<- Tbs] at h1;exact h1
theorem ZwY {α:Type} [Inhabited α] {enc:α->List Value} {k:Nat} {w:World} {b:Nat} {l:List α} (hk:∀ x,(enc x).length=k) (hf:∀ o,w.frozen? ⟨b,o,none⟩=false) (h:∀ (i:Nat) x,l[i]?=some x->∀ j u,(enc x)[j]?=some u->w.cell? ⟨b,0+i * k+j,none⟩=some u):HoldsK enc k w b 0 l.toArray:=by
 intro t ht;refine ⟨?_,hf _⟩;rw [size_flatK] at ht;have ht':t < l.length * k:=by simpa using ht
 have k0 : 0 < k := by rcases Nat.eq_zero_or_pos k with e | e; · subst e; simp at ht'
                       ·exact e
 have hi:t / k < l.length:=Nat.div_lt_of_lt_mul (by rw [Nat.mul_comm];exact ht');have hj:t % k < k:=Nat.mod_lt _ k0;rw [get_flatK _ _ _ _ ht];have e1:l.toArray[t / k]! = l[t / k]:=by rw [getElem!_pos _ _ (by simpa using hi)];rfl
 rw [e1,getElem!_pos _ _ (by rw [hk];exact hj)];have:=h (t / k) l[t / k] (Taa hi) (t % k) _ (Taa (by rw [hk];exact hj))
 rwa [show 0+t / k * k+t % k=0+t by have:=Nat.div_add_mod' t k;omega] at this
theorem Zab.one {w:World} {S:Nat->Prop}:∀ {cs:List C} {us:List Value},cs.all Zai=true->Zab w S cs us->∀ v∈us,v.oneCell'=true
 | [],[],_,_,v,h=>by simp at h
 | c::cs,u::us,hc,h,v,hv=>by
  simp only [List.all_cons,Tar] at hc;simp only [Zab] at h;rcases Tbg.1 hv with rfl | hv
  ·exact Zf0 hc.1 h.1
  ·exact Zab.one hc.2 h.2 v hv
 | [],_::_,_,h,_,_=>by simp [Zab] at h
 | _::_,[],_,h,_,_=>by simp [Zab] at h
theorem Zyk {α:Type} [Inhabited α] {enc:α->List Value} {k:Nat} {w:World} {b n:Nat} {d:Array α} {os:Array Obj} {cur:Array Value} {ty:Nat} (hh:w.heap[b]?=some (.cells cur ty (0,0))):(sortWorldK enc k w b 0 n d os).heap[b]?=some (.cells (putCells id 0 (flatK enc k d) cur) ty (0,0)):=by
 have hb:b < w.heap.size:=(Tbl.1 hh).1;show ((w.heap.modify b (onCells (putCells id 0 (flatK enc k d))))++os)[b]?=_;rw [Array.getElem?_append_left (by simpa using hb),Array.getElem?_modify,if_pos rfl,hh];rfl
theorem Zki {α:Type} [Inhabited α] {enc:α->List Value} {k:Nat} {w:World} {b n j:Nat} {d:Array α} {os:Array Obj} (hj:j < w.heap.size) (hne:j≠b):(sortWorldK enc k w b 0 n d os).heap[j]?=w.heap[j]?:=by
 show ((w.heap.modify b (onCells (putCells id 0 (flatK enc k d))))++os)[j]?=_;rw [Array.getElem?_append_left (by simpa using hj),Array.getElem?_modify,if_neg (fun e=>hne e.symm)]
theorem Zgi {α:Type} [Inhabited α] {enc:α->List Value} {k:Nat} {w:World} {b n:Nat} {d:Array α} {os:Array Obj}:w.heap.size<=(sortWorldK enc k w b 0 n d os).heap.size:=by
 show _<=((w.heap.modify b (onCells (putCells id 0 (flatK enc k d))))++os).size;simp
theorem ZwZ {P:Program} (hP:e1.P=P) {ρ:Go.Shelf.Ren} (L:SlLaysF0.n6 P ρ) {k ty:Nat} (aE:∀ w,(isAgg (ρ.t 24)).run P w=.ok true w) (zE:∀ w,(Go.sizeOf (ρ.t 24)).run P w=.ok k w) (hbody:Zb9 P (ρ.f 6)=true) {g:FuncId} (eg:∀ args w,(callFunc g args).run P w=.ok (.enter g args) w)
  {rows rows':List (List C)} {cf:List C->List C->Int} (hlen:rows.length < 4611686018427387904) (hg:∀ a∈rows,∀ b∈rows,Con e1 g [.agg a,.agg b] [.one (.lit (.int .i64 (cf a b)))])
  (h1:∀ a∈rows,¬ cf a a < 0) (h2:∀ a∈rows,∀ b∈rows,∀ c∈rows,cf a b < 0->cf b c < 0->cf a c < 0) (h3:∀ a∈rows,∀ b∈rows,∀ c∈rows,¬ cf a b < 0->¬ cf b c < 0->¬ cf a c < 0)
  (hu:∀ l:List (List C),l.Perm rows->(∀ (i j:Nat) a b,i < j->l[i]?=some a->l[j]?=some b->¬ cf b a < 0)->l=rows'):ConI e1 (ρ.f 6) ty k rows [.one (.fn g [])] rows' []:=by
 refine ⟨by rw [hP];exact hbody,fun w S v0 vs hS hE hvE hG hbuf hargs=>?_⟩;rw [hP]
 match vs,hargs with
 | [u],hargs =>
  obtain ⟨⟨us,rfl,hus⟩,_⟩:(∃ us:List Value,u=.func (.func g) #[] us.toArray∧Zab w S [] us)∧True:=by simpa [ZaH,DRel,Rep] using hargs
  have hus0:us=[]:=by cases us with
   | nil=>rfl
   | cons _ _=>simp [Zab] at hus
  subst hus0;obtain ⟨h0,hrl,hcase⟩:=hbuf;by_cases hne:rows=[]
  ·subst hne;have hr':rows'=[]:=(hu [] (List.Perm.refl _) (fun i j a b _ h=>by simp at h)).symm;subst hr';have hform:∃ p cap,v0=.slice p 0 cap:=by
    rcases hcase with ⟨_,a,rfl⟩ | ⟨b,cap,cur,rfl,_⟩
    ·exact ⟨a,0,rfl⟩
    ·exact ⟨_,cap,rfl⟩
   obtain ⟨p,cap,hv0⟩:=hform;rw [hv0];refine (AnyF.slices_SortFunc_none (P:=P) L p cap _ w).mono ?_;rintro e w' ⟨rfl,rfl⟩;rw [<- hv0];have hs:(fun b=>S b∨(w'.heap.size<=b∧b < w'.heap.size))=S:=by
    funext b;exact propext ⟨fun h=>h.elim id (fun h=>absurd h.2 om),.inl⟩
   refine ⟨_,rfl,Kept.refl ..,hG,?_,[],rfl,trivial⟩;rw [hs];exact ⟨h0,hrl,hcase⟩
  ·rcases hcase with ⟨e,_⟩ | ⟨b,cap,cur,rfl,hc,hbz,hSb,hh,hle,hmx,hcs,hrows⟩
   ·exact absurd e hne
   have hkr:∀ r,r∈rows->r.length=k:=fun r hr=>(hrl r hr).1;obtain ⟨l,hl,hcell⟩:=Zpj (k:=k) (Q:=fun r=>r∈rows) hkr rows 0 (fun r h=>h) hrows;have hll:l.length=rows.length:=by have:=congrArg List.length hl;rwa [Tay] at this
   obtain ⟨x0,hx0⟩:∃ x,x∈l:=List.exists_mem_of_ne_nil _ (fun e=>hne (Tao (by rw [<- hll,e];rfl)))
   letI:Inhabited (SRow w S (fun r=>r∈rows)):=⟨x0⟩
   have hk:∀ x:SRow w S (fun r=>r∈rows),x.1.2.length=k:=fun x=>by rw [x.2.2.len];exact hkr _ x.2.1
   have h1c:∀ x:SRow w S (fun r=>r∈rows),∀ v∈x.1.2,v.oneCell'=true:=fun x=>Zab.one (hrl _ x.2.1).2 x.2.2;have hH:HoldsK (fun x:SRow w S (fun r=>r∈rows)=>x.1.2) k w b 0 l.toArray:=ZwY hk (fun o=>frozen_of_row w b o cur ty hh) hcell
   have keepV:∀ (m:Nat) (os:Array Obj) (dk:Array (SRow w S (fun r=>r∈rows))) (S2:Nat->Prop),(∀ b,S b->S2 b)->∀ x:SRow w S (fun r=>r∈rows),Zab (sortWorldK (fun x:SRow w S (fun r=>r∈rows)=>x.1.2) k w b 0 m dk os) S2 x.1.1 x.1.2:=fun m os dk S2 hS2 x =>
    Zab.keep2 Zgi (fun b' o hb'=>ZbH (Zki (hS b' hb').1 (fun e:b'=b=>hSb (by rw [<- e];exact hb'))) o) hS2 x.2.2
   have hvb:vblk (.slice (some ⟨b,0,none⟩) rows.length cap)=some b:=by simp only [vblk];rw [if_neg om]
   have keepG:∀ (m:Nat) (os:Array Obj) (dk:Array (SRow w S (fun r=>r∈rows))),e1.G (sortWorldK (fun x:SRow w S (fun r=>r∈rows)=>x.1.2) k w b 0 m dk os):=fun m os dk =>
    ZnO.keep w _ Zgi (fun b' hb'=>Zki (hE b' hb') (fun e=>hvE b hvb (e ▸ hb'))) hG
   have hcmp:CmpLays P g #[] (fun x:SRow w S (fun r=>r∈rows)=>x.1.2) k (fun x y=>cf x.1.1 y.1.1) b 0 l.toArray.size w:=by
    intro m os dk hdk x y
    have hc:=(hg _ x.2.1 _ y.2.1).2 (sortWorldK (fun x:SRow w S (fun r=>r∈rows)=>x.1.2) k w b 0 m dk os) S [.agg x.1.2.toArray,.agg y.1.2.toArray] (fun b' hb'=>⟨Tbd (hS b' hb').1 Zgi,(hS b' hb').2⟩) (fun b' h=>Tbd (hE b' h) Zgi) (keepG m os dk)
     ⟨⟨_,rfl,keepV m os dk S (fun _ h=>h) x⟩,⟨_,rfl,keepV m os dk S (fun _ h=>h) y⟩,trivial⟩
    rw [hP] at hc;refine hc.mono ?_;rintro e w' ⟨v,rfl,hK,hG',hv⟩;have hv:v=.int .i64 (cf x.1.1 y.1.1):=by simpa [retA,ARel,DRel,Rep] using hv
    exact ⟨by rw [hv],ZwX (hK.all1 (keepG m os dk) hG')⟩
   have hO:SWO (ltOf (fun x y:SRow w S (fun r=>r∈rows)=>cf x.1.1 y.1.1)):=by
    refine ⟨fun x=>?_,fun x y z=>?_,fun x y z=>?_⟩ <;> simp only [ltOf,decide_eq_false_iff_not,decide_eq_true_eq]
    ·exact h1 _ x.2.1
    ·exact h2 _ x.2.1 _ y.2.1 _ z.2.1
    ·exact h3 _ x.2.1 _ y.2.1 _ z.2.1
   have hsort:=AnyQ.slices_SortFunc L k aE zE (fun x:SRow w S (fun r=>r∈rows)=>x.1.2) hk h1c (fun x y=>cf x.1.1 y.1.1) hO g #[] b 0 cap l.toArray w eg hcmp hH hbz (by simp only [List.size_toArray];omega);have hlz:l.toArray.size=rows.length:=by simpa using hll
   rw [hlz] at hsort;refine hsort.mono ?_;rintro e w' ⟨rfl,d',n,os,hp,hs,rfl⟩;obtain ⟨hp1,_,hp3⟩:=hp;rw [hlz] at hp1;have hex:∀ a:Array (SRow w S (fun r=>r∈rows)),a.size=rows.length->a.extract 0 rows.length=a:=fun a ha=>by rw [<- ha];simp
   rw [hex d' hp1,hex _ hlz] at hp3;have hperm:(d'.toList.map (fun x=>x.1.1)).Perm rows:=by
    have:=hp3.map (fun x:SRow w S (fun r=>r∈rows)=>x.1.1)
    rwa [show l.toArray.toList=l from rfl,hl] at this
   have hrows':d'.toList.map (fun x=>x.1.1)=rows':=hu _ hperm fun i j a c hij ha hc=>by
    simp only [Tba,Tav] at ha hc;obtain ⟨x,hx,rfl⟩:=ha;obtain ⟨y,hy,rfl⟩:=hc;have hjl:j < rows.length:=by have:=(Tad.1 hy).1;simpa [hp1] using this
    have:=hs i j (Taj _) hij hjl;have ex:d'[i]! = x:=by
     rw [getElem!_pos d' i om];have:=(Tad.1 hx).2;simpa using this
    have ey:d'[j]! = y:=by
     rw [getElem!_pos d' j om];have:=(Tad.1 hy).2;simpa using this
    rw [ex,ey] at this;simpa [ltOf] using this
   have hlr:rows'.length=rows.length:=by rw [<- hrows',Tay,Array.length_toList,hp1]
   have hW:HoldsK (fun x:SRow w S (fun r=>r∈rows)=>x.1.2) k (sortWorldK (fun x:SRow w S (fun r=>r∈rows)=>x.1.2) k w b 0 n d' os) b 0 d':=SWK.holds (d0:=l.toArray) ⟨n,os,rfl⟩ hbz hH (by rw [hp1,hlz]);refine ⟨_,rfl,⟨rfl,rfl,rfl,fun _=>Nat.le_add_right _ _,Zgi,fun j hj hn=>Zki hj (fun e=>hn (.inr (by rw [hvb,e])))⟩,keepG n os d',⟨h0,fun r hr=>?_,.inr ⟨b,cap,_,by rw [hlr],hc,Tbd hbz Zgi,fun hn=>?_,Zyk hh,om,hmx,by simp [putCells,hcs],?_⟩⟩,[],rfl,trivial⟩
   ·rw [<- hrows'] at hr;exact hrl r (hperm.mem_iff.1 hr)
   ·rcases hn with hn | hn
    ·exact hSb hn
    ·omega
   ·rw [<- hrows'];exact Zlq (Q:=fun r=>r∈rows) hkr (keepV n os d' _ (fun b hb=>.inl hb)) d'.toList 0 fun i x hi j u hj=>Zpk hk hW hi hj
end Go.Proofs.YtdnkcjhlelkhhaaGreat
namespace Go.Proofs.YtdnkcjhlelkhhaaGreat
open Go.Shelf
def Zw0:Ren:=⟨fun | 6=>161 | 15=>172 | 14=>171 | 28=>183 | 29=>184 | 20=>166 | 21=>176 | 22=>177 | 23=>178 | 24=>179 | 25=>180 | 26=>181 | 27=>182 | 46=>186 | 47=>187 | 48=>188 | 49=>189 | 50=>190 | 57=>191 | n=>n,fun | 22=>40 | 24=>42 | 25=>179 | 3=>3 | 39=>215 | 0=>0 | 53=>235 | 55=>237 | 4=>4 | 46=>228 | 45=>227 | 50=>232 | 5=>5 | 9=>9 | 66=>238 | 70=>242 | 76=>244 | 77=>245 | n=>n,fun | n=>n⟩
theorem ZA9:Go.Proofs.SlLaysF0.n6 Tryz.prog Zw0:={
 mixed:=by kernel_rfl,
 f6:=⟨Tryz.f161.name,by decide,Tryz.func161.trans (congrArg some (by kernel_rfl))⟩,
 f14:=⟨Tryz.f171.name,by decide,Tryz.func171.trans (congrArg some (by kernel_rfl))⟩,
 f15:=Tryz.func172.trans (congrArg some (by kernel_rfl)),
 f20:=⟨Tryz.f166.name,by decide,Tryz.func166.trans (congrArg some (by kernel_rfl))⟩,
 f21:=⟨Tryz.f176.name,by decide,Tryz.func176.trans (congrArg some (by kernel_rfl))⟩,
 f22:=⟨Tryz.f177.name,by decide,Tryz.func177.trans (congrArg some (by kernel_rfl))⟩,
 f23:=⟨Tryz.f178.name,by decide,Tryz.func178.trans (congrArg some (by kernel_rfl))⟩,
 f24:=⟨Tryz.f179.name,by decide,Tryz.func179.trans (congrArg some (by kernel_rfl))⟩,
 f25:=⟨Tryz.f180.name,by decide,Tryz.func180.trans (congrArg some (by kernel_rfl))⟩,
 f26:=⟨Tryz.f181.name,by decide,Tryz.func181.trans (congrArg some (by kernel_rfl))⟩,
 f27:=⟨Tryz.f182.name,by decide,Tryz.func182.trans (congrArg some (by kernel_rfl))⟩,
 f28:=Tryz.func183.trans (congrArg some (by kernel_rfl)),
 f29:=Tryz.func184.trans (congrArg some (by kernel_rfl)),
 f46:=⟨Tryz.f186.name,by decide,Tryz.func186.trans (congrArg some (by kernel_rfl))⟩,
 f47:=Tryz.func187.trans (congrArg some (by kernel_rfl)),
 f48:=Tryz.func188.trans (congrArg some (by kernel_rfl)),
 f49:=⟨Tryz.f189.name,by decide,Tryz.func189.trans (congrArg some (by kernel_rfl))⟩,
 f50:=⟨Tryz.f190.name,by decide,Tryz.func190.trans (congrArg some (by kernel_rfl))⟩,
 f57:=⟨Tryz.f191.name,by decide,Tryz.func191.trans (congrArg some (by kernel_rfl))⟩,
 t0:=Tryz.underlying0,
 a0:=Tryz.isAgg0,
 z0:=Tryz.sizeOf0,
 v0:=Tryz.zeroValue0,
 t3:=Tryz.underlying3,
 a3:=Tryz.isAgg3,
 z3:=Tryz.sizeOf3,
 v3:=Tryz.zeroValue3,
 t4:=Tryz.underlying4,
 a4:=Tryz.isAgg4,
 z4:=Tryz.sizeOf4,
 v4:=Tryz.zeroValue4,
 t5:=Tryz.underlying5,
 a5:=Tryz.isAgg5,
 z5:=Tryz.sizeOf5,
 v5:=Tryz.zeroValue5,
 t9:=Tryz.underlying9,
 a9:=Tryz.isAgg9,
 z9:=Tryz.sizeOf9,
 v9:=Tryz.zeroValue9,
 t22:=Tryz.underlying40,
 a22:=Tryz.isAgg40,
 z22:=Tryz.sizeOf40,
 v22:=Tryz.zeroValue40,
 t25:=Tryz.underlying179,
 a25:=Tryz.isAgg179,
 z25:=Tryz.sizeOf179,
 v25:=Tryz.zeroValue179,
 t39:=Tryz.underlying215,
 a39:=Tryz.isAgg215,
 z39:=Tryz.sizeOf215,
 v39:=Tryz.zeroValue215,
 t45:=Tryz.underlying227,
 a45:=Tryz.isAgg227,
 z45:=Tryz.sizeOf227,
 v45:=Tryz.zeroValue227,
 t46:=Tryz.underlying228,
 a46:=Tryz.isAgg228,
 z46:=Tryz.sizeOf228,
 v46:=Tryz.zeroValue228,
 t50:=Tryz.underlying232,
 a50:=Tryz.isAgg232,
 z50:=Tryz.sizeOf232,
 v50:=Tryz.zeroValue232,
 t53:=Tryz.underlying235,
 a53:=Tryz.isAgg235,
 z53:=Tryz.sizeOf235,
 v53:=Tryz.zeroValue235,
 t55:=Tryz.underlying237,
 a55:=Tryz.isAgg237,
 z55:=Tryz.sizeOf237,
 v55:=Tryz.zeroValue237,
 t66:=Tryz.underlying238,
 a66:=Tryz.isAgg238,
 z66:=Tryz.sizeOf238,
 v66:=Tryz.zeroValue238,
 t70:=Tryz.underlying242,
 a70:=Tryz.isAgg242,
 z70:=Tryz.sizeOf242,
 v70:=Tryz.zeroValue242,
 t76:=Tryz.underlying244,
 a76:=Tryz.isAgg244,
 z76:=Tryz.sizeOf244,
 v76:=Tryz.zeroValue244,
 t77:=Tryz.underlying245,
 a77:=Tryz.isAgg245,
 z77:=Tryz.sizeOf245,
 v77:=Tryz.zeroValue245 }
end Go.Proofs.YtdnkcjhlelkhhaaGreat
namespace Go.Proofs.YtdnkcjhlelkhhaaGreat
open Go.RowKit
theorem ZAj {f:FuncId} {ty sz:Nat} {rows rows':List (List C)} {args r:List D} (h:ConI e1 f ty sz rows args rows' r):ConI e0 f ty sz rows args rows' r :=
 ⟨h.1,fun w S v0 vs h1 h2 h3 h4 h5 h6=>(h.2 w S v0 vs h1 h2 h3 h4 h5 h6).mono fun en w' ⟨v,k1,k2,k3⟩=>⟨v,k1,⟨k2.os,k2.tape,k2.output,fun d=>d.elim,k2.size,k2.block⟩,k3⟩⟩
theorem Ztd (ts:List Tm) (hl:ts.length<=4000000):ConI e0 161 42 4 (Zaa ts) [.one (.fn 117 [])] (Zaa (ZaB ts)) []:=by
 have hrow:∀ a∈Zaa ts,a=Zad (unT a):=fun a ha=>by
  rw [Zbt] at ha;obtain ⟨t,_,rfl⟩:=Tbi.1 ha;rw [Zsd]
 exact ZAj (ZwZ (P:=Tryz.prog) rfl ZA9 (k:=4) (ty:=42) Tryz.isAgg42 Tryz.sizeOf42 (by kernel_rfl) (g:=117) (enters_of Tryz.func117 (by kernel_rfl) rfl) (rows:=Zaa ts) (rows':=Zaa (ZaB ts)) (cf:=fun a b=>Zam (unT a) (unT b)) (by rw [Zac];omega)
  (fun a ha b hb=>by
   have h:=ZeU (unT a) (unT b)
   rwa [<- hrow a ha,<- hrow b hb] at h)
  (fun a _=>by rw [Zer];omega) (fun a _ b _ c _ h1 h2=>Zfq h1 h2) (fun a _ b _ c _ h1 h2=>by
   rw [Zcs (unT b) (unT a)] at h1;rw [Zcs (unT c) (unT b)] at h2;rw [Zcs (unT c) (unT a)];have:=Zb2 (a:=unT c) (b:=unT b) (c:=unT a) om om;omega)
  (fun l hp hs=>by
   have hmem:∀ a∈l,a=Zad (unT a):=fun a ha=>hrow a (hp.mem_iff.1 ha);have hp2:(l.map unT).Perm ts:=by have:=hp.map unT;rwa [ZAa] at this
   have hup:Up (l.map unT):=by
    refine List.pairwise_iff_getElem.2 fun i j hi hj hij=>?_;simp only [List.getElem_map];simp only [Tay] at hi hj;have:=hs i j l[i] l[j] hij (Taa hi) (Taa hj);rw [Zcs (unT l[j]) (unT l[i])];omega
   have e:=Zjf (Zcl ts) hup ((Za7 ts).trans hp2.symm);rw [e,Zbt,List.map_map]
   conv=>lhs;rw [<- List.map_id l]
   exact List.map_congr_left fun a ha=>hmem a ha))
def RCut (a:Option Addr) (cap ty sz:Nat) (rows:List (List C)) (r:List D) (pm:List Bk):Prop:=r=[.one (.lit (.slice a rows.length cap))]∧pm=[.buf (some (a,cap)) ty sz rows]
theorem Zw1 {m:List (Nat × Bk)} {a:Option Addr} {n cap:Nat}:lenA m (some true) [nrm m (.d (.one (.lit (.slice a n cap))))]=some (.d (.one (.lit (.int .i64 (n:Int))))):=by
 show lenA m (some true) [Zi2 m a n cap (bufK a n cap m)]=_
 cases bufK a n cap m with
 | none=>rfl
 | some k =>
  show lenA m (some true) [nrmB a n cap k (gm m k)]=_
  cases hg:gm m k with
  | none=>rfl
  | some bk =>
   cases bk with
   | var o cs=>rfl
   | set E G=>rfl
   | buf o ty sz rows =>
    cases o with
    | none=>rfl
    | some q =>
     obtain ⟨a',cap'⟩:=q;simp only [nrmB];split
     ·rename_i h;show lenS (bufA (gm m k))=_;rw [hg,h.2.1];rfl
     ·rfl
theorem Zw2 {m:List (Nat × Bk)} {a:Option Addr} {l h cap sz:Nat}:lenA m (some true) [nrm m (.d (.one (.lit (sliced a l h cap sz))))]=some (.d (.one (.lit (.int .i64 ((h - l:Nat):Int))))):=Zw1
theorem Zte (l:List Tm) (k:Nat) (t:Tm):(Zaa l).set k (Zad t)=Zaa (l.set k t):=by rw [Zbt,Zbt,List.map_set]
theorem Zw3 {α:Type} {l:List α} {i:Nat} {x:α} (h:i < l.length):(l.set i x).take (i+1)=l.take i++[x]:=by
 rw [List.take_add_one,List.take_set_of_le (Tai _)];simp [h]
theorem Zsg {l l':List Tm} {m:Nat} (h:l.drop m=l'.drop m) (i:Nat):l[m+i]?=l'[m+i]?:=by
 rw [<- Tbb,<- Tbb,h]
theorem Zyl {ts:List Tm} (h:ts.length < 2):ddT none ts=ts:=by
 match ts,h with
 | [],_=>rfl
 | [x],_=>rfl
theorem Zpl (ts:List Tm) (hl:ts.length<=4000000) (a:Option Addr) (cap:Nat):ConP e0 162 [.one (.lit (.slice a ts.length cap)),.one (.fn 146 [])] [.buf (some (a,cap)) 42 4 (Zaa ts)] (RCut a cap 42 4 (Zaa (ddT none ts))):=by
 refine gIP (ts:=[.slot 4]) [1000] 562984581629171 Tryz.func162 ?_;by_cases h2:ts.length < 2
 ·have q1:=lT ts.length 2;refine fG (ai @q1 @tmz) ?_;rw [Zyl h2];exact (have F:=Zac;gTP (R:=RCut a cap 42 4 (Zaa ts)) [1000] ⟨by rw [Zac],rfl⟩)
 have q1:=lF ts.length 2;refine fG (ai @q1 @tmz) ?_;clear q1;obtain ⟨t0,ht0⟩:∃ t,ts[0]?=some t:=⟨_,Taa om⟩;have F:=@tmz;refine gL (ι:=Nat) [4,5,6,7,15,28,35,49] [] (fun x=>[(5,.d (.one (.lit (.int .i64 (x:Int)))))]) (fun x=>[]) (fun x=>1<=x∧x<=ts.length∧ddT none (ts.take x)=ts.take x) (fun x=>ts.length - x) (1) (⟨Tai _,om,by rw [Zz9 ht0];cases ts with | nil=>simp at ht0 | cons y ys=>simp at ht0;simp [ht0]⟩) (fun x hx=>?_);clear F
 obtain ⟨hx1,hxn,hxd⟩:=hx;by_cases hlt:x < ts.length;rotate_left
 ·obtain rfl:x=ts.length:=by omega
  have q1:=lF ts.length ts.length;rw [Tap] at hxd;refine fG (ai @q1 @tmz) ?_;rw [hxd];exact (have F:=Zac;gTP (R:=RCut a cap 42 4 (Zaa ts)) [1000] ⟨by rw [Zac],rfl⟩)
 obtain ⟨u,hu⟩:∃ t,ts[x]?=some t:=⟨_,Taa hlt⟩;obtain ⟨z,rfl⟩:∃ z,x=z+1:=⟨x - 1,om⟩;obtain ⟨v,hv⟩:∃ t,ts[z]?=some t:=⟨_,Taa om⟩;have q1:=lT (z+1:Nat) ts.length;have w1:IntKind.i64.wrap (((z+1:Nat):Int) - 1)=(z:Int):=Za6 om om om;have w2:IntKind.i64.wrap (((z+1:Nat):Int)+1)=((z+1+1:Nat):Int):=Za6 om om om;have hz1:z+1 < ts.length:=hlt;have hz0:z < ts.length:=om;have hst:=ZoX hu hv;generalize hxx:z+1=x at *
 rw [show z+2=x+1 by omega] at hst;refine fB (ai @q1 @tmz) ?_;refine fC (aj8 @q1 @tmz @hu @hv @w1 @hz1 @hz0 @Zac) (Zgz u v) ?_;refine fR (ai @q1 @tmz) ?_;by_cases h0:Zam u v=0;rotate_left
 ·have q3:decide (Zam u v=0)=false:=decide_eq_false h0;rw [if_neg h0,hxd] at hst;have F:=ai @q3 @w2;refine gG ?_;exact ⟨x+1,⟨om,hlt,by rw [hst];simp [List.take_add_one,hu]⟩,gw,gw,om⟩
 have q3:decide (Zam u v=0)=true:=decide_eq_true h0;rw [if_pos h0,hxd] at hst;refine fN 7 (ai @q3 @tmz) ?_;refine gB ?_;have F:=ai @q3 @tmz;refine gP 2 ?_;clear F;have F:=Zac;refine gSub 1000 x ts.length ⟨om,by rw [Zac];exact Tai _⟩ ?_;clear F;refine fR @tmz ?_;refine fG @tmz ?_;have F:=@tmz;refine gL (ι:=Nat × Nat × List Tm) [5,7,35,49] [1000] (fun y=>[(7,.d (.one (.lit (.int .i64 (y.1:Int))))),(5,.d (.one (.lit (.int .i64 (y.2.1:Int)))))]) (fun y=>[(1000,.buf (some (a,cap)) 42 4 (Zaa y.2.2))]) (fun y=>1<=y.1∧x+y.1<=ts.length∧y.2.1+1<=x+y.1∧y.2.2.length=ts.length∧y.2.2.take y.2.1=ddT none (ts.take (x+y.1))∧y.2.2.drop (x+y.1 - 1)=ts.drop (x+y.1 - 1)) (fun y=>ts.length - y.1) ((1,x,ts)) (⟨Tai _,hlt,Tai _,rfl,hst.symm,rfl⟩) (fun y hy=>?_);clear F
 obtain ⟨j,k,us⟩:=y;obtain ⟨h1,h2',h3,h4,h5,h6⟩:=hy;simp only at h1 h2' h3 h4 h5 h6;dsimp only;have hn4:ts.length=us.length:=h4.symm;by_cases hj:j < ts.length - x
 ·obtain ⟨i,rfl⟩:∃ i,j=i+1:=⟨j - 1,om⟩;obtain ⟨u1,hu1⟩:∃ t,ts[x+i+1]?=some t:=⟨_,Taa om⟩;obtain ⟨v1,hv1⟩:∃ t,ts[x+i]?=some t:=⟨_,Taa om⟩;have e1:us[x+(i+1)]?=some u1:=by
   rw [<- hu1,show x+(i+1) - 1=x+i by omega] at *;exact Zsg h6 1
  have e2:us[x+i]?=some v1:=by
   rw [<- hv1,show x+(i+1) - 1=x+i by omega] at *;exact Zsg h6 0
  have q4:=lT (i+1:Nat) (ts.length - x:Nat);have w3:IntKind.i64.wrap (((i+1:Nat):Int) - 1)=(i:Int):=Za6 om om om;have w4:IntKind.i64.wrap (((i+1:Nat):Int)+1)=((i+1+1:Nat):Int):=Za6 om om om;have hst2:=ZoX hu1 hv1;rw [show x+i+2=x+(i+1+1) by omega,show x+i+1=x+(i+1) by omega,<- h5] at hst2;refine fN 11 (aj3 @q4 @Zw2 @tmz) ?_;refine gB ?_;have F:=ai @q4 @tmz;refine gP 3 ?_;clear F;have F:=Zac;refine ZwN (l:=x) (h:=ts.length) (rows:=Zaa us) 1000 (i+1) ⟨om,by rw [Zac];omega⟩ ?_
  clear F;have F:=aj3 @tmz @e1 @w3;refine gP 4 ?_;clear F;have F:=Zac;refine ZwN (l:=x) (h:=ts.length) (rows:=Zaa us) 1000 i ⟨om,by rw [Zac];omega⟩ ?_;clear F;refine fC (ai @tmz @e2) (Zgz u1 v1) ?_;refine fR @tmz ?_;by_cases h7:Zam u1 v1=0
  ·have q5:decide (Zam u1 v1=0)=true:=decide_eq_true h7;rw [if_pos h7] at hst2;have F:=ai @q5 @w4;refine gG ?_;exact ⟨(i+1+1,k,us),⟨by dsimp only;omega,by dsimp only;omega,by dsimp only;omega,h4,hst2.symm,by rw [show x+(i+1+1) - 1=x+(i+1) - 1+1 by omega,<- List.drop_drop,<- List.drop_drop,h6]⟩,gw,gw,om⟩
  ·have q5:decide (Zam u1 v1=0)=false:=decide_eq_false h7;rw [if_neg h7] at hst2;obtain ⟨ok,hok⟩:∃ t,us[k]?=some t:=⟨_,Taa om⟩;have w5:IntKind.i64.wrap ((k:Int)+1)=((k+1:Nat):Int):=Za6 om om om;have hkl:k < us.length:=om;refine fN 12 (ai @q5 @tmz) ?_;refine gB ?_;have F:=ai @q5 @tmz;refine gP 4 ?_;clear F;have F:=Zac;refine ZA7 (l:=x) (h:=ts.length) (rows:=Zaa us) 1000 (i+1) ⟨om,by rw [Zac];omega⟩ ?_
   clear F;refine fR (aj6 @tmz @e1 @hok @hn4 @hkl @Zte) ?_;have F:=aj3 @w4 @w5 @hn4;refine gG ?_;exact ⟨(i+1+1,k+1,us.set k u1),⟨by dsimp only;omega,by dsimp only;omega,by dsimp only;omega,by rw [Taz];exact h4,by rw [hst2,Zw3 hkl],by rw [List.drop_set_of_lt om,show x+(i+1+1) - 1=x+(i+1) - 1+1 by omega,<- List.drop_drop,<- List.drop_drop,h6]⟩,gw,gw,om⟩
 ·have q4:=lF j (ts.length - x:Nat);have hjn:x+j=ts.length:=om;rw [hjn,Tap] at h5;have hkl:k < us.length:=om;refine fN 14 (aj3 @q4 @Zw2 @tmz) ?_;refine gB ?_;have F:=ai @q4 @tmz;refine gP 2 ?_;clear F;have F:=ai Zac hn4;refine gSub 1000 k us.length ⟨om,by rw [Zac];exact Tai _⟩ ?_;rw [show us.length=(Zaa us).length by rw [Zac]];refine ZAK 1000 (by rw [Zac];exact hkl) ?_;clear F;have hRl:((Zaa us).take k++List.replicate ((Zaa us).length - k) [C.lit (Value.int IntKind.i64 0),C.lit (Value.string ByteArray.empty),C.lit (Value.int IntKind.i64 0),C.sl []]).length=us.length:=by simp [Zac];omega
  have hRt:((Zaa us).take k++List.replicate ((Zaa us).length - k) [C.lit (Value.int IntKind.i64 0),C.lit (Value.string ByteArray.empty),C.lit (Value.int IntKind.i64 0),C.sl []]).take k=Zaa (ddT none ts):=by
   rw [List.take_append_of_le_length (by simp [Zac];omega),List.take_take,Nat.min_self,ZdY,h5]
  generalize (Zaa us).take k++List.replicate ((Zaa us).length - k) [C.lit (Value.int IntKind.i64 0),C.lit (Value.string ByteArray.empty),C.lit (Value.int IntKind.i64 0),C.sl []]=R at hRl hRt ⊢;refine fR @tmz ?_;refine fN 15 (ai @q4 @tmz) ?_;refine gB ?_;have F:=ai @q4 @tmz;refine gP 2 ?_;clear F;have F:=ai hRl hn4;refine gSub 1000 0 k ⟨om,by rw [hRl];omega⟩ ?_;clear F;rw [ZjR];refine fR @tmz ?_;refine fG @tmz ?_
  refine pE [1000] [1000] (ZwM k (by rw [hRl];omega)) ?_;rw [hRt];have hk2:k=(Zaa (ddT none ts)).length:=by rw [Zac,<- h5,Taw];omega
  exact (have F:=Zac;gTP (R:=RCut a cap 42 4 (Zaa (ddT none ts))) [1000] ⟨by rw [<- hk2],rfl⟩)
theorem Zg4 (ts:List Tm):(ZaB ts).length=ts.length:=(Za7 ts).length_eq
theorem ZAk (ts:List Tm):ddT none (ZaB ts)=Zdm ts:=by rw [Zx4 (Zcl ts),Zqh (Za7 ts)]
theorem Zno (ts:List Tm) (hl:ts.length<=4000000) (a:Option Addr) (cap:Nat):ConP e0 143 [.one (.lit (.slice a ts.length cap))] [.buf (some (a,cap)) 42 4 (Zaa ts)] (RCut a cap 42 4 (Zaa (Zdm ts))):=by
 have hc:=Zpl (ZaB ts) (by rw [Zg4];exact hl) a cap;rw [Zg4,ZAk] at hc;refine gIP (ts:=[.slot 2]) [1000] 5 Tryz.func143 ?_;refine fB @tmz ?_;have F:=@tmz;refine gCI (Ztd ts hl) (by rw [Zac,Zac,Zg4]) ?_;clear F;refine fR @tmz ?_;refine fB @tmz ?_;have F:=@tmz;refine gCP [1000] [1000] (hc) ?_;clear F;rintro r pm ⟨rfl,rfl⟩;simp only [setA,retA,zipM,Taf,Tah];refine fR @tmz ?_;refine fG @tmz ?_;exact (have F:=Zac;gTP (R:=RCut a cap 42 4 (Zaa (Zdm ts))) [1000] ⟨rfl,rfl⟩)
theorem Ztf {t x:Tm} {ts:List Tm} {i:Nat} (hx:ts[i]?=some x) (h:Zbm t ts=ts.take i++Zbm t (ts.drop i)) (hc:Zam x t < 0):Zbm t ts=ts.take (i+1)++Zbm t (ts.drop (i+1)):=by
 obtain ⟨hl,e⟩:=Tad.1 hx;rw [h,List.drop_eq_getElem_cons hl,e,Zbm,if_pos hc];simp [List.take_add_one,hx]
theorem Ztg {t x:Tm} {ts:List Tm} {i:Nat} (hx:ts[i]?=some x) (h:Zbm t ts=ts.take i++Zbm t (ts.drop i)) (hc:Zam x t=0):Zbm t ts=ts:=by
 obtain ⟨hl,e⟩:=Tad.1 hx;rw [h,List.drop_eq_getElem_cons hl,e,Zbm,if_neg om,if_pos hc,<- e,<- List.drop_eq_getElem_cons hl,Tbm]
theorem Zth {t x:Tm} {ts:List Tm} {i:Nat} (hx:ts[i]?=some x) (h:Zbm t ts=ts.take i++Zbm t (ts.drop i)) (h1:¬ Zam x t < 0) (h2:¬ Zam x t=0):Zbm t ts=ts.take i++[t]++ts.drop i:=by
 obtain ⟨hl,e⟩:=Tad.1 hx;rw [h,List.drop_eq_getElem_cons hl,e,Zbm,if_neg h1,if_neg h2];simp
theorem Zw4 {t:Tm} {ts:List Tm} {i:Nat} (hi:ts.length<=i) (h:Zbm t ts=ts.take i++Zbm t (ts.drop i)):Zbm t ts=ts.take i++[t]++ts.drop i:=by
 rw [h,List.drop_eq_nil_of_le hi,Zbm];simp
theorem Zpm (ts:List Tm) (t:Tm) (hts:ZaG ts) (ht:okTm t) (hl:ts.length<=8000000):Con e0 158 [.one (.sl (Zaa ts)),.agg (Zad t)] [.one (.sl (Zaa (Zbm t ts)))]:=by
 refine gI (ts:=[.slot 4]) 8590459003 Tryz.func158 ?_;refine fG @tmz ?_;have F:=@tmz;refine gL (ι:=Nat) [5,19] [] (fun x=>[(5,.d (.one (.lit (.int .i64 (x:Int)))))]) (fun x=>[]) (fun x=>x<=ts.length∧Zbm t ts=ts.take x++Zbm t (ts.drop x)) (fun x=>ts.length - x) (0) (⟨Taj _,rfl⟩) (fun x hx=>?_);clear F;obtain ⟨hi,hf⟩:=hx;by_cases hlt:x < ts.length
 ·obtain ⟨a,ha⟩:∃ n,ts[x]?=some n:=⟨_,Taa hlt⟩;have q1:=lT x ts.length;have q4:IntKind.i64.wrap ((x:Int)+1)=(x:Int)+1:=IntWalk.i64_in _ om;have hcmp:=Zfy (hts.mem (Tac ha)) ht;refine fB (ai @q1 @tmz) ?_;refine fC (aj3 @q1 @tmz @ha) (hcmp) ?_;by_cases hc:Zam a t < 0
  ·have q2:(Zam a t < 0)=True:=eq_true hc;refine fR (aj3 @q1 @q2 @tmz) ?_;have hs:=Ztf ha hf hc;have F:=ai @q4 @q2;refine gG ?_;exact ⟨x+1,⟨hlt,hs⟩,gw,gw,om⟩
  ·have q2:(Zam a t < 0)=False:=eq_false hc;refine fR (aj3 @q1 @q2 @tmz) ?_;refine fB (aj3 @q1 @q2 @tmz) ?_;refine fC (aj3 @q1 @tmz @ha) (Zf7 (hts.mem (Tac ha)) ht) ?_;by_cases h0:Zam a t=0
   ·have q3:decide (Zam a t=0)=true:=decide_eq_true h0;refine fR (aj3 @q1 @q3 @tmz) ?_;rw [Ztg ha hf h0];exact fD (ai @q3 @tmz)
   ·have q3:decide (Zam a t=0)=false:=decide_eq_false h0;refine fR (aj3 @q1 @q3 @tmz) ?_;have hins:=Zth ha hf hc h0;refine fN 6 (ai @q3 @tmz) ?_;rw [hins,ZbK,ZbK,Zes,<- ZdY,<- ZeH];have hxl:((x:Int)<=(ts.length:Int))=True:=eq_true om;have r1:ZaC 4 ((Zaa ts).take x)=true:=by rw [ZdY];exact Zco _
    have r2:ZaC 4 ((Zaa ts).drop x)=true:=by rw [ZeH];exact Zco _
    have n1:((Zaa ts).take x).length<=8000000:=by rw [Taw,Zac];omega
    have n2:((Zaa ts).drop x).length<=8000000:=by rw [Tax,Zac];omega
    have n3:((Zaa ts).take x).length+1<=maxApp:=by unfold maxApp;omega
    have n4:((Zaa ts).take x).length+1+((Zaa ts).drop x).length<=maxApp:=by unfold maxApp;omega
    have F:=aj6 r1 r2 hxl n3 n4 tmz;refine gA 7 4 ?_ (.inl rfl) ?_
    ·show 0+_<=maxApp;unfold maxApp;omega
    clear F;refine fR (aj6 @r1 @r2 @hxl @n3 @n4 @tmz) ?_;have tkA:(Zaa ts).take ts.length=Zaa ts:=by rw [<- Zac ts,Tap]
    have n5:((Zaa ts).take x++[Zad t]).length+((Zaa ts).drop x).length<=maxApp:=by simp only [Tae,Tag,Tak];omega
    have hll:((ts.length:Int)<=(ts.length:Int))=True:=eq_true (Int.le_refl _);have F:=aj9 @r1 @r2 @hxl @n3 @n4 @n5 @hll @tkA @tmz;refine gG ?_;exact gTz [4]
 ·have q1:=lF x ts.length;have hins:=Zw4 om hf;refine fN 6 (ai @q1 @tmz) ?_;rw [hins,ZbK,ZbK,Zes,<- ZdY,<- ZeH];have hxl:((x:Int)<=(ts.length:Int))=True:=eq_true om;have r1:ZaC 4 ((Zaa ts).take x)=true:=by rw [ZdY];exact Zco _
  have r2:ZaC 4 ((Zaa ts).drop x)=true:=by rw [ZeH];exact Zco _
  have n1:((Zaa ts).take x).length<=8000000:=by rw [Taw,Zac];omega
  have n2:((Zaa ts).drop x).length<=8000000:=by rw [Tax,Zac];omega
  have n3:((Zaa ts).take x).length+1<=maxApp:=by unfold maxApp;omega
  have n4:((Zaa ts).take x).length+1+((Zaa ts).drop x).length<=maxApp:=by unfold maxApp;omega
  have F:=aj6 r1 r2 hxl n3 n4 tmz;refine gA 7 4 ?_ (.inl rfl) ?_
  ·show 0+_<=maxApp;unfold maxApp;omega
  clear F;refine fR (aj6 @r1 @r2 @hxl @n3 @n4 @tmz) ?_;have tkA:(Zaa ts).take ts.length=Zaa ts:=by rw [<- Zac ts,Tap]
  have n5:((Zaa ts).take x++[Zad t]).length+((Zaa ts).drop x).length<=maxApp:=by simp only [Tae,Tag,Tak];omega
  have hll:((ts.length:Int)<=(ts.length:Int))=True:=eq_true (Int.le_refl _);have F:=aj9 @r1 @r2 @hxl @n3 @n4 @n5 @hll @tkA @tmz;refine gG ?_;exact gTz [4]
def colT (l:List Tm) (r:List Tm):List Tm:=l.foldl (fun r t=>Zbm t r) r
theorem colT_nil0 {ts:List Tm}:colT (Zba []) ts=ts:=by simp [colT,Zba]
theorem Zym (a b r:List Tm):colT (a++b) r=colT b (colT a r):=by unfold colT;rw [List.foldl_append]
theorem Zm2 (t:Tm):∀ l:List Tm,(Zbm t l).length<=l.length+1
 | []=>by simp [Zbm]
 | x::xs=>by
  have:=Zm2 t xs;simp only [Zbm];split
  ·simp only [Tag];omega
  ·split <;> simp only [Tag] <;> omega
theorem Zkj:∀ (l r:List Tm),(colT l r).length<=r.length+l.length
 | [],r=>by simp [colT]
 | x::xs,r=>by
  have h1:=Zkj xs (Zbm x r);have h2:=Zm2 x r;simp only [colT,List.foldl_cons,Tag] at h1 ⊢;omega
theorem Zpn {t:Tm} (ht:okTm t):∀ {l:List Tm},ZaG l->ZaG (Zbm t l)
 | [],_=>by simp only [Zbm,ZaG];exact ⟨ht,trivial⟩
 | x::xs,h=>by
  simp only [ZaG] at h;simp only [Zbm];split
  ·simp only [ZaG];exact ⟨h.1,Zpn ht h.2⟩
  ·split
   ·simp only [ZaG];exact h
   ·simp only [ZaG];exact ⟨ht,h⟩
theorem Zmb:∀ {l r:List Tm},ZaG l->ZaG r->ZaG (colT l r)
 | [],r,_,h=>h
 | x::xs,r,h1,h2=>by
  simp only [ZaG] at h1;exact Zmb (l:=xs) (r:=Zbm x r) h1.2 (Zpn h1.1 h2)
theorem Zm3:∀ {a b:List Tm},ZaG a->ZaG b->ZaG (a++b)
 | [],_,_,h=>h
 | x::xs,b,h1,h2=>by
  simp only [ZaG] at h1;simp only [Taf,ZaG];exact ⟨h1.1,Zm3 h1.2 h2⟩
mutual
theorem Zkk:∀ t:Tm,(Zbo t).length<=1+bulkRow (Zad t)
 | .mk op nm so args=>by
  have:=ZiQ args;simp only [Zbo,Zad,bulkRow,ZaU,Zac];split
  ·simp
  ·omega
theorem ZiQ:∀ ts:List Tm,(Zba ts).length<=ts.length+bulkRows (Zaa ts)
 | []=>by simp [Zba]
 | t::ts=>by
  have h1:=Zkk t;have h2:=ZiQ ts;simp only [Zba,Zaa,bulkRows,Tae,Tag];omega
end
theorem Zw5 {t:Tm} (h:bulkRow (Zad t)<=1048576):(Zbo t).length<=1048576:=by
 obtain ⟨op,nm,so,args⟩:=t;have:=ZiQ args;simp only [Zbo,Zad,bulkRow,ZaU,Zac] at h ⊢;split
 ·simp
 ·omega
theorem ZiR:∀ (l:List Tm) (t:Tm),Zba (l++[t])=Zba l++Zbo t
 | [],t=>by simp [Zba]
 | x::xs,t=>by simp [Zba,ZiR xs t]
theorem ZgE {l:List Tm} {i:Nat} {t:Tm} (h:l[i]?=some t):Zba (l.take (i+1))=Zba (l.take i)++Zbo t:=by
 rw [show l.take (i+1)=l.take i++[t] by simp [List.take_add_one,h],ZiR]
theorem ZhT:∀ (l:List Tm) (i:Nat),(Zba (l.take i)).length<=(Zba l).length
 | [],i=>by simp [Zba]
 | x::xs,0=>by simp [Zba]
 | x::xs,i+1=>by have:=ZhT xs i;simp only [Tbc,Zba,Tae];omega
def visL (ts args:List Tm) (i:Nat):List Tm:=ts++Zba (args.take i)
theorem ZAL (ts args:List Tm):visL ts args 0=ts:=by simp [visL,Zba]
theorem Zw6 {ts args:List Tm} {i:Nat} {b:Tm} (h:args[i]?=some b):visL ts args (i+1)=visL ts args i++Zbo b:=by
 unfold visL;rw [ZgE h,Tbf]
theorem Zyn (ts args:List Tm):visL ts args args.length=ts++Zba args:=by unfold visL;rw [Tap]
theorem ktF:ZaL Tryz.prog 202=some .one:=by kernel_rfl
theorem ztF:ZaM Tryz.prog 202=some 1:=by kernel_rfl
theorem otF:ZaI Tryz.prog 202=some [.lit .nilFunc]:=by kernel_rfl
theorem ZAM:Zai (.lit .nilFunc)=true:=rfl
theorem okFn {f:FuncId} {cs:List C}:Zai (.fn f cs)=true:=rfl
theorem ZjT:Zaa []=[]:=by simp [Zaa]
theorem gTPn {X:Prop} {P:Program} {ts:List RS} {R:List D->List Bk->Prop} {σ:St} {r:List D} {pm:List Bk} (ks:List Nat) (hR:R r pm) (hx:ZkI P ts R .normal σ->X:=by first | exact fun h=>h | exact fun h=>⟨_,Wk.refl _,h⟩) (hr:resD P σ ts=some r:=by exact sfy) (hg:getM σ.m ks=some pm:=by exact sny) (hn:ks.Nodup:=by decide) (hp:pm.all pinned=true:=by exact sny):X :=
 hx ⟨r,ks,pm,hg,hn,hp,hR,Zgp hr⟩
def ptr0 (b:Nat):Value:=.pointer (some ⟨b,0,none⟩)
def RVis (bo bv:Nat) (f:FuncId) (ty:Nat) (ts:List Tm) (r:List D) (pm:List Bk):Prop:=∃ a cap,r=[]∧pm=[.var (some bo) [.lit (.slice a ts.length cap)],.buf (some (a,cap)) ty 4 (Zaa ts),.var (some bv) [.fn f [.lit (ptr0 bo),.lit (ptr0 bv)]]]
theorem Znp (t:Tm) (ts:List Tm) (a:Option Addr) (cap bo bv:Nat) (hne:bo≠bv) (hb:bulkRow (Zad t)<=1048576) (hl:ts.length+(Zbo t).length<=4000000)
  (h:∀ x∈t.args,∀ (us:List Tm) (a:Option Addr) (cap:Nat),us.length+(Zbo x).length<=4000000->ConP e0 142 [.agg (Zad x),.one (.lit (ptr0 bo)),.one (.lit (ptr0 bv))] [.var (some bo) [.lit (.slice a us.length cap)],.buf (some (a,cap)) 42 4 (Zaa us),.var (some bv) [.fn 142 [.lit (ptr0 bo),.lit (ptr0 bv)]]] (RVis bo bv 142 42 (us++Zbo x))) :
  ConP e0 142 [.agg (Zad t),.one (.lit (ptr0 bo)),.one (.lit (ptr0 bv))] [.var (some bo) [.lit (.slice a ts.length cap)],.buf (some (a,cap)) 42 4 (Zaa ts),.var (some bv) [.fn 142 [.lit (ptr0 bo),.lit (ptr0 bv)]]] (RVis bo bv 142 42 (ts++Zbo t)):=by
 obtain ⟨op,nm,so,args⟩:=t;have hc:Zad (.mk op nm so args)=[.lit (.int .i64 op),.lit (.string nm),.lit (.int .i64 so),.sl (Zaa args)]:=by simp only [Zad]
 have hn1:(bo=bv)=False:=eq_false hne;have hn2:(bv=bo)=False:=eq_false (fun e=>hne e.symm);simp only [Tm.args] at h;simp only [Zad,bulkRow,ZaU,Zac] at hb;simp only [ptr0] at h ⊢;refine gIP (ts:=[]) [1001,1000,1002] 15728943 Tryz.func142 ?_;by_cases ho:op=-1
 ·have q1:(op=-1)=True:=eq_true ho;have e1:Zbo (.mk op nm so args)=[.mk (-1) nm so []]:=by simp only [Zbo,if_pos ho]
  rw [e1] at hl ⊢;simp only [Tag,Tak,Nat.zero_add] at hl;have hm:ts.length+1<=maxApp:=by unfold maxApp;omega
  have c1:Zad (.mk (-1) nm so [])=[.lit (.int .i64 (-1)),.lit (.string nm),.lit (.int .i64 so),.sl []]:=by simp only [Zad,Zaa]
  refine fN 2 (aj3 @hc @q1 @tmz) ?_
  have hR:∀ (a2:Option Addr) (cap2:Nat),RVis bo bv 142 42 (ts++[.mk (-1) nm so []]) [] [.var (some bo) [.lit (.slice a2 (ts.length+1) cap2)],.buf (some (a2,cap2)) 42 4 (Zaa ts++[[.lit (.int .i64 (-1)),.lit (.string nm),.lit (.int .i64 so),.sl []]]),.var (some bv) [.fn 142 [.lit (.pointer (some ⟨bo,0,none⟩)),.lit (.pointer (some ⟨bv,0,none⟩))]]]:=fun a2 cap2=>⟨a2,cap2,rfl,by
   rw [show Zaa (ts++[.mk (-1) nm so []])=Zaa ts++[[.lit (.int .i64 (-1)),.lit (.string nm),.lit (.int .i64 so),.sl []]] by rw [Zbt,Tbr,<- Zbt,Tbq,List.map_nil,c1],Tae];rfl⟩
  have a1:(ts.length < ts.length+1)=True:=eq_true (Tan _);have a2:∀ Z:List C,(Zaa ts++[Z])[ts.length]?=some Z:=fun Z=>by rw [Tbo (by rw [Zac];exact Tai _),Zac,Nat.sub_self];rfl
  have a3:∀ Z X:List C,(Zaa ts++[Z]).set ts.length X=Zaa ts++[X]:=fun Z X=>by rw [List.set_append_right _ _ (by rw [Zac];exact Tai _),Zac,Nat.sub_self];rfl
  have F:=aj10 a1 a2 a3 hc q1 @Zw1 hm hn1 hn2 tmz;refine ZA2 8 ?_;refine gT1 8 ?_;refine gS 17 fun a2 cap2=>?_;refine ZbP ?_;refine gT2 9 11 ?_ ?_
  ·refine ZbP ?_;refine gT2 10 11 ?_ ?_
   ·refine ZbP ?_;refine gT1 11 ?_;refine ZbP ?_;refine gT0 ?_
    (refine wkI ?_;(refine fG @tmz ?_);exact (have F:=tmz;gTP [1001,17,1002] (hR a2 cap2)))
   ·refine ZbP ?_;refine gT1 10 ?_;refine ZbP ?_;refine gT0 ?_
    (refine wkI ?_;(refine fG @tmz ?_);exact (have F:=tmz;gTP [1001,17,1002] (hR a2 cap2)))
  ·refine ZbP ?_;refine gT1 9 ?_;refine ZbP ?_;refine gT1 10 ?_;refine ZbP ?_;refine gT0 ?_
   (refine wkI ?_;(refine fG @tmz ?_);exact (have F:=tmz;gTP [1001,17,1002] (hR a2 cap2)))
 ·have q1:(op=-1)=False:=eq_false ho;have e1:Zbo (.mk op nm so args)=Zba args:=by simp only [Zbo,if_neg ho]
  rw [e1] at hl ⊢;have hal:args.length<=1048576:=om;refine fG (aj3 @hc @q1 @tmz) ?_;have F:=@ZAL;refine gL (ι:=Nat × Option Addr × Nat) [5,22,23] [1000,1001,1002] (fun x=>[(22,.d (.one (.lit (.int .i64 (x.1:Int)))))]) (fun x=>[(1001,.var (some bo) [.lit (.slice x.2.1 (visL ts args x.1).length x.2.2)]),(1000,.buf (some (x.2.1,x.2.2)) 42 4 (Zaa (visL ts args x.1))),(1002,.var (some bv) [.fn 142 [.lit (.pointer (some ⟨bo,0,none⟩)),.lit (.pointer (some ⟨bv,0,none⟩))]])]) (fun x=>x.1<=args.length) (fun x=>args.length - x.1) ((0,a,cap)) (Taj _) (fun x hx=>?_);clear F
  obtain ⟨i,a2,cap2⟩:=x;simp only at hx;dsimp only;by_cases hlt:i < args.length
  ·obtain ⟨b,hg⟩:∃ b,args[i]?=some b:=⟨_,Taa hlt⟩;have q2:=lT i args.length;have q4:IntKind.i64.wrap ((i:Int)+1)=(i:Int)+1:=IntWalk.i64_in _ om;have hvt:=ZgE hg;have hle:=ZhT args (i+1);rw [hvt,Tae] at hle;have hcon:=h b (Tac hg) (visL ts args i) a2 cap2 (by unfold visL;rw [Tae];omega);rw [<- Zw6 hg] at hcon;refine fB (aj6 @q2 @hc @Zac @ZbD @hg @tmz) ?_;have F:=aj4 @ktF @hn1 @hn2 @tmz;refine gCP [1001,1000,1002] [1001,1000,1002] (hcon) ?_;clear F
   rintro r pm ⟨a3,cap3,rfl,rfl⟩;simp only [ptr0,setA,retA,zipM,Taf,Tah];refine fR @tmz ?_;have F:=@q4;refine gG ?_;exact ⟨(i+1,a3,cap3),hlt,gw,gw,om⟩
  ·obtain rfl:i=args.length:=by omega
   have q2:=lF args.length args.length;refine fG @q2 ?_;have hR:RVis bo bv 142 42 (ts++Zba args) [] [.var (some bo) [.lit (.slice a2 (visL ts args args.length).length cap2)],.buf (some (a2,cap2)) 42 4 (Zaa (visL ts args args.length)),.var (some bv) [.fn 142 [.lit (.pointer (some ⟨bo,0,none⟩)),.lit (.pointer (some ⟨bv,0,none⟩))]]]:=by
    rw [<- Zyn];exact ⟨a2,cap2,rfl,rfl⟩
   exact (have F:=tmz;gTPn [1001,1000,1002] hR)
theorem Zpo (bo bv:Nat) (hne:bo≠bv) (n:Nat):∀ (t:Tm),Zbe (Zad t) < n->bulkRow (Zad t)<=1048576->∀ (ts:List Tm) (a:Option Addr) (cap:Nat),ts.length+(Zbo t).length<=4000000->ConP e0 142 [.agg (Zad t),.one (.lit (ptr0 bo)),.one (.lit (ptr0 bv))] [.var (some bo) [.lit (.slice a ts.length cap)],.buf (some (a,cap)) 42 4 (Zaa ts),.var (some bv) [.fn 142 [.lit (ptr0 bo),.lit (ptr0 bv)]]] (RVis bo bv 142 42 (ts++Zbo t)):=by
 induction n with
 | zero=>exact fun _ h=>om
 | succ n ih =>
  intro t hn hb ts a cap hl;refine Znp t ts a cap bo bv hne hb hl fun x hx us a cap hl2=>ih x ?_ ?_ us a cap hl2
  ·obtain ⟨op,nm,so,args⟩:=t;simp only [Zad,Zbe,Zdy] at hn;simp only [Tm.args] at hx;obtain ⟨i,hi⟩:=Tbk hx;have hi':(Zaa args)[i]?=some (Zad x):=by rw [ZbD,hi];rfl
   have h1:=Zcr hi';omega
  ·obtain ⟨op,nm,so,args⟩:=t;simp only [Zad,bulkRow,ZaU] at hb;simp only [Tm.args] at hx;obtain ⟨i,hi⟩:=Tbk hx;have hi':(Zaa args)[i]?=some (Zad x):=by rw [ZbD,hi];rfl
   have h1:=ZbF hi';omega
theorem ZiS (t:Tm) (hb:bulkRow (Zad t)<=1048576):Con e0 112 [.agg (Zad t)] [.one (.sl (Zaa (Zcd t)))]:=by
 have hv:=Zw5 hb;refine gI (ts:=[.slot 2]) 31 Tryz.func112 ?_;refine fN 1 @tmz ?_;refine gB ?_;have F:=@tmz;refine gP 1 ?_;clear F;refine gO 5 42 4 ?_;refine gS 5 fun a cap=>?_;refine fR @tmz ?_;refine fN 3 (aj3 @otF @ztF @tmz) ?_;refine pV 3 fun b3 hb3=>?_;refine pV 4 fun b4 hb4=>?_;have hne:b3≠b4:=fun e=>hb4 3 b3 _ (by decide) rfl e.symm;clear hb3 hb4;have hn1:(b3=b4)=False:=eq_false hne;have hn2:(b4=b3)=False:=eq_false (fun e=>hne e.symm)
 refine fN 4 (aj7 @ktF @ztF @ZAM @okFn @hn1 @hn2 @tmz) ?_;refine gB ?_;have hcon:=Zpo b3 b4 hne _ t (Tan _) om [] a cap (by simp;omega);have hdis:=fun (a:Option Addr) (cap:Nat)=>Zno (Zbo t) om a cap;simp only [ptr0,Tak,Tah,ZjT] at hcon;have F:=aj4 @ktF @hn1 @hn2 @tmz;refine gCP [3,5,4] [3,5,4] (hcon) ?_;clear F;rintro r pm ⟨a2,cap2,rfl,rfl⟩;simp only [ptr0,setA,retA,zipM,Taf,Tah];refine fR @tmz ?_
 refine fB @tmz ?_;have F:=aj3 @hn1 @hn2 @tmz;refine gCP [5] [5] (hdis a2 cap2) ?_;clear F;rintro r pm ⟨rfl,rfl⟩;simp only [setA,retA,zipM,Taf,Tah];refine fR @tmz ?_;refine pD 5 [2] [] ?_ (hs:=by exact snv);exact fD @tmz
theorem Zw7 (nm:ByteArray) (so:Int):Con e0 159 [.one (.lit (.string nm)),.one (.lit (.int .i64 so))] [.agg (Zad (.mk (-1) nm so []))]:=by
 have c1:Zad (.mk (-1) nm so [])=[.lit (.int .i64 (-1)),.lit (.string nm),.lit (.int .i64 so),.sl []]:=by simp only [Zad,Zaa]
 rw [c1];refine gI (ts:=[.cell 4 42]) 19 Tryz.func159 ?_;exact fD @e0P
theorem Zw8 {e:Env} {f:FuncId} {a:D} {rows:List (List C)} {r:List D} (h:Con e f [a,.one (.sl rows)] r):Con e f [a,.clip rows] r :=
 ⟨h.1,fun w S vs h1 h2 h3 h4=>h.2 w S vs h1 h2 h3 (by
  match vs,h4 with
  | [x,y],h4=>exact ⟨h4.1,h4.2.1.1,trivial⟩)⟩
theorem Zpp {op so:Int} {nm:ByteArray} {args:List Tm} (h:okTm (.mk op nm so args)):okTm (.mk (-1) nm so []):=by
 simp only [okTm,ZaG,and_true] at h ⊢;exact ⟨by unfold I64;omega,h.2.1,h.2.2.1⟩
mutual
theorem Zm4:∀ {t:Tm},okTm t->ZaG (Zbo t)
 | .mk op nm so args,h=>by
  simp only [Zbo];split
  ·simp only [ZaG];exact ⟨Zpp h,trivial⟩
  ·simp only [okTm] at h;exact ZhU h.2.2.2
theorem ZhU:∀ {l:List Tm},ZaG l->ZaG (Zba l)
 | [],_=>by simp [Zba,ZaG]
 | x::xs,h=>by
  simp only [ZaG] at h;simp only [Zba];exact Zm3 (Zm4 h.1) (ZhU h.2)
end
theorem Zlr:∀ {l:List Tm} (i:Nat),ZaG l->ZaG (l.take i)
 | [],_,_=>by simp [ZaG]
 | x::xs,0,_=>by simp [ZaG]
 | x::xs,i+1,h=>by
  simp only [ZaG] at h;simp only [Tbc,ZaG];exact ⟨h.1,Zlr i h.2⟩
theorem Zkl (t:Tm) (ts:List Tm) (ht:okTm t) (hts:ZaG ts) (hb:bulkRow (Zad t)<=1048576) (hl:ts.length+(Zbo t).length<=7000000) (h:∀ x∈t.args,∀ us:List Tm,ZaG us->us.length+(Zbo x).length<=7000000->Con e0 132 [.agg (Zad x),.one (.sl (Zaa us))] [.one (.sl (Zaa (colT (Zbo x) us)))]) :
  Con e0 132 [.agg (Zad t),.one (.sl (Zaa ts))] [.one (.sl (Zaa (colT (Zbo t) ts)))]:=by
 obtain ⟨op,nm,so,args⟩:=t;have hc:Zad (.mk op nm so args)=[.lit (.int .i64 op),.lit (.string nm),.lit (.int .i64 so),.sl (Zaa args)]:=by simp only [Zad]
 simp only [Tm.args] at h;simp only [Zad,bulkRow,ZaU,Zac] at hb;refine gI (ts:=[.slot 4]) 1048887 Tryz.func132 ?_;by_cases ho:op=-1
 ·have q1:(op=-1)=True:=eq_true ho;have e1:Zbo (.mk op nm so args)=[.mk (-1) nm so []]:=by simp only [Zbo,if_pos ho]
  rw [e1] at hl ⊢;simp only [Tag,Tak,Nat.zero_add] at hl;have hI:=Zpm ts (.mk (-1) nm so []) hts (Zpp ht) om;refine fB (aj3 @hc @q1 @tmz) ?_;refine fC @hc (Zw7 nm so) ?_;refine fC @hc (hI) ?_;refine fR @hc ?_;simp only [colT,List.foldl_cons,List.foldl_nil];exact fD @tmz
 ·have q1:(op=-1)=False:=eq_false ho;have e1:Zbo (.mk op nm so args)=Zba args:=by simp only [Zbo,if_neg ho]
  rw [e1] at hl ⊢;have hk:ZaG args:=by simp only [okTm] at ht;exact ht.2.2.2
  refine fG (aj3 @hc @q1 @tmz) ?_;have F:=ai ((fun (r:List Tm)=>(colT_nil0:colT (Zba []) r=r))) @tmz;refine gL (ι:=Nat) [1,5,20] [] (fun x=>[(5,.d (.one (.lit (.int .i64 (x:Int))))),(1,.d (.one (.sl (Zaa (colT (Zba (args.take x)) ts)))))]) (fun x=>[]) (fun x=>x<=args.length) (fun x=>args.length - x) (0) (Taj _) (fun x hx=>?_);clear F;by_cases hlt:x < args.length
  ·obtain ⟨b,hg⟩:∃ b,args[x]?=some b:=⟨_,Taa hlt⟩;have q2:=lT x args.length;have q4:IntKind.i64.wrap ((x:Int)+1)=(x:Int)+1:=IntWalk.i64_in _ om;have hvt:=ZgE hg;have hle:=ZhT args (x+1);rw [hvt,Tae] at hle;have hcl:=Zkj (Zba (args.take x)) ts;have hcon:=h b (Tac hg) (colT (Zba (args.take x)) ts) (Zmb (ZhU (Zlr x hk)) hts) om;rw [<- Zym,<- hvt] at hcon;refine fB (aj3 @q2 @hc @tmz) ?_;refine fC (aj4 @q2 @hc @hg @tmz) (hcon) ?_
   refine fR @tmz ?_;have F:=@q4;refine gG ?_;exact ⟨x+1,hlt,gw,gw,om⟩
  ·obtain rfl:x=args.length:=by omega
   have q2:=lF args.length args.length;rw [Tap];exact fD (aj3 @q2 @hc @tmz)
theorem Zls (n:Nat):∀ t:Tm,Zbe (Zad t) < n->okTm t->bulkRow (Zad t)<=1048576->∀ ts:List Tm,ZaG ts->ts.length+(Zbo t).length<=7000000->Con e0 132 [.agg (Zad t),.one (.sl (Zaa ts))] [.one (.sl (Zaa (colT (Zbo t) ts)))]:=by
 induction n with
 | zero=>exact fun _ h=>om
 | succ n ih =>
  intro t hn ht hb ts hts hl;refine Zkl t ts ht hts hb hl fun x hx us hus hl2=>?_;obtain ⟨op,nm,so,args⟩:=t;simp only [Zad,Zbe,Zdy] at hn;simp only [Zad,bulkRow,ZaU] at hb;simp only [okTm] at ht;simp only [Tm.args] at hx;obtain ⟨i,hi⟩:=Tbk hx;have hi':(Zaa args)[i]?=some (Zad x):=by rw [ZbD,hi];rfl
  have h1:=Zcr hi';have h2:=ZbF hi';exact ih x om (ht.2.2.2.mem hx) om us hus hl2
theorem ZiT {t:Tm} (ht:okTm t) (hb:bulkRow (Zad t)<=1048576):Con e0 87 [.agg (Zad t)] [.one (.sl (Zaa (Zcd t)))]:=by
 have hv:=Zkk t;have hcon:=Zls _ t (Tan _) ht hb [] trivial (by simp;omega);have hcon:=Zw8 (by rw [ZjT] at hcon;exact hcon);rw [show colT (Zbo t) []=Zcd t from rfl] at hcon;refine gI (ts:=[.slot 2]) 7 Tryz.func87 ?_;refine fB @tmz ?_;refine fC @tmz (hcon) ?_;refine fR @tmz ?_;exact fD @tmz
theorem Zti {l:List Tm} (h:ZaG l):ZaG (Zdm l):=Zmb (r:=[]) h trivial
theorem Zlt {t:Tm} (h:okTm t):ZaG (Zcd t):=Zti (Zm4 h)
theorem Zyo (l:List Tm):(Zdm l).length<=l.length:=by have:=Zkj l [];simpa [colT,Zdm] using this
theorem Zf9 (t:Tm):(Zcd t).length<=1+bulkRow (Zad t):=Tbe (Zyo _) (Zkk t)
theorem Znq {vs:List Tm} {p:Tm->Bool} {i:Nat} {a:Tm} (h:vs[i]?=some a):(vs.take (i+1)).any p=((vs.take i).any p || p a):=by
 rw [List.take_add_one,h];simp
theorem Znr {vs:List Tm} {p:Tm->Bool} {i:Nat} {a:Tm} (h:vs[i]?=some a):(vs.take (i+1)).all p=((vs.take i).all p && p a):=by
 rw [List.take_add_one,h];simp
theorem ZdP {α:Type} {vs:List α} {p:α->Bool} {i:Nat} {a:α} (h:vs[i]?=some a):(vs.take (i+1)).all p=((vs.take i).all p && p a):=by
 rw [List.take_add_one,h];simp
theorem Zc6 {α:Type} {vs:List α} {p:α->Bool} {a:α} (h:a∈vs) (hp:p a=false):vs.all p=false:=by
 rw [List.all_eq_false];exact ⟨a,h,by simp [hp]⟩
structure Eqn where
 l:Tm
 r:Tm
 cs:List (Tm × Tm)
def Zce (c:Tm × Tm):List C:=Zad c.1++Zad c.2
def ZaO (e:Eqn):List C:=Zad e.l++(Zad e.r++[.sl (e.cs.map Zce)])
def ZnY (c:Tm × Tm):Prop:=okTm c.1∧okTm c.2
def Zga (e:Eqn):Prop:=okTm e.l∧okTm e.r∧∀ c∈e.cs,ZnY c
theorem ZAN {row:List C} (h:Zak (Zae .cond) row):∃ c,row=Zce c∧ZnY c:=by
 obtain ⟨i0,t1,i2,r3,i4,t5,i6,r7,rfl,g0,g1,g2,g3,g4,g5,g6,g7⟩:=Zdo h;obtain ⟨a,rfl,ha⟩:=Zgr g3;obtain ⟨a',rfl,ha'⟩:=Zgr g7;refine ⟨(.mk i0 t1 i2 a,.mk i4 t5 i6 a'),by simp [Zce,Zad],?_⟩;simp only [ZnY,okTm];exact ⟨⟨g0,g1,g2,ha⟩,g4,g5,g6,ha'⟩
theorem Zsh:∀ {rows:List (List C)},Zaj (Zae .cond) rows->∃ cs:List (Tm × Tm),rows=cs.map Zce∧∀ c∈cs,ZnY c
 | [],_=>⟨[],rfl,by simp⟩
 | r::rs,h=>by
  simp only [Zaj] at h;obtain ⟨c,rfl,hc⟩:=ZAN h.1;obtain ⟨cs,rfl,hcs⟩:=Zsh h.2;exact ⟨c::cs,rfl,by intro x hx;rcases Tbg.1 hx with rfl | hx;exact hc;exact hcs x hx⟩
theorem ZAO {row:List C} (h:Zak (Zae .eqn) row):∃ e,row=ZaO e∧Zga e:=by
 obtain ⟨i0,t1,i2,r3,i4,t5,i6,r7,r8,rfl,g0,g1,g2,g3,g4,g5,g6,g7,g8⟩:=ZdD h;obtain ⟨a,rfl,ha⟩:=Zgr g3;obtain ⟨a',rfl,ha'⟩:=Zgr g7;obtain ⟨cs,rfl,hcs⟩:=Zsh g8;refine ⟨⟨.mk i0 t1 i2 a,.mk i4 t5 i6 a',cs⟩,by simp [ZaO,Zad],?_,?_,hcs⟩
 ·simp only [okTm];exact ⟨g0,g1,g2,ha⟩
 ·simp only [okTm];exact ⟨g4,g5,g6,ha'⟩
theorem tm4 (t:Tm):∃ a b c d,Zad t=[a,b,c,d]:=by
 obtain ⟨op,nm,so,args⟩:=t;simp only [Zad];exact ⟨_,_,_,_,rfl⟩
theorem Zjm (t:Tm) (l:List C):(Zad t++l).take 4=Zad t:=by obtain ⟨a,b,c,d,h⟩:=tm4 t;rw [h];rfl
theorem Zhi (t:Tm) (l:List C):(Zad t++l).drop 4=l:=by obtain ⟨a,b,c,d,h⟩:=tm4 t;rw [h];rfl
theorem Zpq (e:Eqn):(ZaO e).take 4=Zad e.l:=Zjm _ _
theorem Zkm (e:Eqn):(ZaO e).drop 4=Zad e.r++[.sl (e.cs.map Zce)]:=Zhi _ _
theorem Zpr (e:Eqn):(ZaO e).drop 8=[.sl (e.cs.map Zce)]:=by
 rw [show (8:Nat)=4+4 from rfl,<- List.drop_drop,Zkm,Zhi]
theorem ZiU (e:Eqn):(ZaO e).length=9:=by simp [ZaO,(tmz.2.2.2.2.1:∀ t,(Zad t).length=4)]
theorem Zps (e:Eqn):(ZaO e).take 9=ZaO e:=List.take_of_length_le (by rw [ZiU];exact Tai _)
theorem Zpt (e:Eqn):(ZaO e).drop 9=[]:=List.drop_of_length_le (by rw [ZiU];exact Tai _)
theorem Ztj (e:Eqn):(ZaO e).all Zai=true:=by
 simp only [ZaO,List.all_append,(tmz.2.2.2.2.2.2.2.1:∀ t,(Zad t).all Zai=true),Bool.true_and];rfl
theorem ZzR (e:Eqn):valT TK.one (ZaO e)=some (A.d (.one (.lit (.int .i64 e.l.op)))):=by
 obtain ⟨⟨op,nm,so,args⟩,r,cs⟩:=e;simp [ZaO,Zad,valT,Tm.op]
theorem ZiV (c:Tm × Tm):(Zce c).length=8:=by simp [Zce,(tmz.2.2.2.2.1:∀ t,(Zad t).length=4)]
theorem Zpu (c:Tm × Tm):(Zce c).take 4=Zad c.1:=Zjm _ _
theorem Zpv (c:Tm × Tm):(Zce c).drop 4=Zad c.2:=Zhi _ _
theorem Zpw (c:Tm × Tm):(Zce c).take 8=Zce c:=List.take_of_length_le (by rw [ZiV];exact Tai _)
theorem Zpx (c:Tm × Tm):(Zce c).drop 8=[]:=List.drop_of_length_le (by rw [ZiV];exact Tai _)
theorem Ztk (c:Tm × Tm):(Zce c).all Zai=true:=by
 simp only [Zce,List.all_append,(tmz.2.2.2.2.2.2.2.1:∀ t,(Zad t).all Zai=true),Bool.true_and]
theorem Zsi (cs:List (Tm × Tm)):ZaC 8 (cs.map Zce)=true:=by
 induction cs with
 | nil=>rfl
 | cons c cs ih=>simp only [Tbq,Zeo,ZiV,ih];simp [Ztk]
theorem eqz:type_of% (aj15 Zpq Zkm Zpr ZiU Zps Zpt Ztj ZzR ZiV Zpu Zpv Zpw Zpx Ztk (aj3 Zsi Zjm Zhi)):=aj15 Zpq Zkm Zpr ZiU Zps Zpt Ztj ZzR ZiV Zpu Zpv Zpw Zpx Ztk (aj3 Zsi Zjm Zhi)
noncomputable def ZbA (g:Sgn) (l r:Tm):Bool:=Zbd g l && (Zbd g r && decide (Za4 g l=Za4 g r))
def hasB (vs:List Tm) (v:Tm):Bool:=vs.any fun a=>decide (Zam v a=0)
def ZdQ (vs:List Tm) (t:Tm):Bool:=(Zcd t).all (hasB vs)
noncomputable def cndB (g:Sgn) (vs:List Tm) (c:Tm × Tm):Bool:=ZbA g c.1 c.2 && (ZdQ vs c.1 && ZdQ vs c.2)
noncomputable def eqnB (g:Sgn) (e:Eqn):Bool:=ZbA g e.l e.r && (!decide (e.l.op=-1) && (decide (e.cs.length<=2) && (decide ((Zcd e.l).length<=5) && (ZdQ (Zcd e.l) e.r && e.cs.all (cndB g (Zcd e.l))))))
noncomputable def ZhV (g:Sgn) (e:Eqn):Bool:=Zb8 g && eqnB g e
theorem Zqw {s:ByteArray} (h:Zbr s=true):s.size<=12:=by
 simp only [Zbr,Tar,decide_eq_true_eq] at h;exact h.1.1.1.2
mutual
theorem Zm5 {g:Sgn}:∀ {t:Tm},Zbs g t->bulkRow (Zad t)+1<=14 * sizeTm t
 | .mk op nm so args,h=>by
  simp only [Zbs] at h;obtain ⟨hn,ha,_⟩:=h;have h1:=Zlu ha;have h2:nm.size<=12:=by
   rcases hn with hn | ⟨o,d,hn⟩
   ·exact Zqw hn.2.1
   ·have:=hn.nm;simp only [Tm.name] at this;rw [this];exact Taj _
  simp only [Zad,bulkRow,ZaU,sizeTm];omega
theorem Zlu {g:Sgn}:∀ {ts:List Tm},Zeq g ts->(Zaa ts).length+bulkRows (Zaa ts)<=14 * sizeTms ts
 | [],_=>by simp [Zaa,bulkRows]
 | t::ts,h=>by
  simp only [Zeq] at h;have h1:=Zm5 h.1;have h2:=Zlu h.2;simp only [Zaa,bulkRows,Tag,sizeTms];omega
end
theorem ZiW {g:Sgn} {t:Tm} (h:Zbd g t=true):bulkRow (Zad t)<=1048576:=by
 have:=Zm5 (ZbS.1 h).form;have:=(ZbS.1 h).size;omega
theorem ZjU {g:Sgn} (hokg:Zdv g) (hg:SgnOk g) {l r:Tm} (hl:okTm l) (hr:okTm r) (hbl:bulkRow (Zad l)<=1048576) (hbr:bulkRow (Zad r)<=1048576):Con e0 86 [.agg (ZaJ g),.agg (Zad l),.agg (Zad r)] [.one (.lit (.bool (ZbA g l r)))]:=by
 have b1:=Zd0 hbl;have b2:=Zd0 hbr;have cF1:=ZhO hokg hg hl b1;have cF2:=ZhO hokg hg hr b2;have cK1:=fun h=>Zf8 hokg hg (t:=l) h;have cK2:=fun h=>Zf8 hokg hg (t:=r) h;rw [ZaJ] at cF1 cF2 cK1 cK2;refine gI 127 Tryz.func86 ?_;refine fB (ai @tmz @ZaE) ?_;refine fC @tmz (ZfF b1) ?_;by_cases h1:sizeTm l<=60∧depthTm l<=20;rotate_left
 ·have hf:ZbA g l r=false:=by rw [ZbA,Zfb fun h=>h1 ⟨h.size,h.depth⟩];rfl
  have h1':decide (sizeTm l<=60∧depthTm l<=20)=false:=by simp only [decide_eq_false_iff_not];exact h1
  refine fR (ai @tmz @h1') ?_;exact fT @hf
 have h1':decide (sizeTm l<=60∧depthTm l<=20)=true:=by simp only [decide_eq_true_eq];exact h1
 refine fC (ai @tmz @h1') (cF1) ?_;have e1:=ZfE (g:=g) h1.1 h1.2
 cases hF1:ZbN g l with
 | false =>
  have hf:ZbA g l r=false:=by rw [ZbA,<- e1,hF1];rfl
  refine fR (ai @tmz @h1') ?_;exact fT @hf
 | true =>
  refine fC (ai @tmz @h1') (ZfF b2) ?_;by_cases h2:sizeTm r<=60∧depthTm r<=20;rotate_left
  ·have hf:ZbA g l r=false:=by rw [ZbA,Zfb (t:=r) fun h=>h2 ⟨h.size,h.depth⟩];simp
   have h2':decide (sizeTm r<=60∧depthTm r<=20)=false:=by simp only [decide_eq_false_iff_not];exact h2
   refine fR (aj3 @tmz @h1' @h2') ?_;exact fT @hf
  have h2':decide (sizeTm r<=60∧depthTm r<=20)=true:=by simp only [decide_eq_true_eq];exact h2
  refine fC (aj3 @tmz @h1' @h2') (cF2) ?_;have e2:=ZfE (g:=g) h2.1 h2.2
  cases hF2:ZbN g r with
  | false =>
   have hf:ZbA g l r=false:=by rw [ZbA,<- e2,hF2];simp
   refine fR (aj3 @tmz @h1' @h2') ?_;exact fT @hf
  | true =>
   have ef:ZbA g l r=decide (Za4 g l=Za4 g r):=by rw [ZbA,<- e1,<- e2,hF1,hF2];rfl
   refine fC (aj3 @tmz @h1' @h2') (cK1 (Zf6.1 hF1).node) ?_;refine fC (aj3 @tmz @h1' @h2') (cK2 (Zf6.1 hF2).node) ?_;refine fR (aj3 @tmz @h1' @h2') ?_;exact fT @ef
theorem any_nil0 {p:Tm->Bool}:([]:List Tm).any p=false:=rfl
theorem ZfU {t:Tm} {vs:List Tm} (ht:okTm t) (hvs:ZaG vs) (hb:bulkRow (Zad t)<=1048576) (hl:vs.length<=8000000):Con e0 88 [.agg (Zad t),.one (.sl (Zaa vs))] [.one (.lit (.bool (ZdQ vs t)))]:=by
 have hok:=Zlt ht;have hle:=Zf9 t;have cV:=ZiT ht hb;have eW:ZdQ vs t=(Zcd t).all (hasB vs):=rfl;rw [eW];clear eW;generalize Zcd t=us at hok hle cV ⊢;refine gI 68720542199 Tryz.func88 ?_;refine fB @tmz ?_;refine fC @tmz (cV) ?_;refine fR @tmz ?_;refine fG @tmz ?_;have F:=@e0P;refine gL (ι:=Nat) [4,6,7,8,14,20,36] [] (fun x=>[(6,A.d (.one (.lit (.int .i64 x))))]) (fun x=>[]) (fun x=>x<=us.length∧(us.take x).all (hasB vs)=true) (fun x=>us.length - x) (0) (⟨Taj _,rfl⟩) (fun x hx=>?_);clear F
 obtain ⟨hxl,hall⟩:=hx;by_cases hlt:x < us.length;rotate_left
 ·have q1:¬ ((x:Int) < (us.length:Int)):=om;obtain rfl:x=us.length:=by omega
  rw [Tap] at hall;exact fT (aj3 @tmz @q1 @hall)
 have q1:(x:Int) < (us.length:Int):=om;obtain ⟨v,hv⟩:∃ a,us[x]?=some a:=⟨_,Taa hlt⟩;have hvo:=hok.mem (Tac hv);have hw1:=Zaw (k:=x) om;refine fG (ai @tmz @q1) ?_;have F:=((fun (p:Tm->Bool)=>(any_nil0:([]:List Tm).any p=false)));refine gL (ι:=Nat) [7,8,20] [] (fun y=>[(7,.d (.one (.lit (.bool ((vs.take y).any fun a=>decide (Zam v a=0)))))),(8,A.d (.one (.lit (.int .i64 y))))]) (fun y=>[]) (fun y=>y<=vs.length) (fun y=>vs.length - y) (0) (Taj _) (fun y hy=>?_);clear F
 by_cases hlt2:y < vs.length;rotate_left
 ·have q2:¬ ((y:Int) < (vs.length:Int)):=om;obtain rfl:y=vs.length:=by omega
  rw [Tap]
  cases hh:hasB vs v with
  | true =>
   have e:(vs.any fun a=>decide (Zam v a=0))=true:=hh;have hq:x+1<=us.length∧(us.take (x+1)).all (hasB vs)=true:=⟨hlt,by rw [Znr hv,hall,hh];rfl⟩;have F:=aj5 @tmz @q1 @q2 @e @hw1;refine gG ?_;exact ⟨x+1,hq,gw,gw,om⟩
  | false =>
   have e:(vs.any fun a=>decide (Zam v a=0))=false:=hh;have hf:us.all (hasB vs)=false:=Zc6 (Tac hv) hh;exact fT (aj5 @tmz @q1 @q2 @e @hf)
 have q2:(y:Int) < (vs.length:Int):=om;obtain ⟨a,ha⟩:∃ a,vs[y]?=some a:=⟨_,Taa hlt2⟩;have hao:=hvs.mem (Tac ha);have hw2:=Zaw (k:=y) om;have hst:=Znq (p:=fun a=>decide (Zam v a=0)) ha
 cases hc:(vs.take y).any fun a=>decide (Zam v a=0) with
 | true =>
  rw [hc,Bool.true_or] at hst;refine fG (aj3 @tmz @q1 @q2) ?_;have F:=aj4 @tmz @q2 @hst @hw2;refine gG ?_;exact ⟨y+1,hlt2,gw,gw,om⟩
 | false =>
  rw [hc,Bool.false_or] at hst;refine fB (aj3 @tmz @q1 @q2) ?_;refine fC (aj5 @tmz @q1 @q2 @hv @ha) (Zf7 hvo hao) ?_;refine fR (aj3 @tmz @q1 @q2) ?_;have F:=aj4 @tmz @q2 @hst @hw2;refine gG ?_;exact ⟨y+1,hlt2,gw,gw,om⟩
theorem Zpy (e:Eqn):bulkRow (ZaO e)=bulkRow (Zad e.l)+(bulkRow (Zad e.r)+(e.cs.length+bulkRows (e.cs.map Zce))):=by
 rw [ZaO,Zkc,Zkc];simp [bulkRow,ZaU]
theorem Zpz {cs:List (Tm × Tm)} {c:Tm × Tm} (h:c∈cs):bulkRow (Zad c.1)+bulkRow (Zad c.2)<=bulkRows (cs.map Zce):=by
 obtain ⟨i,hi⟩:=Tbk h;have:(cs.map Zce)[i]?=some (Zce c):=by rw [Tba,hi];rfl
 have:=ZbF this;rw [Zce,Zkc] at this;exact this
theorem Zqx {g:Sgn} {e:Eqn} (hokg:Zdv g) (he:Zga e) (hb:bulkRow (ZaO e)<=1048576):Con e0 51 [.agg (ZaJ g),.agg (ZaO e)] [.one (.lit (.bool (ZhV g e)))]:=by
 rw [Zpy] at hb;obtain ⟨hol,hor,hoc⟩:=he;have cS:=ZgZ hokg;rw [ZaJ] at cS;refine gI 151115728032372933787903 Tryz.func51 ?_;refine fB (aj3 @tmz @eqz @ZaE) ?_;refine fC (aj3 @tmz @eqz @ZaE) (cS) ?_;by_cases hs:Zb8 g=true;rotate_left
 ·have hs':Zb8 g=false:=by simpa using hs
  have hf:ZhV g e=false:=by simp [ZhV,hs']
  refine fR (aj4 @tmz @eqz @ZaE @hs') ?_;exact fT @hf
 have hg:=Zeb.1 hs;have ei:ZhV g e=eqnB g e:=by simp [ZhV,hs]
 rw [ei];have cP:=ZjU hokg hg hol hor om om;rw [ZaJ] at cP;refine fC (aj4 @tmz @eqz @ZaE @hs) (cP) ?_
 cases hP:ZbA g e.l e.r with
 | false =>
  have hf:eqnB g e=false:=by simp [eqnB,hP]
  refine fR (aj4 @tmz @eqz @ZaE @hs) ?_;exact fT @hf
 | true =>
  by_cases h1:e.l.op=-1
  ·have hf:eqnB g e=false:=by simp [eqnB,h1]
   refine fR (aj5 @tmz @eqz @ZaE @hs @h1) ?_;exact fT @hf
  have h1':(e.l.op=-1)=False:=eq_false h1;by_cases h2:e.cs.length<=2;rotate_left
  ·have hf:eqnB g e=false:=by simp [eqnB,h2]
   have h2':(2:Int) < (e.cs.length:Int):=om;refine fR (aj6 @tmz @eqz @ZaE @hs @h1' @h2') ?_;exact fT @hf
  have h2':¬ ((2:Int) < (e.cs.length:Int)):=om;have cV:=ZiT hol om;have hvo:=Zlt hol;have hvl:=Zf9 e.l;have cWr:=ZfU hor hvo om om;refine fR (aj6 @tmz @eqz @ZaE @hs @h1' @h2') ?_;refine fB (aj3 @tmz @eqz @ZaE) ?_;refine fC (aj3 @tmz @eqz @ZaE) (cV) ?_;refine fR (aj3 @tmz @eqz @ZaE) ?_;by_cases h3:(Zcd e.l).length<=5;rotate_left
  ·have hf:eqnB g e=false:=by simp [eqnB,h3]
   have h3':(5:Int) < ((Zcd e.l).length:Int):=om;exact fT (aj5 @tmz @eqz @ZaE @h3' @hf)
  have h3':¬ ((5:Int) < ((Zcd e.l).length:Int)):=om;refine fB (aj4 @tmz @eqz @ZaE @h3') ?_;refine fC (aj4 @tmz @eqz @ZaE @h3') (cWr) ?_
  cases hW:ZdQ (Zcd e.l) e.r with
  | false =>
   have hf:eqnB g e=false:=by simp [eqnB,hW]
   refine fR (aj4 @tmz @eqz @ZaE @h3') ?_;exact fT @hf
  | true =>
   have ea:eqnB g e=e.cs.all (cndB g (Zcd e.l)):=by simp [eqnB,hP,h1,h2,h3,hW]
   rw [ea];refine fR (aj4 @tmz @eqz @ZaE @h3') ?_;refine fG (aj3 @tmz @eqz @ZaE) ?_;generalize Zcd e.l=vs at *;have F:=@e0P;refine gL (ι:=Nat) [4,6,7,49,77] [] (fun x=>[(6,A.d (.one (.lit (.int .i64 x))))]) (fun x=>[]) (fun x=>x<=e.cs.length∧(e.cs.take x).all (cndB g vs)=true) (fun x=>e.cs.length - x) (0) (⟨Taj _,rfl⟩) (fun x hx=>?_);clear F;obtain ⟨hxl,hall⟩:=hx;by_cases hlt:x < e.cs.length;rotate_left
   ·have q1:¬ ((x:Int) < (e.cs.length:Int)):=om;obtain rfl:x=e.cs.length:=by omega
    rw [Tap] at hall;exact fT (aj5 @tmz @eqz @ZaE @q1 @hall)
   have q1:(x:Int) < (e.cs.length:Int):=om;obtain ⟨c,hc⟩:∃ a,e.cs[x]?=some a:=⟨_,Taa hlt⟩;have hm:=Tac hc;have hco:=hoc c hm;have hcb:=Zpz hm;have hw1:=Zaw (k:=x) om;have cPc:=ZjU hokg hg hco.1 hco.2 om om;rw [ZaJ] at cPc;have cW1:=ZfU hco.1 hvo om om;have cW2:=ZfU hco.2 hvo om om;refine fB (aj5 @tmz @eqz @ZaE @q1 @hc) ?_;refine fC (aj4 @tmz @eqz @ZaE @hc) (cPc) ?_
   cases hPc:ZbA g c.1 c.2 with
   | false =>
    have hf:e.cs.all (cndB g vs)=false:=Zc6 hm (by simp [cndB,hPc]);refine fR (aj3 @tmz @eqz @ZaE) ?_;exact fT @hf
   | true =>
    refine fC (aj4 @tmz @eqz @ZaE @hc) (cW1) ?_
    cases hW1:ZdQ vs c.1 with
    | false =>
     have hf:e.cs.all (cndB g vs)=false:=Zc6 hm (by simp [cndB,hW1]);refine fR (aj3 @tmz @eqz @ZaE) ?_;exact fT @hf
    | true =>
     refine fC (aj4 @tmz @eqz @ZaE @hc) (cW2) ?_
     cases hW2:ZdQ vs c.2 with
     | false =>
      have hf:e.cs.all (cndB g vs)=false:=Zc6 hm (by simp [cndB,hW2]);refine fR (aj3 @tmz @eqz @ZaE) ?_;exact fT @hf
     | true =>
      have hq:x+1<=e.cs.length∧(e.cs.take (x+1)).all (cndB g vs)=true:=⟨hlt,by rw [ZdP hc,hall];simp [cndB,hPc,hW1,hW2]⟩;refine fR (aj3 @tmz @eqz @ZaE) ?_;have F:=aj4 @tmz @eqz @ZaE @hw1;refine gG ?_;exact ⟨x+1,hq,gw,gw,om⟩
theorem ZpA (t a:Tm):Con e0 145 [.agg (Zad a),.one (.ptr (Zad t))] [.one (.lit (.bool (decide (Zam t a=0))))]:=by
 refine gI 15 Tryz.func145 ?_;refine fB @tmz ?_;refine fC @tmz (Zgz t a) ?_;refine fR @tmz ?_;exact fT @tmz
theorem Zqy (ts:List Tm) (t:Tm) (hl:ts.length<=big):Con e0 113 [.one (.sl (Zaa ts)),.agg (Zad t)] [.one (.lit (.bool (hasB ts t)))]:=by
 have c:=Zkd (ts:=ts) (f:=145) (caps:=[.ptr (Zad t)]) (P:=fun a=>decide (Zam t a=0)) hl fun a _=>ZpA t a;have eh:hasB ts t=ts.any fun a=>decide (Zam t a=0):=rfl;rw [eh];refine gI 27 Tryz.func113 ?_;refine fB @tmz ?_;refine fC @tmz (c) ?_;refine fR @tmz ?_;exact fT @tmz
def Zdp (cs:List (Tm × Tm)):List Tm:=cs.flatMap fun c=>[c.1,c.2]
def AL (e:Eqn) (x:Nat):List (List C):=Zaa (e.r::Zdp (e.cs.take x))
def s6 (e:Eqn):Nat->A
 | 0=>.d (.clip (AL e 0))
 | _+1=>.buf 6
def m6 (e:Eqn):Nat->List (Nat × Bk)
 | 0=>[]
 | x+1=>[(6,.buf none 42 4 (AL e (x+1)))]
theorem s6_0 (e:Eqn):s6 e 0=.d (.clip [Zad e.r]):=by simp [s6,AL,Zdp,Zaa]
theorem m6_0 (e:Eqn):m6 e 0=[]:=rfl
theorem s6_s (e:Eqn) (x:Nat):s6 e (x+1)=.buf 6:=rfl
theorem m6_s (e:Eqn) (x:Nat):m6 e (x+1)=[(6,.buf none 42 4 (AL e (x+1)))]:=rfl
theorem ZBa (e:Eqn) (x:Nat):(s6 e x=.d (.clip (AL e x))∧m6 e x=[])∨(s6 e x=.buf 6∧m6 e x=[(6,.buf none 42 4 (AL e x))]):=by
 cases x with
 | zero=>exact .inl ⟨rfl,rfl⟩
 | succ x=>exact .inr ⟨rfl,rfl⟩
theorem ZAl (e:Eqn) (x:Nat):ZaC 4 (AL e x)=true:=Zco _
theorem Zm6 (cs:List (Tm × Tm)):(Zdp cs).length=2 * cs.length:=by
 induction cs with
 | nil=>rfl
 | cons c cs ih=>simp only [Zdp,List.flatMap_cons,Tae,Tag,Tak] at ih ⊢;omega
theorem ZAP (e:Eqn) (x:Nat):(AL e x).length<=1+2 * e.cs.length:=by
 rw [AL,Zac,Tag,Zm6,Taw];omega
theorem ZAm {e:Eqn} {x:Nat} {c:Tm × Tm} (h:e.cs[x]?=some c):AL e x++[Zad c.1,Zad c.2]=AL e (x+1):=by
 have h1:Zdp (e.cs.take (x+1))=Zdp (e.cs.take x)++[c.1,c.2]:=by
  rw [List.take_add_one,h];simp [Zdp]
 rw [AL,AL,h1,<- Taf,ZbK];simp [Zaa]
theorem Zsj {g:Sgn} {vs:List Tm}:∀ {cs:List (Tm × Tm)},(cs.all fun c=>ZbA g c.1 c.2)=true->cs.all (cndB g vs)=(Zdp cs).all (ZdQ vs)
 | [],_=>rfl
 | c::cs,h=>by
  simp only [List.all_cons,Tar] at h;have ih:=Zsj (vs:=vs) h.2;rw [List.all_cons,ih,cndB,h.1,Bool.true_and];simp [Zdp,List.all_cons,Bool.and_assoc]
theorem ZAQ {g:Sgn} {l r:Tm} (h:ZbA g l r=true):Zbd g l=true:=by simp only [ZbA,Tar] at h;exact h.1
theorem ZAR {g:Sgn} {l r:Tm} (h:ZbA g l r=true):Zbd g r=true:=by simp only [ZbA,Tar] at h;exact h.2.1
theorem Zm7 {g:Sgn}:∀ {cs:List (Tm × Tm)},(cs.all fun c=>ZbA g c.1 c.2)=true->∀ t∈Zdp cs,Zbd g t=true
 | [],_,t,ht=>by simp [Zdp] at ht
 | c::cs,h,t,ht=>by
  simp only [List.all_cons,Tar] at h;simp only [Zdp,List.flatMap_cons,Tbh,Tbg,List.not_mem_nil,or_false] at ht;rcases ht with (rfl | rfl) | ht
  ·exact ZAQ h.1
  ·exact ZAR h.1
  ·exact Zm7 h.2 t ht
theorem ZAS {g:Sgn} {t:Tm} (h:Zbd g t=true):t.op < 0 ↔ t.op=-1:=by
 rcases (ZbS.1 h).form.node with hn | ⟨o,d,hn⟩
 ·have:=hn.1;omega
 ·have:=hn.lo;omega
noncomputable def eqnR (g:Sgn) (e:Eqn) (vs:List Tm):Bool:=decide (vs.length<=5) && (ZdQ vs e.r && e.cs.all (cndB g vs))
section
variable {g:Sgn} {mc:C}
theorem Ztl (hg:SgnOk g) {e:Eqn} (he:Zga e) (hb:bulkRow (ZaO e)<=1048576):Con e0 63 [.one (.ptr (encX g mc)),.agg (ZaO e)] [.one (.lit (.bool (eqnB g e)))]:=by
 rw [Zpy] at hb;obtain ⟨hol,hor,hoc⟩:=he;have cT:=fun (t:Tm) (h:okTm t) (hb:bulkRow (Zad t)<=1048576)=>ZjI (mc:=mc) hg h (Zd0 hb);have cK:=fun (t:Tm) (h:Zbd g t=true)=>ZhI (mc:=mc) hg (ZbS.1 h).form.node;refine gI 334100219233902667600601412539771 Tryz.func63 ?_;refine fB (ai @tmz @eqz) ?_;refine fC (ai @tmz @eqz) (cT e.l hol om) ?_
 cases hL:Zbd g e.l with
 | false =>
  have hf:eqnB g e=false:=by simp [eqnB,ZbA,hL]
  refine fR (ai @tmz @eqz) ?_;exact fT @hf
 | true =>
 refine fC (ai @tmz @eqz) (cT e.r hor om) ?_
 cases hR:Zbd g e.r with
 | false =>
  have hf:eqnB g e=false:=by simp [eqnB,ZbA,hR]
  refine fR (ai @tmz @eqz) ?_;exact fT @hf
 | true =>
 refine fC (ai @tmz @eqz) (cK e.l hL) ?_;refine fC (ai @tmz @eqz) (cK e.r hR) ?_;by_cases hk:Za4 g e.l=Za4 g e.r;rotate_left
 ·have hf:eqnB g e=false:=by simp [eqnB,ZbA,hk]
  have hk':(Za4 g e.l=Za4 g e.r)=False:=eq_false hk;refine fR (aj3 @tmz @eqz @hk') ?_;exact fT @hf
 have hk':(Za4 g e.l=Za4 g e.r)=True:=eq_true hk;have hP:ZbA g e.l e.r=true:=by simp [ZbA,hL,hR,hk]
 by_cases h1:e.l.op=-1
 ·have hf:eqnB g e=false:=by simp [eqnB,h1]
  have h1':(e.l.op < 0)=True:=eq_true om;refine fR (aj4 @tmz @eqz @hk' @h1') ?_;exact fT @hf
 have h1':(e.l.op < 0)=False:=eq_false fun h=>h1 ((ZAS hL).1 h);by_cases h2:e.cs.length<=2;rotate_left
 ·have hf:eqnB g e=false:=by simp [eqnB,h2]
  have h2':=lT 2 e.cs.length;refine fR (aj5 @tmz @eqz @hk' @h1' @h2') ?_;exact fT @hf
 have h2':=lF 2 e.cs.length;have ea:eqnB g e=eqnR g e (Zcd e.l):=by simp [eqnB,eqnR,hP,h1,h2]
 rw [ea];clear ea;have cV:=ZiS e.l (ZiW hL);have hvl:=Zf9 e.l;refine fR (aj5 @tmz @eqz @hk' @h1' @h2') ?_;refine fB (ai @tmz @eqz) ?_;refine fC (ai @tmz @eqz) (cV) ?_;refine fR (ai @tmz @eqz) ?_;generalize Zcd e.l=vs at *;have hvb:vs.length<=big:=by unfold big;omega
 refine fG (ai @tmz @eqz) ?_;have F:=ai (s6_0 e) (m6_0 e);refine gL (ι:=Nat) [4,6,8,57,58,83] [6] (fun x=>[(57,A.d (.one (.lit (.int .i64 x)))),(6,s6 e x)]) (fun x=>m6 e x) (fun x=>x<=e.cs.length∧((e.cs.take x).all fun c=>ZbA g c.1 c.2)=true) (fun x=>e.cs.length - x) 0 ⟨Taj _,rfl⟩ (fun x hx=>?_) (hmm:=fun x=>rfl);clear F;obtain ⟨hxl,hall⟩:=hx;rcases ZBa e x with ⟨es,em⟩ | ⟨es,em⟩
 all_goals (
  simp only [es,em,Tah,Taf];clear es em;by_cases hlt:x < e.cs.length
  ·have q1:(x:Int) < (e.cs.length:Int):=om;obtain ⟨c,hc⟩:∃ a,e.cs[x]?=some a:=⟨_,Taa hlt⟩;have hm:=Tac hc;have hco:=hoc c hm;have hcb:=Zpz hm;have hw1:=Zaw (k:=x) om;have hst:=ZAm hc;have hrb:=ZAl e x;have hal:=ZAP e x;have hmx:(AL e x).length+2<=maxApp:=by unfold maxApp;omega
   have es1:=s6_s e x;have em1:=m6_s e x;have hcf:ZbA g c.1 c.2=false->eqnR g e vs=false:=fun h=>by
    have:e.cs.all (cndB g vs)=false:=Zc6 hm (by simp [cndB,h]);simp [eqnR,this]
   refine fB (aj4 @tmz @eqz @q1 @hc) ?_;refine fC (ai @tmz @eqz) (cT c.1 hco.1 om) ?_
   cases hL1:Zbd g c.1 with
   | false =>
    have hf:=hcf (by simp [ZbA,hL1]);refine fR (ai @tmz @eqz) ?_;exact fT @hf
   | true =>
   refine fC (ai @tmz @eqz) (cT c.2 hco.2 om) ?_
   cases hR1:Zbd g c.2 with
   | false =>
    have hf:=hcf (by simp [ZbA,hR1]);refine fR (ai @tmz @eqz) ?_;exact fT @hf
   | true =>
   refine fC (ai @tmz @eqz) (cK c.1 hL1) ?_;refine fC (ai @tmz @eqz) (cK c.2 hR1) ?_;by_cases hk1:Za4 g c.1=Za4 g c.2;rotate_left
   ·have hf:=hcf (by simp [ZbA,hk1]);have hk1':(Za4 g c.1=Za4 g c.2)=False:=eq_false hk1;refine fR (aj3 @tmz @eqz @hk1') ?_;exact fT @hf
   have hk1':(Za4 g c.1=Za4 g c.2)=True:=eq_true hk1;have hPc:ZbA g c.1 c.2=true:=by simp [ZbA,hL1,hR1,hk1]
   have hq:x+1<=e.cs.length∧((e.cs.take (x+1)).all fun c=>ZbA g c.1 c.2)=true:=⟨hlt,by rw [ZdP hc,hall,hPc];rfl⟩;refine fR (aj3 @tmz @eqz @hk1') ?_;have F:=aj8 @tmz @eqz @hw1 @hst @hrb @hmx @es1 @em1;refine gG ?_;exact ⟨x+1,hq,gw,gw,om⟩
  obtain rfl:x=e.cs.length:=by omega
  have q1:¬ ((e.cs.length:Int) < (e.cs.length:Int)):=om;rw [Tap] at hall;have eA:AL e e.cs.length=Zaa (e.r::Zdp e.cs):=by rw [AL,Tap]
  rw [eA];have er:eqnR g e vs=(decide (vs.length<=5) && (e.r::Zdp e.cs).all (ZdQ vs)):=by rw [eqnR,Zsj hall,List.all_cons]
  rw [er];have hall2:∀ t∈e.r::Zdp e.cs,Zbd g t=true:=fun t ht=>by
   rcases Tbg.1 ht with rfl | ht
   ·exact hR
   ·exact Zm7 hall t ht
  have hsl:(e.r::Zdp e.cs).length<=5:=by rw [Tag,Zm6];omega
  generalize e.r::Zdp e.cs=all at *;refine fG (aj3 @tmz @eqz @q1) ?_;have F:=@e0P;refine gL (ι:=Nat) [4,10,12,94,95,99,100,101,102,108] [] (fun y=>[(94,A.d (.one (.lit (.int .i64 y))))]) (fun y=>[]) (fun y=>y<=all.length∧(all.take y).all (ZdQ vs)=true) (fun y=>all.length - y) (0) (⟨Taj _,rfl⟩) (fun y hy=>?_);clear F;obtain ⟨hyl,hally⟩:=hy;by_cases hlt2:y < all.length;rotate_left
  ·have q2:¬ ((y:Int) < (all.length:Int)):=om;obtain rfl:y=all.length:=by omega
   rw [Tap] at hally;have e5:decide ((vs.length:Int)<=5)=decide (vs.length<=5):=by rw [decide_eq_decide];omega
   exact fT (aj4 @tmz @q2 @hally @e5)
  have q2:(y:Int) < (all.length:Int):=om;obtain ⟨t,ht⟩:∃ a,all[y]?=some a:=⟨_,Taa hlt2⟩;have hw2:=Zaw (k:=y) om;have hmt:=Tac ht;have cVt:=ZiS t (ZiW (hall2 t hmt));have hus:=Zf9 t;have hub:=ZiW (hall2 t hmt);have eW:ZdQ vs t=(Zcd t).all (hasB vs):=rfl;refine fB (aj4 @tmz @q2 @hlt2 @ht) ?_;refine fC (aj3 @tmz @hlt2 @ht) (cVt) ?_;refine fR @tmz ?_;refine fG @tmz ?_;generalize Zcd t=us at *;have F:=@e0P;refine gL (ι:=Nat) [4,12,101,102,108] [] (fun z=>[(101,A.d (.one (.lit (.int .i64 z))))]) (fun z=>[]) (fun z=>z<=us.length∧(us.take z).all (hasB vs)=true) (fun z=>us.length - z) (0) (⟨Taj _,rfl⟩) (fun z hz=>?_);clear F
  obtain ⟨hzl,hallz⟩:=hz;by_cases hlt3:z < us.length;rotate_left
  ·have q3:¬ ((z:Int) < (us.length:Int)):=om;obtain rfl:z=us.length:=by omega
   rw [Tap] at hallz;have hq:y+1<=all.length∧(all.take (y+1)).all (ZdQ vs)=true:=⟨hlt2,by rw [ZdP ht,hally,eW,hallz];rfl⟩;have F:=aj3 @tmz @q3 @hw2;refine gG ?_;exact ⟨y+1,hq,gw,gw,om⟩
  have q3:(z:Int) < (us.length:Int):=om;obtain ⟨v,hv⟩:∃ a,us[z]?=some a:=⟨_,Taa hlt3⟩;have hw3:=Zaw (k:=z) om;refine fB (aj3 @tmz @q3 @hv) ?_;refine fC @tmz (Zqy vs v hvb) ?_
  cases hh:hasB vs v with
  | false =>
   have hf:all.all (ZdQ vs)=false:=Zc6 hmt (by rw [eW];exact Zc6 (Tac hv) hh);refine fR @tmz ?_;exact fT @hf
  | true =>
   have hq:z+1<=us.length∧(us.take (z+1)).all (hasB vs)=true:=⟨hlt3,by rw [ZdP hv,hallz,hh];rfl⟩;refine fR @tmz ?_
   (have F:=ai @tmz @hw3;refine gG ?_;exact ⟨z+1,hq,gw,gw,om⟩))
end
structure Mdl where
 sig:Sgn
 eqs:List Eqn
 rules:List Eqn
def ZcW (m:Mdl):List C:=[.sl (m.sig.sorts.names.map ZbY),.sl (m.sig.sorts.subs.map Zb6),.sl (m.sig.ops.map Zbc),.sl (m.eqs.map ZaO),.sl (m.rules.map ZaO)]
def Zjn (m:Mdl):Prop:=Zdv m.sig∧(∀ e∈m.eqs,Zga e)∧∀ e∈m.rules,Zga e
theorem Zmc:∀ {rows:List (List C)},Zaj (Zae .eqn) rows->∃ l:List Eqn,rows=l.map ZaO∧∀ e∈l,Zga e
 | [],_=>⟨[],rfl,by simp⟩
 | r::rs,h=>by
  simp only [Zaj] at h;obtain ⟨c,rfl,hc⟩:=ZAO h.1;obtain ⟨cs,rfl,hcs⟩:=Zmc h.2;exact ⟨c::cs,rfl,by intro x hx;rcases Tbg.1 hx with rfl | hx;exact hc;exact hcs x hx⟩
theorem ZAT {row:List C} (h:Zak Zbz row):∃ m,row=ZcW m∧Zjn m:=by
 obtain ⟨r0,r1,r2,r3,r4,rfl,g0,g1,g2,g3,g4⟩:=Zed h;obtain ⟨s,hs,hok⟩:=ZAA (Zdi g0 g1 g2);obtain ⟨es,rfl,hes⟩:=Zmc g3;obtain ⟨us,rfl,hus⟩:=Zmc g4;rw [ZaJ] at hs;injection hs with e0 hs
 injection hs with e1 hs
 injection hs with e2 hs
 exact ⟨⟨s,es,us⟩,by rw [ZcW,e0,e1,e2],hok,hes,hus⟩
theorem ZpB (l:List Eqn):ZaC 9 (l.map ZaO)=true:=by
 induction l with
 | nil=>rfl
 | cons e l ih=>simp only [Tbq,Zeo,ZiU,ih,Ztj];rfl
noncomputable def Zev (m:Mdl):Bool:=decide (m.eqs.length<=16) && (decide (m.rules.length<=16) && (m.eqs.all (eqnB m.sig) && m.rules.all (eqnB m.sig)))
noncomputable def ZcQ (m:Mdl):Bool:=Zb8 m.sig && Zev m
theorem ZpC (m:Mdl):bulkRow (ZcW m)=bulkRow (ZaJ m.sig)+(m.eqs.length+bulkRows (m.eqs.map ZaO)+(m.rules.length+bulkRows (m.rules.map ZaO))):=by
 simp only [ZcW,ZaJ,bulkRow,ZaU,Tay];omega
theorem ZfI {l:List Eqn} {e:Eqn} (h:e∈l):bulkRow (ZaO e)<=bulkRows (l.map ZaO):=by
 obtain ⟨i,hi⟩:=Tbk h;have:(l.map ZaO)[i]?=some (ZaO e):=by rw [Tba,hi];rfl
 exact ZbF this
theorem Zqz {m:Mdl} (hm:Zjn m) (hb:bulkRow (ZcW m)<=1048576):Con e0 21 [.agg (ZcW m)] [.one (.lit (.bool (ZcQ m)))]:=by
 rw [ZpC] at hb;obtain ⟨hokg,hoe,hou⟩:=hm;have cS:=ZgZ hokg;rw [ZaJ] at cS;have cE:=fun (e:Eqn) (he:Zga e) (hb:bulkRow (ZaO e)<=1048576)=>Zqx hokg he hb;rw [ZaJ] at cE;have er:=ZpB;have ed:ZcW m=[.sl (m.sig.sorts.names.map ZbY),.sl (m.sig.sorts.subs.map Zb6),.sl (m.sig.ops.map Zbc),.sl (m.eqs.map ZaO),.sl (m.rules.map ZaO)]:=rfl;rw [ed];refine gI 4505867404705823 Tryz.func21 ?_;refine fB (aj3 @tmz @eqz @er) ?_
 refine fC @tmz (cS) ?_;by_cases hs:Zb8 m.sig=true;rotate_left
 ·have hs':Zb8 m.sig=false:=by simpa using hs
  have hf:ZcQ m=false:=by simp [ZcQ,hs']
  refine fR (ai @tmz @hs') ?_;exact fT @hf
 by_cases h1:m.eqs.length<=16;rotate_left
 ·have hf:ZcQ m=false:=by simp [ZcQ,Zev,h1]
  have h1':(16:Int) < (m.eqs.length:Int):=om;refine fR (aj3 @tmz @hs @h1') ?_;exact fT @hf
 have h1':¬ ((16:Int) < (m.eqs.length:Int)):=om;by_cases h2:m.rules.length<=16;rotate_left
 ·have hf:ZcQ m=false:=by simp [ZcQ,Zev,h2]
  have h2':(16:Int) < (m.rules.length:Int):=om;refine fR (aj4 @tmz @hs @h1' @h2') ?_;exact fT @hf
 have h2':¬ ((16:Int) < (m.rules.length:Int)):=om;have ei:ZcQ m=(m.eqs.all (eqnB m.sig) && m.rules.all (eqnB m.sig)):=by simp [ZcQ,Zev,hs,h1,h2]
 rw [ei];have eq':∀ e,ZhV m.sig e=eqnB m.sig e:=fun e=>by simp [ZhV,hs]
 refine fR (aj4 @tmz @hs @h1' @h2') ?_;refine fG (aj3 @tmz @eqz @er) ?_;have F:=@e0P;refine gL (ι:=Nat) [2,3,25,36] [] (fun x=>[(3,A.d (.one (.lit (.int .i64 x))))]) (fun x=>[]) (fun x=>x<=m.eqs.length∧(m.eqs.take x).all (eqnB m.sig)=true) (fun x=>m.eqs.length - x) (0) (⟨Taj _,rfl⟩) (fun x hx=>?_);clear F;obtain ⟨hxl,hall⟩:=hx;by_cases hlt:x < m.eqs.length
 ·have q1:(x:Int) < (m.eqs.length:Int):=om;obtain ⟨c,hc⟩:∃ a,m.eqs[x]?=some a:=⟨_,Taa hlt⟩;have hmm:=Tac hc;have hw1:=Zaw (k:=x) om;have hbb:=ZfI hmm;refine fB (aj5 @tmz @eqz @er @q1 @hc) ?_;refine fC (aj4 @tmz @eqz @er @hc) (cE c (hoe c hmm) om) ?_;rw [eq' c]
  cases hh:eqnB m.sig c with
  | false =>
   have hf:m.eqs.all (eqnB m.sig)=false:=Zc6 hmm hh;refine fR @tmz ?_;exact fT @hf
  | true =>
   have hq:x+1<=m.eqs.length∧(m.eqs.take (x+1)).all (eqnB m.sig)=true:=⟨hlt,by rw [ZdP hc,hall,hh];rfl⟩;refine fR @tmz ?_;have F:=ai @tmz @hw1;refine gG ?_;exact ⟨x+1,hq,gw,gw,om⟩
 obtain rfl:x=m.eqs.length:=by omega
 have q1:¬ ((m.eqs.length:Int) < (m.eqs.length:Int)):=om;rw [Tap] at hall;rw [hall,Bool.true_and];refine fG (aj4 @tmz @eqz @er @q1) ?_;have F:=@e0P;refine gL (ι:=Nat) [2,4,41,52] [] (fun y=>[(4,A.d (.one (.lit (.int .i64 y))))]) (fun y=>[]) (fun y=>y<=m.rules.length∧(m.rules.take y).all (eqnB m.sig)=true) (fun y=>m.rules.length - y) (0) (⟨Taj _,rfl⟩) (fun y hy=>?_);clear F;obtain ⟨hyl,hally⟩:=hy;by_cases hlt2:y < m.rules.length
 ·have q2:(y:Int) < (m.rules.length:Int):=om;obtain ⟨c,hc⟩:∃ a,m.rules[y]?=some a:=⟨_,Taa hlt2⟩;have hmm:=Tac hc;have hw1:=Zaw (k:=y) om;have hbb:=ZfI hmm;refine fB (aj5 @tmz @eqz @er @q2 @hc) ?_;refine fC (aj4 @tmz @eqz @er @hc) (cE c (hou c hmm) om) ?_;rw [eq' c]
  cases hh:eqnB m.sig c with
  | false =>
   have hf:m.rules.all (eqnB m.sig)=false:=Zc6 hmm hh;refine fR @tmz ?_;exact fT @hf
  | true =>
   have hq:y+1<=m.rules.length∧(m.rules.take (y+1)).all (eqnB m.sig)=true:=⟨hlt2,by rw [ZdP hc,hally,hh];rfl⟩;refine fR @tmz ?_;have F:=ai @tmz @hw1;refine gG ?_;exact ⟨y+1,hq,gw,gw,om⟩
 obtain rfl:y=m.rules.length:=by omega
 have q2:¬ ((m.rules.length:Int) < (m.rules.length:Int)):=om;rw [Tap] at hally;exact fT (aj4 @tmz @er @q2 @hally)
theorem Zw9 {e:Env} {f:FuncId} {rows:List (List C)} {r:List D} (h:Con e f [.one (.sl rows)] r):Con e f [.clip rows] r :=
 h.weaken fun w S vs hv=>by
  match vs,hv with
  | [x],hv=>exact ⟨hv.1.1,trivial⟩
theorem Zxa {m:Mdl} {mc:C} (hg:SgnOk m.sig) (hm:Zjn m) (hb:bulkRow (ZcW m)<=1048576):Con e0 31 [.one (.ptr (encX m.sig mc)),.agg (ZcW m)] [.one (.lit (.bool (Zev m)))]:=by
 rw [ZpC] at hb;obtain ⟨hokg,hoe,hou⟩:=hm;have cE:=fun (e:Eqn) (he:Zga e) (hb:bulkRow (ZaO e)<=1048576)=>Ztl (mc:=mc) hg he hb;have er:=ZpB;have ed:ZcW m=[.sl (m.sig.sorts.names.map ZbY),.sl (m.sig.sorts.subs.map Zb6),.sl (m.sig.ops.map Zbc),.sl (m.eqs.map ZaO),.sl (m.rules.map ZaO)]:=rfl;rw [ed];refine gI 2210463835 Tryz.func31 ?_;by_cases h1:m.eqs.length<=16;rotate_left
 ·have hf:Zev m=false:=by simp [Zev,h1]
  have h1':(16:Int) < (m.eqs.length:Int):=om;exact fT (aj4 @tmz @er @h1' @hf)
 have h1':¬ ((16:Int) < (m.eqs.length:Int)):=om;by_cases h2:m.rules.length<=16;rotate_left
 ·have hf:Zev m=false:=by simp [Zev,h2]
  have h2':(16:Int) < (m.rules.length:Int):=om;exact fT (aj5 @tmz @er @h1' @h2' @hf)
 have h2':¬ ((16:Int) < (m.rules.length:Int)):=om;have cC:=Zw9 (Zql [m.eqs.map ZaO,m.rules.map ZaO] (by intro r hr;simp at hr;rcases hr with rfl | rfl <;> exact er _) (by simp) (by simp;omega));have ef:[m.eqs.map ZaO,m.rules.map ZaO].flatten=(m.eqs++m.rules).map ZaO:=by simp
 rw [ef] at cC;simp only [Tbq,List.map_nil] at cC;have ei:Zev m=(m.eqs++m.rules).all (eqnB m.sig):=by simp [Zev,h1,h2,List.all_append]
 rw [ei];have hal:∀ e∈m.eqs++m.rules,Zga e∧bulkRow (ZaO e)<=1048576:=fun e he=>by
  rcases Tbh.1 he with h | h
  ·have:=ZfI h;exact ⟨hoe e h,om⟩
  ·have:=ZfI h;exact ⟨hou e h,om⟩
 have hln:(m.eqs++m.rules).length<=32:=by rw [Tae];omega
 refine fB (aj4 @tmz @er @h1' @h2') ?_;refine fC (ai @tmz @er) (cC) ?_;generalize m.eqs++m.rules=l at *;refine fR (ai @tmz @er) ?_;refine fG (ai @tmz @er) ?_;have F:=@e0P;refine gL (ι:=Nat) [4,6,24,25,31] [] (fun x=>[(24,A.d (.one (.lit (.int .i64 x))))]) (fun x=>[]) (fun x=>x<=l.length∧(l.take x).all (eqnB m.sig)=true) (fun x=>l.length - x) (0) (⟨Taj _,rfl⟩) (fun x hx=>?_);clear F;obtain ⟨hxl,hall⟩:=hx
 by_cases hlt:x < l.length
 ·have q1:(x:Int) < (l.length:Int):=om;obtain ⟨c,hc⟩:∃ a,l[x]?=some a:=⟨_,Taa hlt⟩;have hmm:=Tac hc;have hw1:=Zaw (k:=x) om;refine fB (aj5 @tmz @eqz @er @q1 @hc) ?_;refine fC (aj4 @tmz @eqz @er @hc) (cE c (hal c hmm).1 (hal c hmm).2) ?_
  cases hh:eqnB m.sig c with
  | false =>
   have hf:l.all (eqnB m.sig)=false:=Zc6 hmm hh;refine fR @tmz ?_;exact fT @hf
  | true =>
   have hq:x+1<=l.length∧(l.take (x+1)).all (eqnB m.sig)=true:=⟨hlt,by rw [ZdP hc,hall,hh];rfl⟩;refine fR @tmz ?_;have F:=ai @tmz @hw1;refine gG ?_;exact ⟨x+1,hq,gw,gw,om⟩
 obtain rfl:x=l.length:=by omega
 have q1:¬ ((l.length:Int) < (l.length:Int)):=om;rw [Tap] at hall;exact fT (aj4 @tmz @er @q1 @hall)
noncomputable def Zee (m:Mdl) (r:Rdr):Option Tm:=if ZcQ m=true∧rdrB m.sig r=true then whR m.sig r.stk.reverse r.now else none
open Classical in
theorem Zkn {g:Sgn} {r:Rdr}:rdrB g r=true ↔ TermOk g r.now∧∀ p∈r.stk,PndOk g p:=by
 unfold rdrB;rw [Tar,ZbS,decide_eq_true_eq]
theorem Zc7 {m:Mdl} {r:Rdr} (h:¬ ((ZcQ m && Zbd m.sig r.now)=true∧∀ p∈r.stk,PndOk m.sig p)):Zee m r=none:=if_neg fun q=>h ⟨by rw [q.1,ZbS.2 (Zkn.1 q.2).1];rfl,(Zkn.1 q.2).2⟩
theorem Zgb {m:Mdl} {r:Rdr} (h:(ZcQ m && Zbd m.sig r.now)=true∧∀ p∈r.stk,PndOk m.sig p):Zee m r=whR m.sig r.stk.reverse r.now:=if_pos ⟨(Tar _ _ ▸ h.1).1,Zkn.2 ⟨ZbS.1 (Tar _ _ ▸ h.1).2,h.2⟩⟩
theorem Zfr {m:Mdl} (h:ZcQ m=true):Zb8 m.sig=true:=(Tar _ _ ▸ h).1
theorem Zsk {g:Sgn} {t:Tm} (h:TermOk g t):bulkRow (Zad t)<=1048576:=by
 have h1:=ZmV h.form;have h2:=h.size;omega
theorem ZgS {α:Type} {P:α->Prop} {l:List α} {i:Nat} {a:α} (h:l[i]?=some a):(∀ x∈l.take (i+1),P x) ↔ ((∀ x∈l.take i,P x)∧P a):=by
 rw [List.take_add_one,h];constructor
 ·exact fun q=>⟨fun x hx=>q x (List.mem_append_left _ hx),q a (List.mem_append_right _ (by simp))⟩
 ·rintro ⟨q1,q2⟩ x hx;rcases Tbh.1 hx with h | h
  ·exact q1 x h
  ·simp only [Option.toList_some,Tbj] at h;rw [h];exact q2
theorem Ztm {m:Mdl} (hm:Zjn m) {r:Rdr} (hr:ZnU r) (hb:bulkRow (ZcW m)<=1048576) (hbr:bulkRow (ZeK r)<=1048576):Con e0 6 [.agg (ZcW m),.agg (ZeK r)] [.agg (Zad ((Zee m r).getD zTm)),.one (.lit (.bool (Zee m r).isSome))]:=by
 have hz:=Zeu;have hbr':=hbr;rw [Zo6] at hbr';have cM:=Zqz hm hb;have cT:=Zhg hm.1 hr.1 (Zd0 om);have cI:=fun x (hi:Int)=>ZdN x 0 hi;have hrb:=Zlj r.stk;have hkl:(r.stk.map ZaX).length=r.stk.length:=Tay ..;obtain ⟨a1,a2,a3,a4,a5,a6⟩:=rdrA r.now (.sl (r.stk.map ZaX)) (.lit (.bool r.nrm)) (.lit (.int .i64 r.work)) (.lit (.int .i64 r.code)) rfl rfl rfl rfl;have ed:ZcW m=[.sl (m.sig.sorts.names.map ZbY),.sl (m.sig.sorts.subs.map Zb6),.sl (m.sig.ops.map Zbc),.sl (m.eqs.map ZaO),.sl (m.rules.map ZaO)]:=rfl
 have er:ZeK r=Zad r.now++[.sl (r.stk.map ZaX),.lit (.bool r.nrm),.lit (.int .i64 r.work),.lit (.int .i64 r.code)]:=rfl;rw [ZaJ] at cT;rw [ed] at cM;rw [ed,er];refine gI (ts:=[.cell 4 42,.slot 5]) 4836293862499252093067263 Tryz.func6 ?_;refine fN 1 (aj5 @a1 @a2 @a3 @a4 @tmz) ?_;refine gM (ι:=Bool) [6] [] (fun v=>[(6,A.d (.one (.lit (.bool v))))]) (fun v=>[]) (fun v=>v=(ZcQ m && Zbd m.sig r.now)) ?_ (fun v hv=>Exists.intro _ (ai (Wk.refl _) ?_))
 ·refine gB ?_;refine fC @tmz (cM) ?_
  cases h1:ZcQ m with
  | false =>
   refine fR @tmz ?_;have F:=@tmz;refine gG ?_;exact ⟨false,rfl,gw,gw⟩
  | true =>
   rw [Zfr h1,Bool.true_and] at cT;refine fC (aj6 @a1 @a2 @a3 @a4 @a5 @tmz) (cT) ?_;refine fR @tmz ?_;have F:=@tmz;refine gG ?_;exact ⟨Zbd m.sig r.now,(Bool.true_and _).symm,gw,gw⟩
 refine fG @tmz ?_;have F:=@tmz;refine gL (ι:=Nat × Bool) [6,7,8,9,10,29,58] [] (fun x=>[(7,A.d (.one (.lit (.int .i64 x.1)))),(6,A.d (.one (.lit (.bool x.2))))]) (fun x=>[]) (fun x=>x.1<=r.stk.length∧(x.2=true ↔ (v=true∧∀ p∈r.stk.take x.1,PndOk m.sig p))) (fun x=>r.stk.length - x.1) ((0,v)) (⟨Taj _,by simp⟩) (fun x hx=>?_);clear F;obtain ⟨i,z⟩:=x;simp only at hx;obtain ⟨hi,hzz⟩:=hx;dsimp only;by_cases hlt:i < r.stk.length
 rotate_left
 ·obtain rfl:i=r.stk.length:=by omega
  have q1:=lF r.stk.length r.stk.length;rw [Tap] at hzz
  cases z with
  | false =>
   have hno:Zee m r=none:=Zc7 fun h=>by
    have:=hzz.2 ⟨by rw [hv];exact h.1,h.2⟩
    cases this
   rw [hno];refine fG (aj8 @q1 @a1 @a2 @a3 @a4 @a6 @hkl @tmz) ?_;exact fD (ai @hz @tmz)
  | true =>
   obtain ⟨h1,h2⟩:=hzz.1 rfl;rw [hv] at h1;rw [Zgb ⟨h1,h2⟩];have g1:=(Tar _ _ ▸ h1).1;have g2:=(Tar _ _ ▸ h1).2;have hg:=Zeb.1 (Zfr g1);have hT:=ZbS.1 g2;have cW:=Zpi hm.1 hg h2 hT om;have hbu:=fun u hu=>Zsk (Zlk hg (fun p hp=>h2 p (List.mem_reverse.1 hp)) hT (u:=u) hu);rw [ZaJ] at cW;refine fN 14 (aj8 @q1 @a1 @a2 @a3 @a4 @a6 @hkl @tmz) ?_;refine gB ?_;refine fC (aj7 @a1 @a2 @a3 @a4 @a5 @a6 @tmz) (cW) ?_
   cases hw:whR m.sig r.stk.reverse r.now with
   | none =>
    refine fR @tmz ?_;exact fD (ai @hz @tmz)
   | some u =>
    have cP:=ZhS u (hbu u hw);refine fR @tmz ?_;refine fN 17 @tmz ?_;refine gB ?_;refine fC @tmz (cP) ?_;refine fR @tmz ?_;exact fD @tmz
 have q1:=lT i r.stk.length
 cases z with
 | false =>
  have hno:Zee m r=none:=Zc7 fun h=>by
   have:=hzz.2 ⟨by rw [hv];exact h.1,fun p hp=>h.2 p (List.mem_of_mem_take hp)⟩
   cases this
  rw [hno];refine fG (aj8 @q1 @a1 @a2 @a3 @a4 @a6 @hkl @tmz) ?_;exact fD (ai @hz @tmz)
 | true =>
 obtain ⟨h1,h2⟩:=hzz.1 rfl;have h1':=h1;rw [hv] at h1;have g1:=(Tar _ _ ▸ h1).1;have hg:=Zeb.1 (Zfr g1);have hln:=hg.len;obtain ⟨p,hp⟩:∃ p,r.stk[i]?=some p:=⟨_,Taa hlt⟩;have hk:(r.stk.map ZaX)[i]?=some [.lit (.int .i64 p.op),.sl (Zaa p.dn),.sl (Zaa p.lf)]:=by rw [Tba,hp];rfl
 have hbp:=ZbF hk;have hpo:=hr.2 p (Tac hp);simp only [bulkRow,ZaU,Zac] at hbp;have cTx:=fun (x:Tm) (hx:okTm x) (hbx:bulkRow (Zad x)<=1048576)=>Zhg hm.1 hx (Zd0 hbx);simp only [Zfr g1,Bool.true_and,ZaJ] at cTx;have wo:IntKind.i64.wrap ((m.sig.ops.length:Int) - 1)=(m.sig.ops.length:Int) - 1:=IntWalk.i64_in _ om;have hol:(m.sig.ops.map Zbc).length=m.sig.ops.length:=Tay ..;have wi:=Zaw (k:=i) om;have hl1:(Zaa p.dn).length=p.dn.length:=Zac _
 have hl2:(Zaa p.lf).length=p.lf.length:=Zac _;have m1:(p.dn.length<=maxApp)=True:=eq_true (by unfold maxApp;omega);have m2:(p.dn.length+p.lf.length<=maxApp)=True:=eq_true (by unfold maxApp;omega);have r1:ZaC 4 (Zaa p.dn)=true:=Zco _;have r2:ZaC 4 (Zaa p.lf)=true:=Zco _;refine fN 6 (aj10 @q1 @hk @hkl @hrb @a1 @a2 @a3 @a4 @a6 @tmz) ?_;refine gB ?_;refine fC (aj3 @wo @hol @tmz) (cI p.op ((m.sig.ops.length:Int) - 1)) ?_
 refine fR @tmz ?_;generalize hd:decide (0<=p.op∧p.op<=(m.sig.ops.length:Int) - 1)=z0;refine fN 7 @tmz ?_
 /- gk l18wt1 -/
 refine gGx (X:=UU) [(0,.d (.agg [.sl (m.sig.sorts.names.map ZbY),.sl (m.sig.sorts.subs.map Zb6),.sl (m.sig.ops.map Zbc),.sl (m.eqs.map ZaO),.sl (m.rules.map ZaO)])),(1,.d (.agg (Zad r.now++[.sl (r.stk.map ZaX),.lit (.bool r.nrm),.lit (.int .i64 r.work),.lit (.int .i64 r.code)]))),(2,.ref 2 0),(3,.ref 3 0),(4,.ref 4 0),(5,.d (.one (.lit (.bool false)))),(6,.d (.one (.lit (.bool z0)))),(7,.d (.one (.lit (.int .i64 (i:Int))))),(8,.ref 8 0)] [(2,.var none [.sl (m.sig.sorts.names.map ZbY),.sl (m.sig.sorts.subs.map Zb6),.sl (m.sig.ops.map Zbc),.sl (m.eqs.map ZaO),.sl (m.rules.map ZaO)]),(3,.var none (Zad r.now++[.sl (r.stk.map ZaX),.lit (.bool r.nrm),.lit (.int .i64 r.work),.lit (.int .i64 r.code)])),(4,.var none [.lit (.int .i64 0),.lit (.string ByteArray.empty),.lit (.int .i64 0),.sl []]),(8,.var none [.lit (.int .i64 p.op),.sl (Zaa p.dn),.sl (Zaa p.lf)])] (fun _ x=>x.ok) (fun x=>[([(45,.d (.clip []))],[]),([(46,.ref 8 1)],[]),([(47,.d (.one (.sl (Zaa p.dn))))],[]),([(48,.buf 48)],[(48,.buf none 42 4 (Zaa p.dn))]),([(49,.ref 8 2)],[]),([(50,.d (.one (.sl (Zaa p.lf))))],[]),([(51,.buf 51)],[(51,.buf none 42 4 ((Zaa p.dn)++(Zaa p.lf)))]),([(9,.buf 9)],[(9,.buf none 42 4 ((Zaa p.dn)++(Zaa p.lf)))])]) (fun j=>([(3,6),(6,7)]:List (Nat × Nat)).lookup j) [] (⟨by simp [gs],by simp [gm]⟩) (fun j hj=>by simp at hj) ⟨?_,?_,?_,?_,?_,?_,?_,?_,trivial⟩ ?_
 ·intro s' m' hB hD hI hJ;have F:=ZaQ.1 hB;simp only [lkS,lkM,List.getD_cons_zero,List.getD_cons_succ,and_true,true_and] at F;have F:=aj8 F m1 m2 r1 r2 hl1 hl2 tmz;refine gO3 ?_;exact xS hB (Zap.2 ⟨UU.z,UU.z_ok,by simp [lkS,lkM,gs,gm,Zat,UU.two,UU.vs,UU.sl]⟩)
 ·intro s' m' hB hD hI hJ;have F:=ZaQ.1 hB;simp only [lkS,lkM,List.getD_cons_zero,List.getD_cons_succ,and_true,true_and] at F;have F:=aj8 F m1 m2 r1 r2 hl1 hl2 tmz;refine gO3 ?_;exact xS hB (Zap.2 ⟨UU.z,UU.z_ok,by simp [lkS,lkM,gs,gm,Zat,UU.two,UU.vs,UU.sl]⟩)
 ·intro s' m' hB hD hI hJ;have F:=ZaQ.1 hB;simp only [lkS,lkM,List.getD_cons_zero,List.getD_cons_succ,and_true,true_and] at F;obtain ⟨x1,o1,F1⟩:=Zap.1 (hD 1 (by decide) (.inl rfl));simp only [lkS,lkM,List.getD_cons_zero,List.getD_cons_succ,and_true,true_and] at F1;have F:=ai F F1;have F:=aj8 F m1 m2 r1 r2 hl1 hl2 tmz;refine gO3 ?_;exact xS hB (Zap.2 ⟨UU.z,UU.z_ok,by simp [lkS,lkM,gs,gm,Zat,F1,UU.two,UU.vs,UU.sl]⟩)
 ·intro s' m' hB hD hI hJ;have F:=ZaQ.1 hB;simp only [lkS,lkM,List.getD_cons_zero,List.getD_cons_succ,and_true,true_and] at F;obtain ⟨x0,o0,F0⟩:=Zap.1 (hD 0 (by decide) (.inl rfl));obtain ⟨x2,o2,F2⟩:=Zap.1 (hD 2 (by decide) (.inl rfl));simp only [lkS,lkM,List.getD_cons_zero,List.getD_cons_succ,and_true,true_and] at F0;have F:=ai F F0;simp only [lkS,lkM,List.getD_cons_zero,List.getD_cons_succ,and_true,true_and] at F2
  have F:=ai F F2;have F:=aj8 F m1 m2 r1 r2 hl1 hl2 tmz;refine gO3 ?_;exact xB hB (Zap.2 ⟨UU.z,UU.z_ok,by simp [lkS,lkM,gs,gm,Zat,F0,F2,UU.two,UU.vs,UU.sl]⟩)
 ·intro s' m' hB hD hI hJ;have F:=ZaQ.1 hB;simp only [lkS,lkM,List.getD_cons_zero,List.getD_cons_succ,and_true,true_and] at F;have F:=aj8 F m1 m2 r1 r2 hl1 hl2 tmz;refine gO3 ?_;exact xS hB (Zap.2 ⟨UU.z,UU.z_ok,by simp [lkS,lkM,gs,gm,Zat,UU.two,UU.vs,UU.sl]⟩)
 ·intro s' m' hB hD hI hJ;have F:=ZaQ.1 hB;simp only [lkS,lkM,List.getD_cons_zero,List.getD_cons_succ,and_true,true_and] at F;obtain ⟨x4,o4,F4⟩:=Zap.1 (hD 4 (by decide) (.inl rfl));simp only [lkS,lkM,List.getD_cons_zero,List.getD_cons_succ,and_true,true_and] at F4;have F:=ai F F4;have F:=aj8 F m1 m2 r1 r2 hl1 hl2 tmz;refine gO3 ?_;exact xS hB (Zap.2 ⟨UU.z,UU.z_ok,by simp [lkS,lkM,gs,gm,Zat,F4,UU.two,UU.vs,UU.sl]⟩)
 ·intro s' m' hB hD hI hJ;have F:=ZaQ.1 hB;simp only [lkS,lkM,List.getD_cons_zero,List.getD_cons_succ,and_true,true_and] at F;obtain ⟨x3,o3,F3⟩:=Zap.1 (hD 3 (by decide) (.inr rfl));obtain ⟨x5,o5,F5⟩:=Zap.1 (hD 5 (by decide) (.inl rfl));simp only [lkS,lkM,List.getD_cons_zero,List.getD_cons_succ,and_true,true_and] at F3;have F:=ai F F3;simp only [lkS,lkM,List.getD_cons_zero,List.getD_cons_succ,and_true,true_and] at F5
  have F:=ai F F5;have F:=aj8 F m1 m2 r1 r2 hl1 hl2 tmz;refine gO3 ?_;exact xE hB (Zap.2 ⟨UU.z,UU.z_ok,by simp [lkS,lkM,gs,gm,Zat,F3,F5,UU.two,UU.vs,UU.sl]⟩)
 ·intro s' m' hB hD hI hJ;have F:=ZaQ.1 hB;simp only [lkS,lkM,List.getD_cons_zero,List.getD_cons_succ,and_true,true_and] at F;obtain ⟨x6,o6,F6⟩:=Zap.1 (hD 6 (by decide) (.inr rfl));simp only [lkS,lkM,List.getD_cons_zero,List.getD_cons_succ,and_true,true_and] at F6;have F:=ai F F6;have F:=aj8 F m1 m2 r1 r2 hl1 hl2 tmz;refine gO3 ?_;exact xE hB (Zap.2 ⟨UU.z,UU.z_ok,by simp [lkS,lkM,gs,gm,Zat,F6,UU.two,UU.vs,UU.sl]⟩)
 intro s' m' hB hP;obtain ⟨x7,o7,P7⟩:=hP 7 (.inl (by decide)) (fun k h=>by simp [List.lookup] at h);refine ⟨_,_,hB.app P7,?_⟩;simp only [Taf,Tah,List.append_nil,List.getD_cons_zero,List.getD_cons_succ]
 /- gk end l18wt1 -/
 refine ⟨_,Wk.refl _,?_⟩;refine Zc9 (Zd8 [9] (by simp only [pz,↓reduceIte,Nat.reduceEqDiff,Nat.reduceAdd,Nat.reduceSub,Nat.reduceMul,Nat.reduceLeDiff,Nat.reduceBEq,Tam,decide_true,decide_false,Int.reduceLE,Int.reduceToNat,Int.reduceLT,Int.reduceEq,eq_self,Nat.reduceShiftRight,Nat.reduceAnd,Nat.reduceBneDiff,tmz];exact rfl)) fun σ' hσ=>?_;subst hσ;rw [<- ZbK];obtain ⟨L,hL⟩:∃ L,L=p.dn++p.lf:=⟨_,rfl⟩
 rw [<- hL];have hz0:z0=true ↔ (0<=p.op∧p.op < m.sig.ops.length):=by
  rw [<- hd,decide_eq_true_eq];omega
 have hLb:L.length+bulkRows (Zaa L)<=1048576:=by
  rw [hL,Zfe,Tae];omega
 have hLo:∀ x∈L,okTm x:=fun x hx=>by
  rw [hL] at hx;rcases Tbh.1 hx with h | h
  ·exact ZfR.1 hpo.2.1 x h
  ·exact ZfR.1 hpo.2.2 x h
 have hPk:PndOk m.sig p ↔ ((0<=p.op∧p.op < m.sig.ops.length)∧∀ x∈L,TermOk m.sig x):=by
  rw [hL];exact ⟨fun h=>⟨⟨h.lo,h.hi⟩,h.all⟩,fun h=>⟨h.1.1,h.1.2,h.2⟩⟩
 have hlL:(Zaa L).length=L.length:=Zac _;have rbL:ZaC 4 (Zaa L)=true:=Zco _
 have hnext:∀ c:Bool,(c=true ↔ PndOk m.sig p)->i+1<=r.stk.length∧(c=true ↔ (v=true∧∀ p∈r.stk.take (i+1),PndOk m.sig p)):=fun c hc=>⟨hlt,by
  rw [ZgS (P:=PndOk m.sig) hp,hc];exact ⟨fun h=>⟨h1',h2,h⟩,fun h=>h.2.2⟩⟩
 refine fG @tmz ?_;have F:=@tmz;refine gL (ι:=Nat × Bool) [6,10,58] [] (fun y=>[(10,A.d (.one (.lit (.int .i64 y.1)))),(6,A.d (.one (.lit (.bool y.2))))]) (fun y=>[]) (fun y=>y.1<=L.length∧(y.2=true ↔ ((0<=p.op∧p.op < m.sig.ops.length)∧∀ x∈L.take y.1,TermOk m.sig x))) (fun y=>L.length - y.1) ((0,z0)) (⟨Taj _,by simpa using hz0⟩) (fun y hy=>?_);clear F;obtain ⟨k,c⟩:=y;simp only at hy;obtain ⟨hkl2,hcc⟩:=hy
 dsimp only;by_cases hkt:k < L.length;rotate_left
 ·obtain rfl:k=L.length:=by omega
  have q2:=lF L.length L.length;rw [Tap,<- hPk] at hcc;have F:=aj3 @q2 @wi @tmz;refine gG ?_;exact ⟨(i+1,c),hnext c hcc,gw,gw,om⟩
 have q2:=lT k L.length
 cases c with
 | false =>
  have hcc':false=true ↔ PndOk m.sig p:=⟨fun h=>(by cases h),fun h=>hcc.2 ⟨(hPk.1 h).1,fun x hx=>(hPk.1 h).2 x (List.mem_of_mem_take hx)⟩⟩;have F:=aj3 @q2 @wi @tmz;refine gG ?_;exact ⟨(i+1,false),hnext false hcc',gw,gw,om⟩
 | true =>
 obtain ⟨hop,hall⟩:=hcc.1 rfl;obtain ⟨tx,hLk⟩:∃ x,L[k]?=some x:=⟨_,Taa hkt⟩;have hxm:=Tac hLk;have hbx:=ZbF (rows:=Zaa L) (i:=k) (r:=Zad tx) (by rw [ZbD,hLk];rfl);have cTx:=cTx tx (hLo tx hxm) om;have wk:=Zaw (k:=k) om;refine fN 11 (ai @q2 @tmz) ?_
 /- gk l18wt2 -/
 refine gGx (X:=UU) [(0,.d (.agg [.sl (m.sig.sorts.names.map ZbY),.sl (m.sig.sorts.subs.map Zb6),.sl (m.sig.ops.map Zbc),.sl (m.eqs.map ZaO),.sl (m.rules.map ZaO)])),(1,.d (.agg (Zad r.now++[.sl (r.stk.map ZaX),.lit (.bool r.nrm),.lit (.int .i64 r.work),.lit (.int .i64 r.code)]))),(2,.ref 2 0),(3,.ref 3 0),(4,.ref 4 0),(5,.d (.one (.lit (.bool false)))),(7,.d (.one (.lit (.int .i64 (i:Int))))),(8,.ref 8 0),(9,.d (.one (.sl (Zaa L)))),(10,.d (.one (.lit (.int .i64 (k:Int)))))] [(2,.var none [.sl (m.sig.sorts.names.map ZbY),.sl (m.sig.sorts.subs.map Zb6),.sl (m.sig.ops.map Zbc),.sl (m.eqs.map ZaO),.sl (m.rules.map ZaO)]),(3,.var none (Zad r.now++[.sl (r.stk.map ZaX),.lit (.bool r.nrm),.lit (.int .i64 r.work),.lit (.int .i64 r.code)])),(4,.var none [.lit (.int .i64 0),.lit (.string ByteArray.empty),.lit (.int .i64 0),.sl []]),(8,.var none [.lit (.int .i64 p.op),.sl (Zaa p.dn),.sl (Zaa p.lf)])] (fun _ x=>x.ok) (fun x=>[([(61,.ref 2 0)],[]),([(62,.d (.agg [.sl (m.sig.sorts.names.map ZbY),.sl (m.sig.sorts.subs.map Zb6),.sl (m.sig.ops.map Zbc)]))],[]),([(63,.d (.one (.sl (Zaa L))))],[]),([(64,.d (.one (.lit (.int .i64 (k:Int)))))],[]),([(65,.d (.one (.ptr (Zad tx))))],[]),([(66,.d (.agg (Zad tx)))],[]),([(67,.d (.one (.lit (.bool (Zbd m.sig tx)))))],[]),([(6,.d (.one (.lit (.bool (Zbd m.sig tx)))))],[])]) (fun _=>none) [] (⟨by simp [gs],by simp [gm]⟩) (fun j hj=>by simp at hj) ⟨?_,?_,?_,?_,?_,?_,?_,?_,trivial⟩ ?_
 ·intro s' m' hB hD hI hJ;have F:=ZaQ.1 hB;simp only [lkS,lkM,List.getD_cons_zero,List.getD_cons_succ,and_true,true_and] at F;have F:=aj5 F hLk hlL rbL tmz;refine gO3 ?_;exact xS hB (Zap.2 ⟨UU.z,UU.z_ok,by simp [lkS,lkM,gs,gm,Zat,UU.two,UU.vs,UU.sl]⟩)
 ·intro s' m' hB hD hI hJ;have F:=ZaQ.1 hB;simp only [lkS,lkM,List.getD_cons_zero,List.getD_cons_succ,and_true,true_and] at F;obtain ⟨x0,o0,F0⟩:=Zap.1 (hD 0 (by decide) (.inl rfl));simp only [lkS,lkM,List.getD_cons_zero,List.getD_cons_succ,and_true,true_and] at F0;have F:=ai F F0;have F:=aj5 F hLk hlL rbL tmz;refine gO3 ?_;exact xS hB (Zap.2 ⟨UU.z,UU.z_ok,by simp [lkS,lkM,gs,gm,Zat,F0,UU.two,UU.vs,UU.sl]⟩)
 ·intro s' m' hB hD hI hJ;have F:=ZaQ.1 hB;simp only [lkS,lkM,List.getD_cons_zero,List.getD_cons_succ,and_true,true_and] at F;have F:=aj5 F hLk hlL rbL tmz;refine gO3 ?_;exact xS hB (Zap.2 ⟨UU.z,UU.z_ok,by simp [lkS,lkM,gs,gm,Zat,UU.two,UU.vs,UU.sl]⟩)
 ·intro s' m' hB hD hI hJ;have F:=ZaQ.1 hB;simp only [lkS,lkM,List.getD_cons_zero,List.getD_cons_succ,and_true,true_and] at F;have F:=aj5 F hLk hlL rbL tmz;refine gO3 ?_;exact xS hB (Zap.2 ⟨UU.z,UU.z_ok,by simp [lkS,lkM,gs,gm,Zat,UU.two,UU.vs,UU.sl]⟩)
 ·intro s' m' hB hD hI hJ;have F:=ZaQ.1 hB;simp only [lkS,lkM,List.getD_cons_zero,List.getD_cons_succ,and_true,true_and] at F;obtain ⟨x2,o2,F2⟩:=Zap.1 (hD 2 (by decide) (.inl rfl));obtain ⟨x3,o3,F3⟩:=Zap.1 (hD 3 (by decide) (.inl rfl));simp only [lkS,lkM,List.getD_cons_zero,List.getD_cons_succ,and_true,true_and] at F2;have F:=ai F F2;simp only [lkS,lkM,List.getD_cons_zero,List.getD_cons_succ,and_true,true_and] at F3
  have F:=ai F F3;have F:=aj5 F hLk hlL rbL tmz;refine gO3 ?_;exact xS hB (Zap.2 ⟨UU.z,UU.z_ok,by simp [lkS,lkM,gs,gm,Zat,F2,F3,UU.two,UU.vs,UU.sl]⟩)
 ·intro s' m' hB hD hI hJ;have F:=ZaQ.1 hB;simp only [lkS,lkM,List.getD_cons_zero,List.getD_cons_succ,and_true,true_and] at F;obtain ⟨x4,o4,F4⟩:=Zap.1 (hD 4 (by decide) (.inl rfl));simp only [lkS,lkM,List.getD_cons_zero,List.getD_cons_succ,and_true,true_and] at F4;have F:=ai F F4;have F:=aj5 F hLk hlL rbL tmz;refine gO3 ?_;exact xS hB (Zap.2 ⟨UU.z,UU.z_ok,by simp [lkS,lkM,gs,gm,Zat,F4,UU.two,UU.vs,UU.sl]⟩)
 ·intro s' m' hB hD hI hJ;have F:=ZaQ.1 hB;simp only [lkS,lkM,List.getD_cons_zero,List.getD_cons_succ,and_true,true_and] at F;obtain ⟨x1,o1,F1⟩:=Zap.1 (hD 1 (by decide) (.inl rfl));obtain ⟨x5,o5,F5⟩:=Zap.1 (hD 5 (by decide) (.inl rfl));simp only [lkS,lkM,List.getD_cons_zero,List.getD_cons_succ,and_true,true_and] at F1;have F:=ai F F1;simp only [lkS,lkM,List.getD_cons_zero,List.getD_cons_succ,and_true,true_and] at F5
  have F:=ai F F5;have F:=aj5 F hLk hlL rbL tmz;refine gC (cTx) ?_;refine ZbP ?_;exact xS hB (Zap.2 ⟨UU.z,UU.z_ok,by simp [lkS,lkM,gs,gm,Zat]⟩)
 ·intro s' m' hB hD hI hJ;have F:=ZaQ.1 hB;simp only [lkS,lkM,List.getD_cons_zero,List.getD_cons_succ,and_true,true_and] at F;obtain ⟨x6,o6,F6⟩:=Zap.1 (hD 6 (by decide) (.inl rfl));simp only [lkS,lkM,List.getD_cons_zero,List.getD_cons_succ,and_true,true_and] at F6;have F:=ai F F6;have F:=aj5 F hLk hlL rbL tmz;refine gO3 ?_;exact xS hB (Zap.2 ⟨UU.z,UU.z_ok,by simp [lkS,lkM,gs,gm,Zat,F6,UU.two,UU.vs,UU.sl]⟩)
 intro s' m' hB hP;obtain ⟨x7,o7,P7⟩:=hP 7 (.inl (by decide)) (fun k h=>by simp [List.lookup] at h);refine ⟨_,_,hB.app P7,?_⟩;simp only [Taf,Tah,List.append_nil,List.getD_cons_zero,List.getD_cons_succ]
 /- gk end l18wt2 -/
 refine ⟨_,Wk.refl _,?_⟩;have F:=ai @wk @tmz;refine gG ?_;exact ⟨(k+1,Zbd m.sig tx),⟨hkt,by dsimp only;rw [ZgS (P:=TermOk m.sig) hLk,ZbS];exact ⟨fun h=>⟨hop,hall,h⟩,fun h=>h.2.2⟩⟩,gw,gw,om⟩
theorem Zsn {m:Mdl} {r:Rdr}:bulkRow (Zad ((Zee m r).getD zTm))<=1048576:=by
 by_cases h:(ZcQ m && Zbd m.sig r.now)=true∧∀ p∈r.stk,PndOk m.sig p
 ·rw [Zgb h]
  cases hw:whR m.sig r.stk.reverse r.now with
  | none=>simp [Zeu,bulkRow,ZaU,bulkRows]
  | some u =>
   have h1:=(Tar _ _ ▸ h.1).1;have h2:=(Tar _ _ ▸ h.1).2;exact Zsk (Zlk (Zeb.1 (Zfr h1)) (fun p hp=>h.2 p (List.mem_reverse.1 hp)) (ZbS.1 h2) hw)
 ·rw [Zc7 h];simp [Zeu,bulkRow,ZaU,bulkRows]
theorem ZBb {m:Mdl} {r:Rdr} (hm:Zjn m) (hr:ZnU r):Zak (Zae .term) (Zad ((Zee m r).getD zTm)):=by
 have hz:Zak (Zae .term) (Zad zTm):=Ziv _ (by simp [zTm,okTm,ZaG,I64,maxLen]);by_cases h:(ZcQ m && Zbd m.sig r.now)=true∧∀ p∈r.stk,PndOk m.sig p
 ·rw [Zgb h]
  cases hw:whR m.sig r.stk.reverse r.now with
  | none=>exact hz
  | some u =>
   have h1:=(Tar _ _ ▸ h.1).1;have h2:=(Tar _ _ ▸ h.1).2;have hg:=Zeb.1 (Zfr h1);exact Ziv _ ((Zlk hg (fun p hp=>h.2 p (List.mem_reverse.1 hp)) (ZbS.1 h2) hw).ok hg)
 ·rw [Zc7 h];exact hz
theorem ZqA {m:Mdl} (hm:Zjn m) {r:Rdr} (hr:ZnU r) (hb:bulkRow (ZcW m)<=1048576) (hbr:bulkRow (ZeK r)<=1048576):ConP e0 9 [.agg (ZcW m),.agg (ZeK r)] [] (ZdE (Zad ((Zee m r).getD zTm)) (Zee m r).isSome):=by
 have hbr':=hbr;rw [Zo6] at hbr';have hrb:=Zlj r.stk;have hkl:(r.stk.map ZaX).length=r.stk.length:=Tay ..;obtain ⟨a1,a2,a3,a4,a5,a6⟩:=rdrA r.now (.sl (r.stk.map ZaX)) (.lit (.bool r.nrm)) (.lit (.int .i64 r.work)) (.lit (.int .i64 r.code)) rfl rfl rfl rfl;have ed:ZcW m=[.sl (m.sig.sorts.names.map ZbY),.sl (m.sig.sorts.subs.map Zb6),.sl (m.sig.ops.map Zbc),.sl (m.eqs.map ZaO),.sl (m.rules.map ZaO)]:=rfl
 have er:ZeK r=Zad r.now++[.sl (r.stk.map ZaX),.lit (.bool r.nrm),.lit (.int .i64 r.work),.lit (.int .i64 r.code)]:=rfl;by_cases hg:SgnOk m.sig;rotate_left
 ·rw [Zc7 fun h=>hg (Zeb.1 (Zfr (Tar _ _ ▸ h.1).1))];have c:=Zl6 hm.1 hg;rw [ZaJ] at c;rw [ed,er];refine gIP (ts:=[.cell 4 42,.slot 5]) [] 607598641166445189887 Tryz.func9 ?_;refine fN 1 (aj5 @a1 @a2 @a3 @a4 @tmz) ?_;refine gB ?_;refine fC @tmz (c) ?_;refine fR @tmz ?_;refine fN 3 @tmz ?_;refine gB ?_;refine gX ?_;refine fR @e0P ?_;refine fG @tmz ?_;refine pE [] [1001] Zhj ?_;exact (have F:=@e0P;gTP (R:=ZdE (Zad zTm) false) [1001] ⟨[.int .i64 0,.string ByteArray.empty,.int .i64 0,.slice none 0 0],_,rfl,by rw [Zeu];rfl,rfl,rfl⟩)
 have hs:=Zf5 hg;have hmd:ZcQ m=Zev m:=by rw [ZcQ,hs,Bool.true_and]
 have c:=Zqg hm.1 hg;have cH:=fun mc=>Zxa (mc:=mc) hg hm hb;have hcp:=Zo4 ((Zee m r).getD zTm) Zsn;rw [ZaJ] at c;rw [ed] at cH;rw [ed,er];refine gIP (ts:=[.cell 4 42,.slot 5]) [] 607598641166445189887 Tryz.func9 ?_;refine fN 1 (aj5 @a1 @a2 @a3 @a4 @tmz) ?_;refine gB ?_;have F:=@tmz;refine gCE (c) ?_;clear F;rintro r2 ⟨b,rfl⟩;have c1:=cH (.lit (.map (some b)));have c2:=fun (t:Tm) (ht:okTm t) hb=>ZjI (mc:=.lit (.map (some b))) hg (t:=t) ht (Zd0 hb)
 have c3:=fun (hs:∀ p∈r.stk,PndOk m.sig p) (ht:TermOk m.sig r.now)=>ZwS (mc:=.lit (.map (some b))) hg hs ht om;clear cH;generalize C.lit (.map (some b))=mc at c1 c2 c3 ⊢;refine fR (ai @ZAB @Zi7) ?_;refine fN 2 @tmz ?_;refine gB ?_;refine fC @tmz (c1) ?_
 cases h1:Zev m with
 | false =>
  rw [Zc7 fun h=>by rw [hmd,h1] at h;cases h.1];refine fR @tmz ?_;refine fN 3 @tmz ?_;refine gB ?_;refine gX ?_;refine fR @e0P ?_;refine fG @tmz ?_;refine pE [] [1001] Zhj ?_;exact (have F:=@e0P;gTP (R:=ZdE (Zad zTm) false) [1001] ⟨[.int .i64 0,.string ByteArray.empty,.int .i64 0,.slice none 0 0],_,rfl,by rw [Zeu];rfl,rfl,rfl⟩)
 | true =>
 rw [h1] at hmd;refine fC (aj6 @a1 @a2 @a3 @a4 @a5 @tmz) (c2 r.now hr.1 om) ?_
 cases h2:Zbd m.sig r.now with
 | false =>
  rw [Zc7 fun h=>by rw [h2,Bool.and_false] at h;cases h.1];refine fR @tmz ?_;refine fN 3 @tmz ?_;refine gB ?_;refine gX ?_;refine fR @e0P ?_;refine fG @tmz ?_;refine pE [] [1001] Zhj ?_;exact (have F:=@e0P;gTP (R:=ZdE (Zad zTm) false) [1001] ⟨[.int .i64 0,.string ByteArray.empty,.int .i64 0,.slice none 0 0],_,rfl,by rw [Zeu];rfl,rfl,rfl⟩)
 | true =>
 have hA:(ZcQ m && Zbd m.sig r.now)=true:=by rw [hmd,h2];rfl
 refine fR @tmz ?_;refine fN 4 (aj6 @a1 @a2 @a3 @a4 @a6 @tmz) ?_;refine fG (aj4 @hkl @hrb @a6 @tmz) ?_;have F:=@tmz;refine gL (ι:=Nat) [5,9,11,38,39,53,60,61,62,63,69] [] (fun i=>[(38,A.d (.one (.lit (.int .i64 i))))]) (fun i=>[]) (fun i=>i<=r.stk.length∧∀ p∈r.stk.take i,PndOk m.sig p) (fun i=>r.stk.length - i) (0) (⟨Taj _,by simp⟩) (fun i hi=>?_);clear F;obtain ⟨hi,hall⟩:=hi;have hln:=hg.len;by_cases hlt:i < r.stk.length
 rotate_left
 ·obtain rfl:i=r.stk.length:=by omega
  have q1:=lF r.stk.length r.stk.length;rw [Tap] at hall;have cW:=c3 hall (ZbS.1 h2);rw [Zgb ⟨hA,hall⟩] at hcp ⊢;generalize whR m.sig r.stk.reverse r.now=w at cW hcp ⊢;refine fN 16 (aj8 @q1 @a1 @a2 @a3 @a4 @a6 @hkl @tmz) ?_;refine gB ?_;refine fC (aj7 @a1 @a2 @a3 @a4 @a5 @a6 @tmz) (cW) ?_;refine fR @tmz ?_;refine fN 17 @tmz ?_;refine gB ?_;have F:=@tmz;refine gCP [] [1001] (hcp) ?_;clear F;rintro r pm ⟨us,E2,rfl,hu,hok,rfl⟩
  have hu':=hu;rw [Ziw] at hu;obtain ⟨u0,u1,u2,u3,rfl⟩:=len4 hu;obtain ⟨k0,k1,k2,k3⟩:=okc4 hok;simp only [ZdC,setA,retA,zipM,Taf,Tah];refine fR (aj5 @tmz @k0 @k1 @k2 @k3) ?_;refine fG @tmz ?_;exact (have F:=@e0P;gTP (R:=ZdE (Zad (w.getD zTm)) w.isSome) [1001] ⟨[u0,u1,u2,u3],E2,rfl,hu',hok,rfl⟩)
 have q1:=lT i r.stk.length;obtain ⟨p,hp⟩:∃ p,r.stk[i]?=some p:=⟨_,Taa hlt⟩;have hpm:=Tac hp;have hk:(r.stk.map ZaX)[i]?=some [.lit (.int .i64 p.op),.sl (Zaa p.dn),.sl (Zaa p.lf)]:=by rw [Tba,hp];rfl
 have hbp:=ZbF hk;have hpo:=hr.2 p hpm;simp only [bulkRow,ZaU,Zac] at hbp;have hol:(m.sig.ops.map Zbc).length=m.sig.ops.length:=Tay ..;have wi:=Zaw (k:=i) om;have hl1:(Zaa p.dn).length=p.dn.length:=Zac _;have hl2:(Zaa p.lf).length=p.lf.length:=Zac _;have cC:=Zlo (Zyg p.dn p.lf om);refine fN 7 (aj5 @q1 @hk @hkl @hrb @tmz) ?_;by_cases ho1:p.op < 0
 ·rw [Zc7 fun h=>by have:=(h.2 p hpm).lo;omega];have o1:(p.op < 0)=True:=eq_true ho1;refine fN 8 (ai @o1 @tmz) ?_;refine gB ?_;refine gX ?_;refine fR @e0P ?_;refine fG @tmz ?_;refine pE [] [1001] Zhj ?_;exact (have F:=@e0P;gTP (R:=ZdE (Zad zTm) false) [1001] ⟨[.int .i64 0,.string ByteArray.empty,.int .i64 0,.slice none 0 0],_,rfl,by rw [Zeu];rfl,rfl,rfl⟩)
 have o1:(p.op < 0)=False:=eq_false ho1;by_cases ho2:(m.sig.ops.length:Int)<=p.op
 ·rw [Zc7 fun h=>by have:=(h.2 p hpm).hi;omega];have o2:((m.sig.ops.length:Int)<=p.op)=True:=eq_true ho2;refine fN 8 (aj4 @o1 @o2 @hol @tmz) ?_;refine gB ?_;refine gX ?_;refine fR @e0P ?_;refine fG @tmz ?_;refine pE [] [1001] Zhj ?_;exact (have F:=@e0P;gTP (R:=ZdE (Zad zTm) false) [1001] ⟨[.int .i64 0,.string ByteArray.empty,.int .i64 0,.slice none 0 0],_,rfl,by rw [Zeu];rfl,rfl,rfl⟩)
 have o2:((m.sig.ops.length:Int)<=p.op)=False:=eq_false ho2;refine fN 9 (aj4 @o1 @o2 @hol @tmz) ?_;refine gB ?_;refine fC @tmz (cC) ?_;refine fR @tmz ?_;have hPk:(∀ x∈p.dn++p.lf,TermOk m.sig x)->PndOk m.sig p:=fun h=>⟨om,om,h⟩;have hPn:PndOk m.sig p->∀ x∈p.dn++p.lf,TermOk m.sig x:=fun h=>h.all;have hLb:(p.dn++p.lf).length+bulkRows (Zaa (p.dn++p.lf))<=1048576:=by
  rw [Zfe,Tae];omega
 have hLo:∀ x∈p.dn++p.lf,okTm x:=fun x hx=>by
  rcases Tbh.1 hx with h | h
  ·exact ZfR.1 hpo.2.1 x h
  ·exact ZfR.1 hpo.2.2 x h
 rw [show p.dn.length+p.lf.length=(p.dn++p.lf).length from Tae.symm];generalize p.dn++p.lf=L at hPk hPn hLb hLo ⊢;have hlL:(Zaa L).length=L.length:=Zac _;have rbL:ZaC 4 (Zaa L)=true:=Zco _;refine fG (ai @hlL @tmz) ?_;have F:=ai @hlL @tmz;refine gL (ι:=Nat) [5,11,62,63,69] [] (fun k=>[(62,A.d (.one (.lit (.int .i64 k))))]) (fun k=>[]) (fun k=>k<=L.length∧∀ x∈L.take k,TermOk m.sig x) (fun k=>L.length - k) (0) (⟨Taj _,by simp⟩) (fun k hk=>?_);clear F
 obtain ⟨hkl2,hal2⟩:=hk;by_cases hkt:k < L.length;rotate_left
 ·obtain rfl:k=L.length:=by omega
  have q2:=lF L.length L.length;rw [Tap] at hal2;have F:=aj3 @q2 @wi @tmz;refine gG ?_;exact ⟨i+1,⟨hlt,(ZgS (P:=PndOk m.sig) hp).2 ⟨hall,hPk hal2⟩⟩,gw,gw,om⟩
 have q2:=lT k L.length;obtain ⟨tx,hLk⟩:∃ x,L[k]?=some x:=⟨_,Taa hkt⟩;have hxm:=Tac hLk;have hbx:=ZbF (rows:=Zaa L) (i:=k) (r:=Zad tx) (by rw [ZbD,hLk];rfl);have cT:=c2 tx (hLo tx hxm) om;have wk:=Zaw (k:=k) om;refine fN 12 (aj5 @q2 @hLk @hlL @rbL @tmz) ?_;refine gB ?_;refine fC @tmz (cT) ?_
 cases h3:Zbd m.sig tx with
 | false =>
  rw [Zc7 fun h=>by rw [ZbS.2 (hPn (h.2 p hpm) tx hxm)] at h3;cases h3];refine fR @tmz ?_;refine fN 13 @tmz ?_;refine gB ?_;refine gX ?_;refine fR @e0P ?_;refine fG @tmz ?_;refine pE [] [1001] Zhj ?_;exact (have F:=@e0P;gTP (R:=ZdE (Zad zTm) false) [1001] ⟨[.int .i64 0,.string ByteArray.empty,.int .i64 0,.slice none 0 0],_,rfl,by rw [Zeu];rfl,rfl,rfl⟩)
 | true =>
  refine fR @tmz ?_;have F:=ai @wk @tmz;refine gG ?_;exact ⟨k+1,⟨hkt,(ZgS (P:=TermOk m.sig) hLk).2 ⟨hal2,ZbS.1 h3⟩⟩,gw,gw,om⟩
theorem Zkv {row0:List C} (hok0:Zak (Zbz) row0) {row1:List C} (hok1:Zak (redF) row1) {wr:List C} (hokw:Zak (Zae .term) wr) {R1:Bool} (hBw0:bulkRow row0<=1048576->bulkRow row1<=1048576->(bulkRow row0)+(bulkRow row1)<=1048576->bulkRow wr<=1048576) (hsp0:bulkRow row0<=1048576->bulkRow row1<=1048576->(bulkRow row0)+(bulkRow row1)<=1048576->Con e0 6 [.agg row0,.agg row1] [.agg wr,.one (.lit (.bool R1))]) (him0:bulkRow row0<=1048576->bulkRow row1<=1048576->(bulkRow row0)+(bulkRow row1)<=1048576->ConP e0 9 [.agg row0,.agg row1] [] (ZdE wr R1)):Con e0 3 [.agg row0,.agg row1] [.one (.lit (.bool true))]:=by
 have okc0:=hok0.cells;obtain ⟨len0,tk0,dr0⟩:=hok0.take (n:=5) rfl;have okc1:=hok1.cells;obtain ⟨len1,tk1,dr1⟩:=hok1.take (n:=8) rfl;have okcw:=hokw.cells;obtain ⟨lenw,tkw,drw⟩:=hokw.take (n:=4) rfl;refine gI 375143459175437362528818962907660287 Tryz.func3 ?_;refine fG (aj13 @okc0 @len0 @tk0 @dr0 @okc1 @len1 @tk1 @dr1 @ZaF @okcw @lenw @tkw @drw) ?_;have hL0_0:(0:Int)<=1048576:=om;have hL0_1:(1048576:Int)<=1048576:=om
 refine gB ?_;refine fC (aj13 @okc0 @len0 @tk0 @dr0 @okc1 @len1 @tk1 @dr1 @ZaF @okcw @lenw @tkw @drw) (ZpL hok0 hL0_0 hL0_1) ?_;refine fR (aj13 @okc0 @len0 @tk0 @dr0 @okc1 @len1 @tk1 @dr1 @ZaF @okcw @lenw @tkw @drw) ?_;by_cases hb0:((bulkRow row0:Nat):Int)<=1048576;rotate_left
 ·have n1:sub 1048576 (bulkRow row0:Nat)=-1:=Zay om;have n2:(-1:Int) < 0:=om;exact fT (ai @n1 @n2)
 have nq:sub 1048576 (bulkRow row0:Nat)=1048576 - ((bulkRow row0:Nat):Nat):=ZaP om;rw [nq];clear nq;have hB0:bulkRow row0<=1048576:=om;have hL1_0:(0:Int)<=1048576 - ((bulkRow row0:Nat):Nat):=om;have hL1_1:(1048576:Int) - ((bulkRow row0:Nat):Nat)<=1048576:=om;generalize hgl0:(1048576:Int) - ((bulkRow row0:Nat):Nat)=L1 at *;have n2:¬ (L1 < 0):=om;refine fG (aj14 @n2 @okc0 @len0 @tk0 @dr0 @okc1 @len1 @tk1 @dr1 @ZaF @okcw @lenw @tkw @drw) ?_
 clear n2 hb0;refine gB ?_;refine fC (aj13 @okc0 @len0 @tk0 @dr0 @okc1 @len1 @tk1 @dr1 @ZaF @okcw @lenw @tkw @drw) (ZnA hok1 hL1_0 hL1_1) ?_;refine fR (aj13 @okc0 @len0 @tk0 @dr0 @okc1 @len1 @tk1 @dr1 @ZaF @okcw @lenw @tkw @drw) ?_;by_cases hb1:((bulkRow row1:Nat):Int)<=L1;rotate_left
 ·have n1:sub L1 (bulkRow row1:Nat)=-1:=Zay om;have n2:(-1:Int) < 0:=om;exact fT (ai @n1 @n2)
 have nq:sub L1 (bulkRow row1:Nat)=L1 - ((bulkRow row1:Nat):Nat):=ZaP om;rw [nq];clear nq;have hB1:bulkRow row1<=1048576:=om;have hL2_0:(0:Int)<=L1 - ((bulkRow row1:Nat):Nat):=om;have hL2_1:(L1:Int) - ((bulkRow row1:Nat):Nat)<=1048576:=om;generalize hgl1:(L1:Int) - ((bulkRow row1:Nat):Nat)=L2 at *;have n2:¬ (L2 < 0):=om;refine fG (aj14 @n2 @okc0 @len0 @tk0 @dr0 @okc1 @len1 @tk1 @dr1 @ZaF @okcw @lenw @tkw @drw) ?_
 clear n2 hb1;have hBt:(bulkRow row0)+(bulkRow row1)<=1048576:=om;have hsp:=hsp0 hB0 hB1 hBt;have him:=him0 hB0 hB1 hBt;have hBw:=hBw0 hB0 hB1 hBt;have hcw:cntTop wr<=16 * bulkRow wr:=ZgT _ _ hokw;have cE:=Zez hokw;have cT0:=ZpN hok0 hB0;have cP0:=Zia hok0 hB0;have cQ0:=ZpM hok0;have hc0:cntTop row0<=16 * bulkRow row0:=ZgT _ _ hok0;have cT1:=ZnC hok1 hB1;have cP1:=Zhn hok1 hB1;have cQ1:=ZnB hok1;have hc1:cntTop row1<=16 * bulkRow row1:=ZgT _ _ hok1
 refine gLt 8 7 9 ?_;refine fC (aj13 @okc0 @len0 @tk0 @dr0 @okc1 @len1 @tk1 @dr1 @ZaF @okcw @lenw @tkw @drw) (cT0) ?_;refine fC (aj13 @okc0 @len0 @tk0 @dr0 @okc1 @len1 @tk1 @dr1 @ZaF @okcw @lenw @tkw @drw) (cT1) ?_;refine fC (aj13 @okc0 @len0 @tk0 @dr0 @okc1 @len1 @tk1 @dr1 @ZaF @okcw @lenw @tkw @drw) (hsp) ?_;refine fR (aj13 @okc0 @len0 @tk0 @dr0 @okc1 @len1 @tk1 @dr1 @ZaF @okcw @lenw @tkw @drw) ?_
 refine fB (aj13 @okc0 @len0 @tk0 @dr0 @okc1 @len1 @tk1 @dr1 @ZaF @okcw @lenw @tkw @drw) ?_;have F:=aj13 @okc0 @len0 @tk0 @dr0 @okc1 @len1 @tk1 @dr1 @ZaF @okcw @lenw @tkw @drw;refine gCP [] [1000] (cP0) ?_;clear F;rintro r pm ⟨us0,E0,rfl,hu0,cu0,rfl⟩;rw [len0] at hu0;obtain ⟨lu0,tu0,du0⟩:=Zkq hu0;simp only [setA,retA,zipM,Taf,Tah];refine fR (aj15 @okc0 @len0 @tk0 @dr0 @okc1 @len1 @tk1 @dr1 @ZaF @okcw @lenw @tkw @drw @lu0 (aj3 @tu0 @du0 @cu0)) ?_
 refine fB (aj15 @okc0 @len0 @tk0 @dr0 @okc1 @len1 @tk1 @dr1 @ZaF @okcw @lenw @tkw @drw @lu0 (aj3 @tu0 @du0 @cu0)) ?_;have F:=aj15 @okc0 @len0 @tk0 @dr0 @okc1 @len1 @tk1 @dr1 @ZaF @okcw @lenw @tkw @drw @lu0 (aj3 @tu0 @du0 @cu0);refine gCP [] [1001] (cP1) ?_;clear F;rintro r pm ⟨us1,E1,rfl,hu1,cu1,rfl⟩;rw [len1] at hu1;obtain ⟨lu1,tu1,du1⟩:=Zkq hu1;simp only [setA,retA,zipM,Taf,Tah];refine fR (aj16 @okc0 @len0 @tk0 @dr0 @okc1 @len1 @tk1 @dr1 @ZaF @okcw @lenw @tkw @drw @lu0 @tu0 (aj6 @du0 @cu0 @lu1 @tu1 @du1 @cu1)) ?_
 refine fB (aj16 @okc0 @len0 @tk0 @dr0 @okc1 @len1 @tk1 @dr1 @ZaF @okcw @lenw @tkw @drw @lu0 @tu0 (aj6 @du0 @cu0 @lu1 @tu1 @du1 @cu1)) ?_;have F:=aj16 @okc0 @len0 @tk0 @dr0 @okc1 @len1 @tk1 @dr1 @ZaF @okcw @lenw @tkw @drw @lu0 @tu0 (aj6 @du0 @cu0 @lu1 @tu1 @du1 @cu1);refine gCP [1000,1001] [1100,1000,1001] (Zsl (lits:=[.agg (Zaf us0),.agg (Zaf us1)]) [.set E0 (fun w=>Zag w row0 E0 us0),.set E1 (fun w=>Zag w row1 E1 us1)] him ⟨.tree Tas,.tree (Tal _ Tas),trivial⟩ rfl (fun _ _ h=>ZdE.lits h)) ?_;clear F
 rintro r pm ⟨q1,⟨usg,Eg,rfl,hug,cug,rfl⟩,rfl⟩;rw [lenw] at hug;obtain ⟨lug,tug,dug⟩:=Zkq hug;simp only [setA,retA,zipM,Taf,Tah];refine fR (aj16 @okc0 @len0 @tk0 @dr0 @okc1 @len1 @tk1 @dr1 @ZaF @okcw @lenw @tkw @drw @lu0 @tu0 (aj10 @du0 @cu0 @lu1 @tu1 @du1 @cu1 @lug @tug @dug @cug)) ?_;refine fB (aj16 @okc0 @len0 @tk0 @dr0 @okc1 @len1 @tk1 @dr1 @ZaF @okcw @lenw @tkw @drw @lu0 @tu0 (aj10 @du0 @cu0 @lu1 @tu1 @du1 @cu1 @lug @tug @dug @cug)) ?_
 have F:=aj16 @okc0 @len0 @tk0 @dr0 @okc1 @len1 @tk1 @dr1 @ZaF @okcw @lenw @tkw @drw @lu0 @tu0 (aj10 @du0 @cu0 @lu1 @tu1 @du1 @cu1 @lug @tug @dug @cug);refine gCP [1100] [1100] (Zhk (lits:=[.agg (Zaf usg),.agg wr]) [.set Eg (fun w=>Zag w wr Eg usg)] cE ⟨.tree Tas,.same,trivial⟩ rfl rfl) ?_;clear F;rintro r pm ⟨rfl,rfl⟩;simp only [setA,retA,zipM,Taf,Tah];refine fR (aj16 @okc0 @len0 @tk0 @dr0 @okc1 @len1 @tk1 @dr1 @ZaF @okcw @lenw @tkw @drw @lu0 @tu0 (aj11 @du0 @cu0 @lu1 @tu1 @du1 @cu1 @lug @tug @dug @cug @beq_self_eq_true.{0})) ?_
 refine fB (aj16 @okc0 @len0 @tk0 @dr0 @okc1 @len1 @tk1 @dr1 @ZaF @okcw @lenw @tkw @drw @lu0 @tu0 (aj11 @du0 @cu0 @lu1 @tu1 @du1 @cu1 @lug @tug @dug @cug @beq_self_eq_true.{0})) ?_;refine fC (aj16 @okc0 @len0 @tk0 @dr0 @okc1 @len1 @tk1 @dr1 @ZaF @okcw @lenw @tkw @drw @lu0 @tu0 (aj10 @du0 @cu0 @lu1 @tu1 @du1 @cu1 @lug @tug @dug @cug)) (cT0) ?_;have F:=aj16 @okc0 @len0 @tk0 @dr0 @okc1 @len1 @tk1 @dr1 @ZaF @okcw @lenw @tkw @drw @lu0 @tu0 (aj10 @du0 @cu0 @lu1 @tu1 @du1 @cu1 @lug @tug @dug @cug);refine gCP [1000] [1000] (Zhk (lits:=[.agg (Zaf us0),.agg row0]) [.set E0 (fun w=>Zag w row0 E0 us0)] cQ0 ⟨.tree Tas,.same,trivial⟩ rfl rfl) ?_;clear F
 rintro r pm ⟨rfl,rfl⟩;simp only [setA,retA,zipM,Taf,Tah];refine fR (aj16 @okc0 @len0 @tk0 @dr0 @okc1 @len1 @tk1 @dr1 @ZaF @okcw @lenw @tkw @drw @lu0 @tu0 (aj10 @du0 @cu0 @lu1 @tu1 @du1 @cu1 @lug @tug @dug @cug)) ?_;refine fB (aj16 @okc0 @len0 @tk0 @dr0 @okc1 @len1 @tk1 @dr1 @ZaF @okcw @lenw @tkw @drw @lu0 @tu0 (aj10 @du0 @cu0 @lu1 @tu1 @du1 @cu1 @lug @tug @dug @cug)) ?_;refine fC (aj16 @okc0 @len0 @tk0 @dr0 @okc1 @len1 @tk1 @dr1 @ZaF @okcw @lenw @tkw @drw @lu0 @tu0 (aj10 @du0 @cu0 @lu1 @tu1 @du1 @cu1 @lug @tug @dug @cug)) (cT1) ?_
 have F:=aj16 @okc0 @len0 @tk0 @dr0 @okc1 @len1 @tk1 @dr1 @ZaF @okcw @lenw @tkw @drw @lu0 @tu0 (aj10 @du0 @cu0 @lu1 @tu1 @du1 @cu1 @lug @tug @dug @cug);refine gCP [1001] [1001] (Zhk (lits:=[.agg (Zaf us1),.agg row1]) [.set E1 (fun w=>Zag w row1 E1 us1)] cQ1 ⟨.tree Tas,.same,trivial⟩ rfl rfl) ?_;clear F;rintro r pm ⟨rfl,rfl⟩;simp only [setA,retA,zipM,Taf,Tah];refine fR (aj16 @okc0 @len0 @tk0 @dr0 @okc1 @len1 @tk1 @dr1 @ZaF @okcw @lenw @tkw @drw @lu0 @tu0 (aj10 @du0 @cu0 @lu1 @tu1 @du1 @cu1 @lug @tug @dug @cug)) ?_
 refine fB (aj16 @okc0 @len0 @tk0 @dr0 @okc1 @len1 @tk1 @dr1 @ZaF @okcw @lenw @tkw @drw @lu0 @tu0 (aj10 @du0 @cu0 @lu1 @tu1 @du1 @cu1 @lug @tug @dug @cug)) ?_;have F:=aj16 @okc0 @len0 @tk0 @dr0 @okc1 @len1 @tk1 @dr1 @ZaF @okcw @lenw @tkw @drw @lu0 @tu0 (aj10 @du0 @cu0 @lu1 @tu1 @du1 @cu1 @lug @tug @dug @cug);refine gCP [1000] [1000] (Zme hok0 (1) E0 us0 om cu0 om om) ?_;clear F;rintro r pm ⟨F0,rfl,rfl⟩
 simp only [setA,retA,zipM,Taf,Tah];refine fR (aj16 @okc0 @len0 @tk0 @dr0 @okc1 @len1 @tk1 @dr1 @ZaF @okcw @lenw @tkw @drw @lu0 @tu0 (aj10 @du0 @cu0 @lu1 @tu1 @du1 @cu1 @lug @tug @dug @cug)) ?_;refine fB (aj16 @okc0 @len0 @tk0 @dr0 @okc1 @len1 @tk1 @dr1 @ZaF @okcw @lenw @tkw @drw @lu0 @tu0 (aj10 @du0 @cu0 @lu1 @tu1 @du1 @cu1 @lug @tug @dug @cug)) ?_;have F:=aj16 @okc0 @len0 @tk0 @dr0 @okc1 @len1 @tk1 @dr1 @ZaF @okcw @lenw @tkw @drw @lu0 @tu0 (aj10 @du0 @cu0 @lu1 @tu1 @du1 @cu1 @lug @tug @dug @cug);refine gCP [1001] [1001] (ZlB hok1 (1+(cntTop row0:Int)) E1 us1 om cu1 om om) ?_;clear F
 rintro r pm ⟨F1,rfl,rfl⟩;simp only [setA,retA,zipM,Taf,Tah];refine fR (aj16 @okc0 @len0 @tk0 @dr0 @okc1 @len1 @tk1 @dr1 @ZaF @okcw @lenw @tkw @drw @lu0 @tu0 (aj10 @du0 @cu0 @lu1 @tu1 @du1 @cu1 @lug @tug @dug @cug)) ?_;refine fG (aj16 @okc0 @len0 @tk0 @dr0 @okc1 @len1 @tk1 @dr1 @ZaF @okcw @lenw @tkw @drw @lu0 @tu0 (aj10 @du0 @cu0 @lu1 @tu1 @du1 @cu1 @lug @tug @dug @cug)) ?_;have nk:(1+(cntTop row0:Int)+(cntTop row1:Int) < 0)=False:=eq_false om
 refine gB ?_;have F:=aj16 @okc0 @len0 @tk0 @dr0 @okc1 @len1 @tk1 @dr1 @ZaF @okcw @lenw @tkw @drw @lu0 @tu0 (aj11 @du0 @cu0 @lu1 @tu1 @du1 @cu1 @lug @tug @dug @cug @nk);refine gCP [1100] [1100] (Zhk (lits:=[.agg (Zaf usg),.agg wr]) [.set Eg (fun w=>Zag w wr Eg usg)] cE ⟨.tree Tas,.same,trivial⟩ rfl rfl) ?_;clear F;rintro r pm ⟨rfl,rfl⟩;simp only [setA,retA,zipM,Taf,Tah];refine fR (aj16 @okc0 @len0 @tk0 @dr0 @okc1 @len1 @tk1 @dr1 @ZaF @okcw @lenw @tkw @drw @lu0 @tu0 (aj12 @du0 @cu0 @lu1 @tu1 @du1 @cu1 @lug @tug @dug @cug @nk @beq_self_eq_true.{0})) ?_
 refine fB (aj16 @okc0 @len0 @tk0 @dr0 @okc1 @len1 @tk1 @dr1 @ZaF @okcw @lenw @tkw @drw @lu0 @tu0 (aj12 @du0 @cu0 @lu1 @tu1 @du1 @cu1 @lug @tug @dug @cug @nk @beq_self_eq_true.{0})) ?_;have F:=aj16 @okc0 @len0 @tk0 @dr0 @okc1 @len1 @tk1 @dr1 @ZaF @okcw @lenw @tkw @drw @lu0 @tu0 (aj11 @du0 @cu0 @lu1 @tu1 @du1 @cu1 @lug @tug @dug @cug @nk);refine gCP [1100] [1100] (ZiX hokw 1 Eg usg om cug om om) ?_;clear F
 rintro r pm ⟨Fg,rfl,rfl⟩;simp only [setA,retA,zipM,Taf,Tah];refine fR (aj16 @okc0 @len0 @tk0 @dr0 @okc1 @len1 @tk1 @dr1 @ZaF @okcw @lenw @tkw @drw @lu0 @tu0 (aj11 @du0 @cu0 @lu1 @tu1 @du1 @cu1 @lug @tug @dug @cug @nk)) ?_;refine fG (aj16 @okc0 @len0 @tk0 @dr0 @okc1 @len1 @tk1 @dr1 @ZaF @okcw @lenw @tkw @drw @lu0 @tu0 (aj11 @du0 @cu0 @lu1 @tu1 @du1 @cu1 @lug @tug @dug @cug @nk)) ?_;have nm:(1+(cntTop wr:Int) < 0)=False:=eq_false om
 have cH:=ZpF hokw om 1 om om;refine gB ?_;have F:=aj16 @okc0 @len0 @tk0 @dr0 @okc1 @len1 @tk1 @dr1 @ZaF @okcw @lenw @tkw @drw @lu0 @tu0 (aj12 @du0 @cu0 @lu1 @tu1 @du1 @cu1 @lug @tug @dug @cug @nk @nm);refine gCP [1100] [1100] (Zhk (lits:=[.agg (Zaf usg),.one (.lit (.int .i64 1))]) [.set Fg (fun w=>Zag w (ZcT 1 wr) Fg usg)] cH ⟨.tree Tas,.same,trivial⟩ rfl rfl) ?_;clear F;rintro r pm ⟨rfl,rfl⟩;simp only [setA,retA,zipM,Taf,Tah]
 refine fR (aj16 @okc0 @len0 @tk0 @dr0 @okc1 @len1 @tk1 @dr1 @ZaF @okcw @lenw @tkw @drw @lu0 @tu0 (aj12 @du0 @cu0 @lu1 @tu1 @du1 @cu1 @lug @tug @dug @cug @nk @nm)) ?_;refine fG (aj16 @okc0 @len0 @tk0 @dr0 @okc1 @len1 @tk1 @dr1 @ZaF @okcw @lenw @tkw @drw @lu0 @tu0 (aj13 @du0 @cu0 @lu1 @tu1 @du1 @cu1 @lug @tug @dug @cug @nk @nm @beq_self_eq_true.{0})) ?_;have cD:=Zxb him;refine gLt 8 7 9 ?_;refine fC (aj13 @okc0 @len0 @tk0 @dr0 @okc1 @len1 @tk1 @dr1 @ZaF @okcw @lenw @tkw @drw) (cT0) ?_
 refine fC (aj13 @okc0 @len0 @tk0 @dr0 @okc1 @len1 @tk1 @dr1 @ZaF @okcw @lenw @tkw @drw) (cT1) ?_;refine fC (aj16 @okc0 @len0 @tk0 @dr0 @okc1 @len1 @tk1 @dr1 @ZaF @okcw @lenw @tkw @drw @lu0 @tu0 (aj12 @du0 @cu0 @lu1 @tu1 @du1 @cu1 @lug @tug @dug @cug @nk @nm)) (cD) ?_;refine fR (aj16 @okc0 @len0 @tk0 @dr0 @okc1 @len1 @tk1 @dr1 @ZaF @okcw @lenw @tkw @drw @lu0 @tu0 (aj12 @du0 @cu0 @lu1 @tu1 @du1 @cu1 @lug @tug @dug @cug @nk @nm)) ?_
 refine fB (aj16 @okc0 @len0 @tk0 @dr0 @okc1 @len1 @tk1 @dr1 @ZaF @okcw @lenw @tkw @drw @lu0 @tu0 (aj12 @du0 @cu0 @lu1 @tu1 @du1 @cu1 @lug @tug @dug @cug @nk @nm)) ?_;refine fC (aj16 @okc0 @len0 @tk0 @dr0 @okc1 @len1 @tk1 @dr1 @ZaF @okcw @lenw @tkw @drw @lu0 @tu0 (aj12 @du0 @cu0 @lu1 @tu1 @du1 @cu1 @lug @tug @dug @cug @nk @nm)) (cE) ?_;refine fR (aj16 @okc0 @len0 @tk0 @dr0 @okc1 @len1 @tk1 @dr1 @ZaF @okcw @lenw @tkw @drw @lu0 @tu0 (aj13 @du0 @cu0 @lu1 @tu1 @du1 @cu1 @lug @tug @dug @cug @nk @nm @beq_self_eq_true.{0})) ?_
 refine fB (aj16 @okc0 @len0 @tk0 @dr0 @okc1 @len1 @tk1 @dr1 @ZaF @okcw @lenw @tkw @drw @lu0 @tu0 (aj13 @du0 @cu0 @lu1 @tu1 @du1 @cu1 @lug @tug @dug @cug @nk @nm @beq_self_eq_true.{0})) ?_;have F:=aj16 @okc0 @len0 @tk0 @dr0 @okc1 @len1 @tk1 @dr1 @ZaF @okcw @lenw @tkw @drw @lu0 @tu0 (aj12 @du0 @cu0 @lu1 @tu1 @du1 @cu1 @lug @tug @dug @cug @nk @nm);refine gCP [1100] [1100] (Zhk (lits:=[.agg (Zaf usg),.one (.lit (.int .i64 1))]) [.set Fg (fun w=>Zag w (ZcT 1 wr) Fg usg)] cH ⟨.tree Tas,.same,trivial⟩ rfl rfl) ?_;clear F
 rintro r pm ⟨rfl,rfl⟩;simp only [setA,retA,zipM,Taf,Tah];refine fR (aj16 @okc0 @len0 @tk0 @dr0 @okc1 @len1 @tk1 @dr1 @ZaF @okcw @lenw @tkw @drw @lu0 @tu0 (aj12 @du0 @cu0 @lu1 @tu1 @du1 @cu1 @lug @tug @dug @cug @nk @nm)) ?_;exact fT (aj16 @okc0 @len0 @tk0 @dr0 @okc1 @len1 @tk1 @dr1 @ZaF @okcw @lenw @tkw @drw @lu0 @tu0 (aj13 @du0 @cu0 @lu1 @tu1 @du1 @cu1 @lug @tug @dug @cug @nk @nm @beq_self_eq_true.{0}))
theorem Zju (w:World) (row0:List C) (S0:Nat->Prop) (us0:List Value) (hok0:Zak (Zbz) row0) (hv0:Zab w S0 row0 us0) (row1:List C) (S1:Nat->Prop) (us1:List Value) (hok1:Zak (redF) row1) (hv1:Zab w S1 row1 us1) :
  Calls Tryz.prog 3 #[(.agg us0.toArray:Value),(.agg us1.toArray:Value)] w fun e w'=>e=.returned (.bool true)∧Below w.heap.size w w':=by
 obtain ⟨m,rfl,k0⟩:=ZAT hok0;obtain ⟨r,rfl,k1⟩:=ZAJ hok1
 have hc:=(Zkv hok0 hok1 (ZBb k0 k1) (fun b0 b1 bt=>Zsn) (fun b0 b1 bt=>Ztm k0 k1 b0 b1) (fun b0 b1 bt=>ZqA k0 k1 b0 b1)).2 w (fun b=>b < w.heap.size) [(.agg us0.toArray:Value),(.agg us1.toArray:Value)] (fun b hb=>⟨hb,id⟩) (fun b hb=>hb.elim) trivial
  ⟨⟨us0,rfl,hv0.inside'⟩,⟨us1,rfl,hv1.inside'⟩,trivial⟩
 refine hc.mono fun e w' ⟨v,h1,h2,_,h4⟩=>⟨?_,h2.below⟩;have h4:v=.bool true:=by simpa [retA,ARel,DRel,Rep] using h4
 rw [h1,h4]
end Go.Proofs.YtdnkcjhlelkhhaaGreat
