/-
  Part of a proof.
-/
import Derived.Test.YtbecmfjokofihaaGreatDoorBChainTermsCard0
import Derived.Test.YtbecmfjokofihaaGreatDoorBChainTermsCard1
import Derived.Test.YtbecmfjokofihaaGreatDoorBChainTermsCard2
import Derived.Test.YtbecmfjokofihaaGreatDoorBChainTermsCard3
set_option linter.unusedSimpArgs false
set_option linter.unusedVariables false
set_option maxHeartbeats 400000000
set_option maxRecDepth 100000
namespace Go.Proofs.YtbecmfjokofihaaGreatDoor
open Go.RowKit
variable {rows:List (List C)} {us:List Value} {row:List C} {left:Int}
theorem m189 {X Y:Prop} (b:Y) (h:Bx Y->X:=by
 intro B0
 have w1:IntKind.i64.wrap (kk+1)=kk+1:=IntWalk.i64_in _ om;have w2:IntKind.i64.wrap (kk+1+1)=kk+1+1:=IntWalk.i64_in _ om;have w3:IntKind.i64.wrap (kk+1+1+1)=kk+1+1+1:=IntWalk.i64_in _ om;exact B0.o w1 w2 w3):X:=h ⟨b⟩
theorem vS {X Y:Prop} (b:Y) (h:Bx Y->X:=by
 intro B0
 refine ne [1000] [1000,1001] (ZeG bq dX) ?_;exact B0.o):X:=h ⟨b⟩
theorem CJ {p:Prop} (h:p:=by
 refine gG ?_;exact ⟨(i+1,v6,E4,E6),⟨au,cy⟩,gw,gw,om⟩):p:=h
theorem D4 {p:Prop} (h:p:=by
 rw [xt hr,ZcJ,eZ,Zd3 om];simp only [qI,zY,CM,jp,Int.natCast_one];exact ⟨_,hz⟩):p:=h
theorem CE {p:Prop} (h:p:=by
 rw [hl,<- hn];exact ⟨_,ZbG (fun w h=>h) (aU.stable _ _ _)⟩):p:=h
theorem vQ {X Y:Prop} (b:Y) (h:Bx Y->X:=by
 intro B0
 refine pE [] [1002] Zb8 ?_;have F:=aj4 @ZcZ @Zd9 @Int.add_zero @Int.natCast_zero;exact B0.o F):X:=h ⟨b⟩
theorem yL {X Y:Prop} (b:Y) (h:Bx Y->X:=by
 intro B0
 have nM:=ZcB rows (i+1);rw [Zb3 hr,Zb3 hu];refine ne [1001] [1001] (ZeH rfl) ?_;rintro ⟨⟩ fp;exact B0.o nM fp):X:=h ⟨b⟩
theorem Cy {X Y:Prop} (b:Y) (h:Bx Y->X:=by
 intro B0
 have q1:=lT i rows.length;have q2:i < rows.length:=au;have hs:∀ X:List C,((us.map aM).set i X)[i]?=some X:=fun X=>Zfg (by rw [lO,hn];omega) X;exact B0.o q1 q2 hs):X:=h ⟨b⟩
theorem Cv {X Y:Prop} (b:Y) (h:Bx Y->X:=by
 intro B0
 rw [Tap,List.take_of_length_le (Nat.le_of_eq hn)];refine fG (aj3 (lF rows.length rows.length) @hl @hn) ?_;exact B0.o):X:=h ⟨b⟩
theorem vM {X Y:Prop} (b:Y) (h:Bx Y->X:=by
 intro B0
 obtain ⟨r,hr⟩:∃ r,rows[i]?=some r:=⟨_,Taa au⟩;obtain ⟨u,hu⟩:∃ u,us[i]?=some u:=⟨_,Taa om⟩;exact B0.o r hr u hu):X:=h ⟨b⟩
theorem m9 {p:Prop} (h:p:=by
 refine pE [1000,1002] [1000] dp ?_;have F:=hk;exact eU (R:=fun r pm=>∃ E',r=[.one (.lit (.int .i64 (k+(aa rows:Nat))))]∧pm=[.set E' (fun w=>aU w (.sl (bd k rows)) E' (.slice a uss.length cap))]) [1000] ⟨E6,rfl,rfl⟩):p:=h
theorem m0 {X Y:Prop} (b:Y) (h:Bx Y->X:=by
 intro B0
 refine fG @aw ?_;by_cases bq:rows=[]
 ·subst bq;refine ne [1000] [1000] Zfu ?_;rintro ⟨a,cap⟩ rfl;have F:=@hk;refine gL (ι:=Unit) [1,5,9] [] (fun x=>[(5,.d (.one (.lit (.int .i64 0)))),(1,.d (.one (.lit (.int .i64 k))))]) (fun x=>[]) (fun x=>True) (fun x=>0) (()) (trivial) (fun x hx=>?_);have q2:((0:Int) < ((0:Nat):Int))=False:=eq_false (by decide);refine fG (ai (eq_false (by decide):((0:Int) < 0)=False) @q2) ?_;have F:=hk
  refine eU (R:=fun r pm=>∃ E',r=[.one (.lit (.int .i64 (k+(aa []:Nat))))]∧pm=[.set E' (fun w=>aU w (.sl (bd k [])) E' (.slice a 0 cap))]) [1000] ⟨E,by simp only [aa,Int.natCast_zero,Int.add_zero];rfl,by simp only [bd];rfl⟩
 exact B0.o bq):X:=h ⟨b⟩
def kq (f:FuncId) (rows:List (List C)):Prop:=∀ (k:Int) (E:Nat->Prop) (v:Value),0<=k->k+aa rows<=1000000000->aR e0 f [.one (.lit v),.one (.lit (.int .i64 k))] [.set E (fun w=>aU w (.sl rows) E v)] (fun r pm=>∃ E',r=[.one (.lit (.int .i64 (k+aa rows)))]∧pm=[.set E' (fun w=>aU w (.sl (bd k rows)) E' v)])
theorem ZcZ (k:Int):bd k []=[]:=by simp only [bd]
theorem Zd9:aa []=0:=by simp only [aa]
theorem Zfg {α:Type} {l:List α} {i:Nat} (h:i < l.length) (x:α):(l.set i x)[i]?=some x:=by simp [h]
theorem jK {α:Type} (l:List α) (i:Nat) (x:α):(l.set i x).length=l.length:=Taz
theorem n6 {α:Type} (l:List α) (i:Nat) (x y:α):(l.set i x).set i y=l.set i y:=List.set_set ..
theorem Zd3 {α:Type} {l:List α} {i:Nat} {x:α} (h:i < l.length):(l.set i x).take (i+1)=l.take i++[x]:=by
 rw [xt (x:=x) (by simp [h]),List.take_set_of_le (Tai _)]
theorem xu {α:Type} (l:List α) (i:Nat) (x:α):(l.set i x).drop (i+1)=l.drop (i+1):=List.drop_set_of_lt om
theorem ZyK (rows:List (List C)) (aj:aO (Zab .term) rows) (h:∀ r∈rows,∀ i0 t1 i2 r3,r=[.lit (.int .i64 i0),.lit (.string t1),.lit (.int .i64 i2),.sl r3]->kq 17 r3):kq 17 rows:=by
 intro k E v hk hb;refine dK (ts:=[.slot 4]) [1000] 563 Tryz.func17 ?_;refine m0 fun bq=>?_
 ·have dX:rowsLen 4 rows:=aO.rowsLen aj;refine vS ?_;rintro ⟨a,cap,ety,uss,E1⟩ ⟨rfl,hl,dg⟩;simp only at hl ⊢;unfold maxLen at dg;refine vQ fun F=>?_;refine gL (ι:=Nat × List (List Value) × (Nat->Prop) × (Nat->Prop)) [1,5,9] [1000,1001,1002] (fun x=>[(5,.d (.one (.lit (.int .i64 (x.1:Int))))),(1,.d (.one (.lit (.int .i64 (k+(aa (rows.take x.1):Nat))))))]) (fun x=>[(1000,.buf (some (a,cap)) ety 4 (x.2.1.map aM)),(1001,.set x.2.2.1 (fun w=>br w (rows.drop x.1) x.2.2.1 (x.2.1.drop x.1))),(1002,.set x.2.2.2 (fun w=>br w (bd k (rows.take x.1)) x.2.2.2 (x.2.1.take x.1)))]) (fun x=>x.1<=rows.length∧x.2.1.length=rows.length) (fun x=>rows.length - x.1) ((0,uss,E1,fun _=>False)) (⟨Taj _,hl⟩) (fun x hx=>?_)
  obtain ⟨i,us,E2,E3⟩:=x;obtain ⟨hi,hn⟩:=hx;simp only at hi hn;dsimp only;by_cases au:i < rows.length
  ·refine vM fun r hr u hu=>?_;obtain ⟨i0,t1,i2,r3,rfl,_,_,_,g3⟩:=xv (aj.get hr);have hm:=h _ (Tac hr) i0 t1 i2 r3 rfl;have jQ:aa (rows.take (i+1))=aa (rows.take i)+(3+aa r3):=by
    rw [xt hr,Zdh];simp only [tx,jp];omega
   refine yL fun nM fp=>?_;obtain ⟨u3,rfl⟩:∃ u3,u=[.int .i64 i0,.string t1,.int .i64 i2,u3]:=by
    match u,fp with
    | [_,_,_,u3],⟨rfl,rfl,rfl,_⟩=>exact ⟨u3,rfl⟩
   refine ne (f:=fun (x:(Nat->Prop) × (Nat->Nat->Prop))=>[.set x.1 (fun w=>br w (rows.drop (i+1)) x.1 (us.drop (i+1))),.set (x.2 0) (fun w=>aU w (.sl r3) (x.2 0) u3)]) [1001] [1001,1003] (Ao rfl) ?_;rintro ⟨E4,Es⟩ -;dsimp only;generalize eZ:k+(aa (rows.take i):Int)=kk;refine Cy fun q1 q2 hs=>?_
   refine m189 fun w1 w2 w3=>?_;have w4:IntKind.i64.wrap ((i:Int)+1)=(i:Int)+1:=IntWalk.i64_in _ om;have bF:=aj13 @q1 @hl @hn @hu @pg @lO @jK @hs @w1 @w2 @w3 @q2 @n6;refine bU bF @q1 (yW (kk+1) om om) ?_;refine iY (aj9 @hl @hn @hu @pg @lO @jK @hs @q2 @n6) bF ?_;have F:=aj13 @q1 @hl @hn @hu @pg @lO @jK @hs @w1 @w2 @w3 @q2 @n6;refine bR [1003] [1003] (hm (kk+1+1+1) (Es 0) u3 om om) ?_;rintro r pm ⟨E5,rfl,rfl⟩;refine m7 ?_;refine fR @q1 ?_;obtain ⟨E6,dp⟩:∃ E6,eS [.set E3 (fun w=>br w (bd k (rows.take i)) E3 (us.take i)),.set E5 (fun w=>aU w (.sl (bd (kk+1+1+1) r3)) E5 u3)] [.set E6 (fun w=>br w (bd k (rows.take (i+1))) E6 ((us.set i [.int .i64 kk,.string (dH (kk+1)),.int .i64 (kk+1+1),u3]).take (i+1)))]:=by
    have hz:=xN (E:=E3) (done:=bd k (rows.take i)) (ud:=us.take i) (cs:=[.lit (.int .i64 kk),.lit (.string (dH (kk+1))),.lit (.int .i64 (kk+1+1)),.sl (bd (kk+1+1+1) r3)]) (us:=[.int .i64 kk,.string (dH (kk+1)),.int .i64 (kk+1+1),u3]) (Es:=fun _=>E5) rfl ⟨rfl,rfl,rfl,trivial⟩;exact D4
   refine pE [1002,1003] [1002] dp ?_;have e1:((us.set i [.int .i64 kk,.string (dH (kk+1)),.int .i64 (kk+1+1),u3]).map aM)=(us.map aM).set i [.lit (.int .i64 kk),.lit (.string (dH (kk+1))),.lit (.int .i64 (kk+1+1)),.lit u3]:=by rw [List.map_set,pg]
   have e2:=xu us i [.int .i64 kk,.string (dH (kk+1)),.int .i64 (kk+1+1),u3];have e5:k+(aa (rows.take (i+1)):Int)=kk+1+1+1+(aa r3:Int):=by rw [jQ];omega
   have cy:(us.set i [.int .i64 kk,.string (dH (kk+1)),.int .i64 (kk+1+1),u3]).length=rows.length:=by rw [jK,hn]
   generalize us.set i [.int .i64 kk,.string (dH (kk+1)),.int .i64 (kk+1+1),u3]=v6 at e1 e2 cy ⊢;rw [<- e1,<- e2];have F:=aj3 @w4 @e5 @hl;exact CJ
  ·obtain rfl:i=rows.length:=by omega
   refine Cv ?_;obtain ⟨E6,dp⟩:∃ E6,eS [.buf (some (a,cap)) ety 4 (us.map aM),.set E3 (fun w=>br w (bd k rows) E3 us)] [.set E6 (fun w=>aU w (.sl (bd k rows)) E6 (.slice a uss.length cap))]:=by
    exact CE
   exact m9
theorem Zvf (n:Nat):∀ rows,fY rows < n->aO (Zab .term) rows->kq 17 rows:=by
 induction n with
 | zero=>exact fun _ h=>om
 | succ n ih =>
  intro rows hn aj;refine ZyK rows aj fun r hr i0 t1 i2 r3 he=>?_;subst he;obtain ⟨i,hi⟩:=Tbk hr;have h1:=n7 hi;obtain ⟨_,_,_,_,he,_,_,_,g3⟩:=xv (aj.get hi);injection he with _ he;injection he with _ he;injection he with _ he;injection he with he _;injection he with he;subst he
  simp only [d6,mo] at h1;exact ih _ om g3
theorem wg (aj:aO (Zab .term) rows):kq 17 rows:=Zvf _ rows (Tan _) aj
def po:Int->List C->List C
 | _,[]=>[]
 | k,.sl rows::cs=>.sl (bd k rows)::po (k+aa rows) cs
 | k,c::cs=>c::po k cs
def bB:List C->Nat
 | []=>0
 | .sl rows::cs=>aa rows+bB cs
 | _::cs=>bB cs
def Zo1 (f:FuncId) (row:List C):Prop:=∀ (k:Int) (E:Nat->Prop) (us:List Value),us.length=row.length->(aM us).all aY=true->0<=k->k+bB row<=1000000000->aR e0 f [.agg (aM us),.one (.lit (.int .i64 k))] [.set E (fun w=>aT w row E us)] (fun r pm=>∃ E',r=[.one (.lit (.int .i64 (k+bB row)))]∧pm=[.set E' (fun w=>aT w (po k row) E' us)])
theorem Zxw {E:Nat->Prop} {r:List C} (hp:r.all tJ=true):AK (ι:=Unit) [.set E (fun w=>aT w r E us)] (fun _=>uH r us) (fun _=>[.set E (fun w=>aT w r E us)]):=fun w S h ha=>by
 obtain ⟨h1,h2,h3⟩:(∀ b,E b->b < w.heap.size∧¬ S b)∧aT w r E us∧_:=h (.set E (fun w=>aT w r E us)) (by simp);obtain ⟨Es,hl,_⟩:=Zit (S:=S) hp h2 h1;exact ⟨(),hl,h,ha,fun _ h=>h⟩
theorem xF {E:Nat->Prop} {r:List C} (hp:r.all tJ=true):AK (ι:=Nat->Nat->Prop) [.set E (fun w=>aT w r E us)] (fun _=>True) (fun i=>ko r us i):=fun w S h ha=>by
 obtain ⟨h1,h2,h3⟩:(∀ b,E b->b < w.heap.size∧¬ S b)∧aT w r E us∧_:=h (.set E (fun w=>aT w r E us)) (by simp);obtain ⟨Es,hl,q1,q2,q3⟩:=Zit (S:=S) hp h2 h1;exact ⟨Es,trivial,q1,q2,fun g hg=>⟨_,Tas,q3 g hg⟩⟩
theorem xz {cs:List C} {Es:Nat->Nat->Prop} (hp:cs.all tJ=true) (hl:uH cs us):eS (ko cs us Es) [.set (dV (ko cs us Es)) (fun w=>aT w cs (dV (ko cs us Es)) us)]:=fun w S h ha=>by
 have hv:=aT.of_cells (w:=w) (S:=S) hp hl h ha;refine ⟨fun x hx=>?_,wK _,fun g ⟨x,hx,hg⟩=>?_⟩
 ·refine xm fun hx=>?_;subst hx;refine ⟨fun b ⟨y,hy,hg⟩=>?_,hv,aT.stable _ _ _⟩;obtain ⟨E',G',rfl⟩:=Zgz y hy;exact (h _ hy).1 b hg
 ·refine xm fun hx=>?_;subst hx;exact hg
theorem ZlI (aj:aV (Zab .term) row):Zo1 29 row:=by
 obtain ⟨i0,t1,i2,r3,rfl,_,_,_,g3⟩:=xv aj;intro k E us hl hc hk hb;obtain ⟨u0,u1,u2,u3,rfl⟩:=len4 hl;obtain ⟨k0,k1,k2,k3⟩:=vU hc;simp only [bB,Nat.add_zero] at hb ⊢;rw [pg];refine dK (ts:=[.slot 4]) [1000] 23 Tryz.func29 ?_;refine ne [1000] [1000] (Zxw rfl) ?_;rintro ⟨⟩ ⟨rfl,rfl,rfl,_⟩;refine ne (f:=fun (x:Nat->Nat->Prop)=>[.set (x 0) (fun w=>aU w (.sl r3) (x 0) u3)]) [1000] [1000] (xF rfl) ?_
 rintro Es -;have bF:=aj4 @k0 @k1 @k2 @k3;refine fB bF ?_;have F:=aj4 @k0 @k1 @k2 @k3;refine bR [1000] [1000] (wg g3 k (Es 0) u3 hk hb) ?_;rintro r pm ⟨E5,rfl,rfl⟩;refine m7 ?_;refine dT bF bF ?_
 obtain ⟨E6,dp⟩:∃ E6,eS [.set E5 (fun w=>aU w (.sl (bd k r3)) E5 u3)] [.set E6 (fun w=>aT w [.lit (.int .i64 i0),.lit (.string t1),.lit (.int .i64 i2),.sl (bd k r3)] E6 [.int .i64 i0,.string t1,.int .i64 i2,u3])] :=
  ⟨_,xz (cs:=[.lit (.int .i64 i0),.lit (.string t1),.lit (.int .i64 i2),.sl (bd k r3)]) (us:=[.int .i64 i0,.string t1,.int .i64 i2,u3]) (Es:=fun _=>E5) rfl ⟨rfl,rfl,rfl,trivial⟩⟩
 refine pE [1000] [1000] dp ?_;have F:=hk;exact eU (R:=fun r pm=>∃ E',r=[.one (.lit (.int .i64 (k+(aa r3:Nat))))]∧pm=[.set E' (fun w=>aT w (po k [.lit (.int .i64 i0),.lit (.string t1),.lit (.int .i64 i2),.sl r3]) E' [.int .i64 i0,.string t1,.int .i64 i2,u3])]) [1000] ⟨E6,rfl,by simp only [po];rfl⟩
theorem yG {X Y:Prop} (b:Y) (h:Bx Y->X:=by
 intro B0
 obtain ⟨r,hr⟩:∃ r,rows[x]?=some r:=⟨_,Taa au⟩;exact B0.o r hr):X:=h ⟨b⟩
def ZrY (f:FuncId) (rows:List (List C)):Prop:=∀ (k:Int),0<=k->k+aa rows<=1000000000->az e0 f [.one (.sl (bd k rows)),.one (.lit (.int .i64 k))] [.one (.lit (.int .i64 (k+aa rows)))]
theorem Zo2:∀ {rows:List (List C)} {i:Nat} {r:List C} (k:Int),rows[i]?=some r->(bd k rows)[i]?=some (qI (k+aa (rows.take i)) r)
 | q::rows,0,r,k,h=>by simp at h;subst h;simp [bd,aa]
 | q::rows,i+1,r,k,h=>by
  simp only [Tau] at h;simp only [bd,Tau,Tbc,aa];rw [Zo2 _ h];congr 2;omega
 | [],_,_,_,h=>by simp at h
theorem ZHK {v:Value} {k:Int} (h:aY (.lit v)=true):aY (.lit (CM k v))=true:=by
 cases v <;> first | rfl | exact h
theorem ZmT:∀ (cs:List C) (k:Int),cs.all aY=true->(qI k cs).all aY=true
 | [],_,_=>by simp [qI]
 | c::cs,k,h=>by
  simp only [List.all_cons,Tar] at h;simp only [qI,List.all_cons,Tar];refine ⟨?_,ZmT cs _ h.2⟩
  cases c with
  | lit v=>simp only [zY];exact ZHK h.1
  | _=>simp [zY,aY]
theorem ZF2 {n:Nat}:∀ {rows:List (List C)} (k:Int),rowsLen n rows->ZaB n (bd k rows)=true
 | [],k,_=>by simp [bd,ZaB]
 | r::rows,k,h=>by
  have h1:=h r Tas;have h2:=ZF2 (k+tx r) (fun x hx=>h x (Tal _ hx):rowsLen n rows);unfold ZaB at h2 ⊢;simp only [bd,List.all_cons,Tar];exact ⟨⟨by rw [ZqS,h1.1];exact beq_self_eq_true n,ZmT _ _ h1.2⟩,h2⟩
theorem ZyL (rows:List (List C)) (aj:aO (Zab .term) rows) (dg:rows.length<=1048576) (h:∀ r∈rows,∀ i0 t1 i2 r3,r=[.lit (.int .i64 i0),.lit (.string t1),.lit (.int .i64 i2),.sl r3]->ZrY 18 r3):ZrY 18 rows:=by
 intro k hk hb;have db:ZaB 4 (bd k rows)=true:=ZF2 k aj.rowsLen;have sd:=ZoP k rows;refine gI (ts:=[.slot 4]) 281612684362291 Tryz.func18 ?_;refine fG @aw ?_;have F:=aj4 @ZcZ @Zd9 @Int.add_zero @Int.natCast_zero;refine gL (ι:=Nat) [1,4,5,9,18,28,37,48] [] (fun x=>[(5,.d (.one (.lit (.int .i64 (x:Int))))),(1,.d (.one (.lit (.int .i64 (k+(aa (rows.take x):Nat))))))]) (fun x=>[]) (fun x=>x<=rows.length) (fun x=>rows.length - x) (0) (Taj _) (fun x hx=>?_)
 by_cases au:x < rows.length
 ·refine yG fun r hr=>?_;obtain ⟨i0,t1,i2,r3,rfl,_,_,_,g3⟩:=xv (aj.get hr);have hm:=h _ (Tac hr) i0 t1 i2 r3 rfl;have jQ:aa (rows.take (x+1))=aa (rows.take x)+(3+aa r3):=by
   rw [xt hr,Zdh];simp only [tx,jp];omega
  have nM:=ZcB rows (x+1);have hg:=Zo2 k hr;simp only [qI,zY,CM,jp,Int.natCast_one] at hg;have e5:k+(aa (rows.take (x+1)):Int)=k+(aa (rows.take x):Int)+1+1+1+(aa r3:Int):=by rw [jQ];omega
  have b1:k+(aa (rows.take x):Int)+3+aa r3<=1000000000:=om;have b0:0<=k+(aa (rows.take x):Int):=om;generalize k+(aa (rows.take x):Int)=kk at hg e5 b1 b0 ⊢;have q1:=lT x rows.length;refine m189 fun w1 w2 w3=>?_;have w4:IntKind.i64.wrap ((x:Int)+1)=(x:Int)+1:=IntWalk.i64_in _ om
  refine bp (aj6 @q1 @sd @db @hg @d8 @w1) (aj4 @q1 @sd @db @hg) (yW (kk+1) om om) (aj5 @q1 @sd @db @hg @d8) ?_;refine bp (aj8 @q1 @sd @db @hg @d8 @w1 @w2 @w3) (aj4 @q1 @sd @db @hg) (hm (kk+1+1+1) om om) @q1 ?_;have F:=aj3 (eq_false om:(kk+1+1+1+(aa r3:Int) < 0)=False) @w4 @e5;refine gG ?_;exact ⟨x+1,au,gw,gw,om⟩
 ·obtain rfl:x=rows.length:=by omega
  rw [Tap];exact fD (ai (lF rows.length rows.length) @sd)
theorem Zvg (n:Nat):∀ rows,fY rows < n->aO (Zab .term) rows->rows.length+ah rows<=1048576->ZrY 18 rows:=by
 induction n with
 | zero=>exact fun _ h=>om
 | succ n ih =>
  intro rows hn aj hB;refine ZyL rows aj om fun r hr i0 t1 i2 r3 he=>?_;subst he;obtain ⟨i,hi⟩:=Tbk hr;have h1:=n7 hi;have h2:=tB hi;obtain ⟨_,_,_,_,he,_,_,_,g3⟩:=xv (aj.get hi);injection he with _ he;injection he with _ he;injection he with _ he;injection he with he _;injection he with he;subst he
  simp only [d6,mo] at h1;simp only [ab,dN] at h2;exact ih _ om g3 om
theorem Zrp (aj:aO (Zab .term) rows) (hB:rows.length+ah rows<=1048576):ZrY 18 rows:=Zvg _ rows (Tan _) aj hB
theorem m283 {p:Prop} (h:p:=by
 ·obtain rfl:i=rows.length:=by omega
  refine Cv ?_;obtain ⟨E6,dp⟩:∃ E6,eS [.buf (some (a,cap)) ety 1 (us.map aM),.set E3 (fun w=>br w (bd k rows) E3 us)] [.set E6 (fun w=>aU w (.sl (bd k rows)) E6 (.slice a uss.length cap))]:=by
   exact CE
  exact m9):p:=h
theorem vK {X Y:Prop} (b:Y) (h:Bx Y->X:=by
 intro B0
 have wi:IntKind.i64.wrap ((i:Int)+1)=(i:Int)+1:=IntWalk.i64_in _ om;exact B0.o wi):X:=h ⟨b⟩
theorem m88 {X Y:Prop} (b:Y) (h:Bx Y->X:=by
 intro B0
 refine ne (f:=fun (x:(Nat->Prop) × (Nat->Nat->Prop))=>[.set x.1 (fun w=>br w (rows.drop (i+1)) x.1 (us.drop (i+1)))]) [1001] [1001] (Ao rfl) ?_;rintro ⟨E4,Es⟩ -;dsimp only;exact B0.o E4 Es):X:=h ⟨b⟩
theorem CI {p:Prop} (h:p:=by
 rw [xt hr,Zdh];simp only [tx,jp]
 try omega):p:=h
theorem m44 {X Y:Prop} (b:Y) (h:Bx Y->X:=by
 intro B0
 refine gL (ι:=Nat × List (List Value) × (Nat->Prop) × (Nat->Prop)) [1,5,9] [1000,1001,1002] (fun x=>[(5,.d (.one (.lit (.int .i64 (x.1:Int))))),(1,.d (.one (.lit (.int .i64 (k+(aa (rows.take x.1):Nat))))))]) (fun x=>[(1000,.buf (some (a,cap)) ety 1 (x.2.1.map aM)),(1001,.set x.2.2.1 (fun w=>br w (rows.drop x.1) x.2.2.1 (x.2.1.drop x.1))),(1002,.set x.2.2.2 (fun w=>br w (bd k (rows.take x.1)) x.2.2.2 (x.2.1.take x.1)))]) (fun x=>x.1<=rows.length∧x.2.1.length=rows.length) (fun x=>rows.length - x.1) ((0,uss,E1,fun _=>False)) (⟨Taj _,hl⟩) (fun x hx=>?_);exact B0.o x hx):X:=h ⟨b⟩
theorem Zo3 {rows:List (List C)} (aj:aO (Zab .str) rows):kq 150 rows:=by
 intro k E v hk hb;refine dK (ts:=[.slot 4]) [1000] 563 Tryz.func150 ?_;refine m0 fun bq=>?_
 ·have dX:rowsLen 1 rows:=aO.rowsLen aj;refine vS ?_;rintro ⟨a,cap,ety,uss,E1⟩ ⟨rfl,hl,dg⟩;simp only at hl ⊢;unfold maxLen at dg;refine vQ fun F=>?_;refine m44 fun x hx=>?_
  obtain ⟨i,us,E2,E3⟩:=x;obtain ⟨hi,hn⟩:=hx;simp only at hi hn;dsimp only;by_cases au:i < rows.length
  ·refine vM fun r hr u hu=>?_;obtain ⟨t0,rfl,g0⟩:=Zfr (aj.get hr);have jQ:aa (rows.take (i+1))=aa (rows.take i)+(1):=by
    exact CI
   refine yL fun nM fp=>?_;obtain rfl:u=[.string t0]:=by
    match u,fp with
    | [_],⟨rfl,_⟩=>rfl
   refine m88 fun E4 Es=>?_;have iv:0<=k+(aa (rows.take i):Int):=om;have iw:k+(aa (rows.take i):Int)+((1:Nat):Int)<=1000000000:=om;generalize eZ:k+(aa (rows.take i):Int)=kk at iv iw ⊢;refine Cy fun q1 q2 hs=>?_;have lr:aM [.string t0]=[.lit (.string t0)]:=rfl;have w0:IntKind.i64.wrap (kk+1)=kk+1:=IntWalk.i64_in _ om;refine vK fun wi=>?_;have bF:=aj11 @q1 @hl @hn @hu @lr @lO @jK @hs @w0 @q2 @n6;refine bp bF bF (yW (kk) om om) bF ?_;obtain ⟨E6,dp⟩:∃ E6,eS [.set E3 (fun w=>br w (bd k (rows.take i)) E3 (us.take i))] [.set E6 (fun w=>br w (bd k (rows.take (i+1))) E6 ((us.set i [.string (dH (kk))]).take (i+1)))]:=by
    have hz:=xN (E:=E3) (done:=bd k (rows.take i)) (ud:=us.take i) (cs:=[.lit (.string (dH (kk)))]) (us:=[.string (dH (kk))]) (Es:=fun _ _=>False) rfl ⟨rfl,trivial⟩;exact D4
   refine pE [1002] [1002] dp ?_;have e1:((us.set i [.string (dH (kk))]).map aM)=(us.map aM).set i [.lit (.string (dH (kk)))]:=by rw [List.map_set];rfl
   have e2:=xu us i [.string (dH (kk))];have e5:k+(aa (rows.take (i+1)):Int)=kk+1:=by rw [jQ];omega
   have cy:(us.set i [.string (dH (kk))]).length=rows.length:=by rw [jK,hn]
   generalize us.set i [.string (dH (kk))]=v6 at e1 e2 cy ⊢;rw [<- e1,<- e2];have F:=aj5 @wi @e5 @hl @w0 @hn;exact CJ
  exact m283
theorem Zo4 (aj:aO (Zab .str) rows):kq 150 rows:=Zo3 aj
theorem m284 {p:Prop} (h:p:=by
 ·obtain rfl:i=rows.length:=by omega
  refine Cv ?_;obtain ⟨E6,dp⟩:∃ E6,eS [.buf (some (a,cap)) ety 2 (us.map aM),.set E3 (fun w=>br w (bd k rows) E3 us)] [.set E6 (fun w=>aU w (.sl (bd k rows)) E6 (.slice a uss.length cap))]:=by
   exact CE
  exact m9):p:=h
theorem m147 {X Y:Prop} (b:Y) (h:Bx Y->X:=by
 intro B0
 have w0:IntKind.i64.wrap (kk+1)=kk+1:=IntWalk.i64_in _ om;have w1:IntKind.i64.wrap (kk+1+1)=kk+1+1:=IntWalk.i64_in _ om;exact B0.o w0 w1):X:=h ⟨b⟩
theorem m45 {X Y:Prop} (b:Y) (h:Bx Y->X:=by
 intro B0
 refine gL (ι:=Nat × List (List Value) × (Nat->Prop) × (Nat->Prop)) [1,5,9] [1000,1001,1002] (fun x=>[(5,.d (.one (.lit (.int .i64 (x.1:Int))))),(1,.d (.one (.lit (.int .i64 (k+(aa (rows.take x.1):Nat))))))]) (fun x=>[(1000,.buf (some (a,cap)) ety 2 (x.2.1.map aM)),(1001,.set x.2.2.1 (fun w=>br w (rows.drop x.1) x.2.2.1 (x.2.1.drop x.1))),(1002,.set x.2.2.2 (fun w=>br w (bd k (rows.take x.1)) x.2.2.2 (x.2.1.take x.1)))]) (fun x=>x.1<=rows.length∧x.2.1.length=rows.length) (fun x=>rows.length - x.1) ((0,uss,E1,fun _=>False)) (⟨Taj _,hl⟩) (fun x hx=>?_);exact B0.o x hx):X:=h ⟨b⟩
theorem Zt5 {rows:List (List C)} (aj:aO (Zab .sub) rows):kq 151 rows:=by
 intro k E v hk hb;refine dK (ts:=[.slot 4]) [1000] 563 Tryz.func151 ?_;refine m0 fun bq=>?_
 ·have dX:rowsLen 2 rows:=aO.rowsLen aj;refine vS ?_;rintro ⟨a,cap,ety,uss,E1⟩ ⟨rfl,hl,dg⟩;simp only at hl ⊢;unfold maxLen at dg;refine vQ fun F=>?_;refine m45 fun x hx=>?_
  obtain ⟨i,us,E2,E3⟩:=x;obtain ⟨hi,hn⟩:=hx;simp only at hi hn;dsimp only;by_cases au:i < rows.length
  ·refine vM fun r hr u hu=>?_;obtain ⟨i0,i1,rfl,g0,g1⟩:=ZiJ (aj.get hr);have jQ:aa (rows.take (i+1))=aa (rows.take i)+(2):=by
    exact CI
   refine yL fun nM fp=>?_;obtain rfl:u=[.int .i64 i0,.int .i64 i1]:=by
    match u,fp with
    | [_,_],⟨rfl,rfl,_⟩=>rfl
   refine m88 fun E4 Es=>?_;have iv:0<=k+(aa (rows.take i):Int):=om;have iw:k+(aa (rows.take i):Int)+((2:Nat):Int)<=1000000000:=om;generalize eZ:k+(aa (rows.take i):Int)=kk at iv iw ⊢;have q2:i < rows.length:=au
   have hs:∀ X:List C,((us.map aM).set i X)[i]?=some X:=fun X=>Zfg (by rw [lO,hn];omega) X;have lr:aM [.int .i64 i0,.int .i64 i1]=[.lit (.int .i64 i0),.lit (.int .i64 i1)]:=rfl;refine m147 fun w0 w1=>?_;refine vK fun wi=>?_;refine fN 3 (aj12 (lT i rows.length) @hl @hn @hu @lr @lO @jK @hs @w0 @w1 @q2 @n6) ?_
   obtain ⟨E6,dp⟩:∃ E6,eS [.set E3 (fun w=>br w (bd k (rows.take i)) E3 (us.take i))] [.set E6 (fun w=>br w (bd k (rows.take (i+1))) E6 ((us.set i [.int .i64 (kk),.int .i64 (kk+1)]).take (i+1)))]:=by
    have hz:=xN (E:=E3) (done:=bd k (rows.take i)) (ud:=us.take i) (cs:=[.lit (.int .i64 (kk)),.lit (.int .i64 (kk+1))]) (us:=[.int .i64 (kk),.int .i64 (kk+1)]) (Es:=fun _ _=>False) rfl ⟨rfl,rfl,trivial⟩;exact D4
   refine pE [1002] [1002] dp ?_;have e1:((us.set i [.int .i64 (kk),.int .i64 (kk+1)]).map aM)=(us.map aM).set i [.lit (.int .i64 (kk)),.lit (.int .i64 (kk+1))]:=by rw [List.map_set];rfl
   have e2:=xu us i [.int .i64 (kk),.int .i64 (kk+1)];have e5:k+(aa (rows.take (i+1)):Int)=kk+1+1:=by rw [jQ];omega
   have cy:(us.set i [.int .i64 (kk),.int .i64 (kk+1)]).length=rows.length:=by rw [jK,hn]
   generalize us.set i [.int .i64 (kk),.int .i64 (kk+1)]=v6 at e1 e2 cy ⊢;rw [<- e1,<- e2];have F:=aj6 @wi @e5 @hl @w0 @w1 @hn;exact CJ
  exact m284
theorem Zt6 (aj:aO (Zab .sub) rows):kq 151 rows:=Zt5 aj
theorem tg {p:Prop} (h:p:=by
 simpa [aM,Tar,and_assoc] using hc):p:=h
theorem Zrq (aj:aV (ux) row):Zo1 75 row:=by
 obtain ⟨r0,r1,rfl,g0,g1⟩:=ZgS aj;intro kk E us hl hc hk hb;obtain ⟨u0,u1,rfl⟩:=ry hl;have kc:aY (.lit u0)=true∧aY (.lit u1)=true:=by exact tg
 obtain ⟨k0,k1⟩:=kc;simp only [bB,Nat.add_zero] at hb ⊢;have lr:aM [u0,u1]=[.lit u0,.lit u1]:=rfl;rw [lr];refine dK (ts:=[.slot 4]) [1000] 23 Tryz.func75 ?_;refine ne (f:=fun (x:Nat->Nat->Prop)=>[.set (x 0) (fun w=>aU w (.sl r0) (x 0) u0),.set (x 1) (fun w=>aU w (.sl r1) (x 1) u1)]) [1000] [1003,1004] (xF rfl) ?_;rintro Es -
 try dsimp only
 have bF:=aj3 @lr @k0 @k1;refine fB bF ?_;have F:=aj3 @lr @k0 @k1;refine bR [1003] [1003] (Zo4 g0 (kk) (Es 0) u0 om om) ?_;rintro r pm ⟨F0,rfl,rfl⟩;simp only [aI,bh,aZ,Taf,Tah];refine iY bF bF ?_;have F:=aj3 @lr @k0 @k1;refine bR [1004] [1004] (Zt6 g1 (kk+(aa r0:Int)) (Es 1) u1 om om) ?_;rintro r pm ⟨F1,rfl,rfl⟩;simp only [aI,bh,aZ,Taf,Tah]
 refine dT bF bF ?_;obtain ⟨E6,dp⟩:∃ E6,eS [.set F0 (fun w=>aU w (.sl (bd (kk) r0)) F0 u0),.set F1 (fun w=>aU w (.sl (bd (kk+(aa r0:Int)) r1)) F1 u1)] [.set E6 (fun w=>aT w [.sl (bd (kk) r0),.sl (bd (kk+(aa r0:Int)) r1)] E6 [u0,u1])]:=⟨_,xz (cs:=[.sl (bd (kk) r0),.sl (bd (kk+(aa r0:Int)) r1)]) (us:=[u0,u1]) (Es:=fun k=>match k with | 0=>F0 | _=>F1) rfl trivial⟩
 refine pE [1003,1004] [1000] dp ?_;have F:=hk;rw [(om:kk+(aa r0:Int)+(aa r1:Int)=kk+((aa r0+(aa r1):Nat):Int))];exact eU (R:=fun r pm=>∃ E',r=[.one (.lit (.int .i64 (kk+((aa r0+(aa r1):Nat):Int))))]∧pm=[.set E' (fun w=>aT w (po kk [.sl r0,.sl r1]) E' [u0,u1])]) [1000] ⟨E6,rfl,by simp only [po];rfl⟩
theorem Zxx (u0:Value):aM [u0]=[.lit u0]:=rfl
theorem ZCT {rows:List (List C)} (aj:aO (Zab .int) rows):kq 115 rows:=by
 intro k E v hk hb;refine dK (ts:=[.slot 4]) [1000] 563 Tryz.func115 ?_;refine m0 fun bq=>?_
 ·have dX:rowsLen 1 rows:=aO.rowsLen aj;refine vS ?_;rintro ⟨a,cap,ety,uss,E1⟩ ⟨rfl,hl,dg⟩;simp only at hl ⊢;unfold maxLen at dg;refine vQ fun F=>?_;refine m44 fun x hx=>?_
  obtain ⟨i,us,E2,E3⟩:=x;obtain ⟨hi,hn⟩:=hx;simp only at hi hn;dsimp only;by_cases au:i < rows.length
  ·refine vM fun r hr u hu=>?_;obtain ⟨i0,rfl,_⟩:=ZiI (aj.get hr);have jQ:aa (rows.take (i+1))=aa (rows.take i)+1:=by
    rw [xt hr,Zdh];simp only [tx,jp]
   refine yL fun nM fp=>?_;obtain rfl:u=[.int .i64 i0]:=by
    match u,fp with
    | [_],⟨rfl,_⟩=>rfl
   refine m88 fun E4 Es=>?_;generalize eZ:k+(aa (rows.take i):Int)=kk;have q2:i < rows.length:=au;have w1:IntKind.i64.wrap (kk+1)=kk+1:=IntWalk.i64_in _ om;have w4:IntKind.i64.wrap ((i:Int)+1)=(i:Int)+1:=IntWalk.i64_in _ om
   refine fN 3 (aj9 (lT i rows.length) @hl @hn @hu @Zxx @lO @jK @w1 @q2) ?_;obtain ⟨E6,dp⟩:∃ E6,eS [.set E3 (fun w=>br w (bd k (rows.take i)) E3 (us.take i))] [.set E6 (fun w=>br w (bd k (rows.take (i+1))) E6 ((us.set i [.int .i64 kk]).take (i+1)))]:=by
    have hz:=xN (E:=E3) (done:=bd k (rows.take i)) (ud:=us.take i) (cs:=[.lit (.int .i64 kk)]) (us:=[.int .i64 kk]) (Es:=fun _ _=>False) rfl ⟨rfl,trivial⟩;rw [xt hr,ZcJ,eZ,Zd3 om];simp only [qI,zY,CM];exact ⟨_,hz⟩
   refine pE [1002] [1002] dp ?_;have e1:((us.set i [.int .i64 kk]).map aM)=(us.map aM).set i [.lit (.int .i64 kk)]:=by rw [List.map_set,Zxx]
   have e2:=xu us i [.int .i64 kk];have e5:k+(aa (rows.take (i+1)):Int)=kk+1:=by rw [jQ];omega
   have cy:(us.set i [.int .i64 kk]).length=rows.length:=by rw [jK,hn]
   generalize us.set i [.int .i64 kk]=v6 at e1 e2 cy ⊢;rw [<- e1,<- e2];have F:=aj3 @w4 @e5 @hl;exact CJ
  exact m283
theorem ZlJ (aj:aO (Zab .int) rows):kq 115 rows:=ZCT aj
theorem Zrr {rows:List (List C)} (aj:aO (Zab .decl) rows):kq 152 rows:=by
 intro k E v hk hb;refine dK (ts:=[.slot 4]) [1000] 563 Tryz.func152 ?_;refine m0 fun bq=>?_
 ·have dX:rowsLen 2 rows:=aO.rowsLen aj;refine vS ?_;rintro ⟨a,cap,ety,uss,E1⟩ ⟨rfl,hl,dg⟩;simp only at hl ⊢;unfold maxLen at dg;refine vQ fun F=>?_;refine m45 fun x hx=>?_
  obtain ⟨i,us,E2,E3⟩:=x;obtain ⟨hi,hn⟩:=hx;simp only at hi hn;dsimp only;by_cases au:i < rows.length
  ·refine vM fun r hr u hu=>?_;obtain ⟨r0,i1,rfl,g0,g1⟩:=Zgp (aj.get hr);have mM:=ZlJ g0;have jQ:aa (rows.take (i+1))=aa (rows.take i)+(1+aa r0):=by
    exact CI
   refine yL fun nM fp=>?_;obtain ⟨u0,rfl⟩:∃ u0,u=[u0,.int .i64 i1]:=by
    match u,fp with
    | [u0,_],⟨rfl,_⟩=>exact ⟨u0,rfl⟩
   refine ne (f:=fun (x:(Nat->Prop) × (Nat->Nat->Prop))=>[.set x.1 (fun w=>br w (rows.drop (i+1)) x.1 (us.drop (i+1))),.set (x.2 0) (fun w=>aU w (.sl r0) (x.2 0) u0)]) [1001] [1001,1003] (Ao rfl) ?_;rintro ⟨E4,Es⟩ -;dsimp only;have iv:0<=k+(aa (rows.take i):Int):=om;have iw:k+(aa (rows.take i):Int)+((1+aa r0:Nat):Int)<=1000000000:=om;generalize eZ:k+(aa (rows.take i):Int)=kk at iv iw ⊢
   refine Cy fun q1 q2 hs=>?_;have lr:aM [u0,.int .i64 i1]=[.lit (u0),.lit (.int .i64 i1)]:=rfl;have w1:IntKind.i64.wrap (kk+(aa r0:Int)+1)=kk+(aa r0:Int)+1:=IntWalk.i64_in _ om;refine vK fun wi=>?_;have bF:=aj11 @q1 @hl @hn @hu @lr @lO @jK @hs @w1 @q2 @n6;refine fB bF ?_
   have F:=aj11 @q1 @hl @hn @hu @lr @lO @jK @hs @w1 @q2 @n6;refine bR [1003] [1003] (mM (kk) (Es 0) u0 om om) ?_;rintro r pm ⟨F0,rfl,rfl⟩;refine m7 ?_;refine fR bF ?_;refine fN 3 bF ?_;obtain ⟨E6,dp⟩:∃ E6,eS [.set E3 (fun w=>br w (bd k (rows.take i)) E3 (us.take i)),.set F0 (fun w=>aU w (.sl (bd (kk) r0)) F0 u0)] [.set E6 (fun w=>br w (bd k (rows.take (i+1))) E6 ((us.set i [u0,.int .i64 (kk+(aa r0:Int))]).take (i+1)))]:=by
    have hz:=xN (E:=E3) (done:=bd k (rows.take i)) (ud:=us.take i) (cs:=[.sl (bd (kk) r0),.lit (.int .i64 (kk+(aa r0:Int)))]) (us:=[u0,.int .i64 (kk+(aa r0:Int))]) (Es:=fun _=>F0) rfl ⟨rfl,trivial⟩;exact D4
   refine pE [1002,1003] [1002] dp ?_;have e1:((us.set i [u0,.int .i64 (kk+(aa r0:Int))]).map aM)=(us.map aM).set i [.lit (u0),.lit (.int .i64 (kk+(aa r0:Int)))]:=by rw [List.map_set];rfl
   have e2:=xu us i [u0,.int .i64 (kk+(aa r0:Int))];have e5:k+(aa (rows.take (i+1)):Int)=kk+(aa r0:Int)+1:=by rw [jQ];omega
   have cy:(us.set i [u0,.int .i64 (kk+(aa r0:Int))]).length=rows.length:=by rw [jK,hn]
   generalize us.set i [u0,.int .i64 (kk+(aa r0:Int))]=v6 at e1 e2 cy ⊢;rw [<- e1,<- e2];have F:=aj5 @wi @e5 @hl @w1 @hn;exact CJ
  exact m284
theorem Zrs (aj:aO (Zab .decl) rows):kq 152 rows:=Zrr aj
theorem Zxy {k:Int} (h:0<=k):decide (k.tmod 3=0)=(k % 3==0):=by rw [Int.tmod_eq_emod_of_nonneg h,Bool.eq_iff_iff];simp
theorem Zvh {rows:List (List C)} (aj:aO (Zab .op) rows):kq 76 rows:=by
 intro k E v hk hb;refine dK (ts:=[.slot 4]) [1000] 563 Tryz.func76 ?_;refine m0 fun bq=>?_
 ·have dX:rowsLen 5 rows:=aO.rowsLen aj;refine vS ?_;rintro ⟨a,cap,ety,uss,E1⟩ ⟨rfl,hl,dg⟩;simp only at hl ⊢;unfold maxLen at dg;refine vQ fun F=>?_;refine gL (ι:=Nat × List (List Value) × (Nat->Prop) × (Nat->Prop)) [1,5,9] [1000,1001,1002] (fun x=>[(5,.d (.one (.lit (.int .i64 (x.1:Int))))),(1,.d (.one (.lit (.int .i64 (k+(aa (rows.take x.1):Nat))))))]) (fun x=>[(1000,.buf (some (a,cap)) ety 5 (x.2.1.map aM)),(1001,.set x.2.2.1 (fun w=>br w (rows.drop x.1) x.2.2.1 (x.2.1.drop x.1))),(1002,.set x.2.2.2 (fun w=>br w (bd k (rows.take x.1)) x.2.2.2 (x.2.1.take x.1)))]) (fun x=>x.1<=rows.length∧x.2.1.length=rows.length) (fun x=>rows.length - x.1) ((0,uss,E1,fun _=>False)) (⟨Taj _,hl⟩) (fun x hx=>?_)
  obtain ⟨i,us,E2,E3⟩:=x;obtain ⟨hi,hn⟩:=hx;simp only at hi hn;dsimp only;by_cases au:i < rows.length
  ·refine vM fun r hr u hu=>?_;obtain ⟨t0,r1,p2,p3,i4,rfl,g0,g1,g2,g3,g4⟩:=Zh2 (aj.get hr);have iy:=Zrs g1;have jQ:aa (rows.take (i+1))=aa (rows.take i)+(4+aa r1):=by
    exact CI
   refine yL fun nM fp=>?_;obtain ⟨u1,rfl⟩:∃ u1,u=[.string t0,u1,.bool p2,.bool p3,.int .i64 i4]:=by
    match u,fp with
    | [_,u1,_,_,_],⟨rfl,rfl,rfl,rfl,_⟩=>exact ⟨u1,rfl⟩
   refine ne (f:=fun (x:(Nat->Prop) × (Nat->Nat->Prop))=>[.set x.1 (fun w=>br w (rows.drop (i+1)) x.1 (us.drop (i+1))),.set (x.2 0) (fun w=>aU w (.sl r1) (x.2 0) u1)]) [1001] [1001,1003] (Ao rfl) ?_;rintro ⟨E4,Es⟩ -;dsimp only;have iv:0<=k+(aa (rows.take i):Int):=om;have iw:k+(aa (rows.take i):Int)+((4+aa r1:Nat):Int)<=1000000000:=om;generalize eZ:k+(aa (rows.take i):Int)=kk at iv iw ⊢
   refine Cy fun q1 q2 hs=>?_;have lr:aM [.string t0,u1,.bool p2,.bool p3,.int .i64 i4]=[.lit (.string t0),.lit (u1),.lit (.bool p2),.lit (.bool p3),.lit (.int .i64 i4)]:=rfl;have w0:IntKind.i64.wrap (kk+1)=kk+1:=IntWalk.i64_in _ om;have w2:IntKind.i64.wrap (kk+1+(aa r1:Int)+1)=kk+1+(aa r1:Int)+1:=IntWalk.i64_in _ om
   have b2:decide (((kk+1+(aa r1:Int)).tmod 3)=0)=((kk+1+(aa r1:Int)) % 3==0):=Zxy om;have w3:IntKind.i64.wrap (kk+1+(aa r1:Int)+1+1)=kk+1+(aa r1:Int)+1+1:=IntWalk.i64_in _ om;have b3:decide (((kk+1+(aa r1:Int)+1).tmod 3)=0)=((kk+1+(aa r1:Int)+1) % 3==0):=Zxy om;have w4:IntKind.i64.wrap (kk+1+(aa r1:Int)+1+1+1)=kk+1+(aa r1:Int)+1+1+1:=IntWalk.i64_in _ om;refine vK fun wi=>?_
   have bF:=aj16 @q1 @hl @hn @hu @lr @lO @jK @hs @w0 @w2 @b2 @w3 @b3 @w4 @q2 @n6;refine bU bF bF (yW (kk) om om) ?_;refine iY bF bF ?_;have F:=aj16 @q1 @hl @hn @hu @lr @lO @jK @hs @w0 @w2 @b2 @w3 @b3 @w4 @q2 @n6;refine bR [1003] [1003] (iy (kk+1) (Es 0) u1 om om) ?_
   rintro r pm ⟨F1,rfl,rfl⟩;refine m7 ?_;refine fR bF ?_;refine fN 3 bF ?_;obtain ⟨E6,dp⟩:∃ E6,eS [.set E3 (fun w=>br w (bd k (rows.take i)) E3 (us.take i)),.set F1 (fun w=>aU w (.sl (bd (kk+1) r1)) F1 u1)] [.set E6 (fun w=>br w (bd k (rows.take (i+1))) E6 ((us.set i [.string (dH (kk)),u1,.bool ((kk+1+(aa r1:Int)) % 3==0),.bool ((kk+1+(aa r1:Int)+1) % 3==0),.int .i64 (kk+1+(aa r1:Int)+1+1)]).take (i+1)))]:=by
    have hz:=xN (E:=E3) (done:=bd k (rows.take i)) (ud:=us.take i) (cs:=[.lit (.string (dH (kk))),.sl (bd (kk+1) r1),.lit (.bool ((kk+1+(aa r1:Int)) % 3==0)),.lit (.bool ((kk+1+(aa r1:Int)+1) % 3==0)),.lit (.int .i64 (kk+1+(aa r1:Int)+1+1))]) (us:=[.string (dH (kk)),u1,.bool ((kk+1+(aa r1:Int)) % 3==0),.bool ((kk+1+(aa r1:Int)+1) % 3==0),.int .i64 (kk+1+(aa r1:Int)+1+1)]) (Es:=fun _=>F1) rfl ⟨rfl,rfl,rfl,rfl,trivial⟩
    exact D4
   refine pE [1002,1003] [1002] dp ?_;have e1:((us.set i [.string (dH (kk)),u1,.bool ((kk+1+(aa r1:Int)) % 3==0),.bool ((kk+1+(aa r1:Int)+1) % 3==0),.int .i64 (kk+1+(aa r1:Int)+1+1)]).map aM)=(us.map aM).set i [.lit (.string (dH (kk))),.lit (u1),.lit (.bool ((kk+1+(aa r1:Int)) % 3==0)),.lit (.bool ((kk+1+(aa r1:Int)+1) % 3==0)),.lit (.int .i64 (kk+1+(aa r1:Int)+1+1))]:=by rw [List.map_set];rfl
   have e2:=xu us i [.string (dH (kk)),u1,.bool ((kk+1+(aa r1:Int)) % 3==0),.bool ((kk+1+(aa r1:Int)+1) % 3==0),.int .i64 (kk+1+(aa r1:Int)+1+1)];have e5:k+(aa (rows.take (i+1)):Int)=kk+1+(aa r1:Int)+1+1+1:=by rw [jQ];omega
   have cy:(us.set i [.string (dH (kk)),u1,.bool ((kk+1+(aa r1:Int)) % 3==0),.bool ((kk+1+(aa r1:Int)+1) % 3==0),.int .i64 (kk+1+(aa r1:Int)+1+1)]).length=rows.length:=by rw [jK,hn]
   generalize us.set i [.string (dH (kk)),u1,.bool ((kk+1+(aa r1:Int)) % 3==0),.bool ((kk+1+(aa r1:Int)+1) % 3==0),.int .i64 (kk+1+(aa r1:Int)+1+1)]=v6 at e1 e2 cy ⊢;rw [<- e1,<- e2];have F:=aj10 @wi @e5 @hl @w0 @w2 @b2 @w3 @b3 @w4 @hn;exact CJ
  ·obtain rfl:i=rows.length:=by omega
   refine Cv ?_;obtain ⟨E6,dp⟩:∃ E6,eS [.buf (some (a,cap)) ety 5 (us.map aM),.set E3 (fun w=>br w (bd k rows) E3 us)] [.set E6 (fun w=>aU w (.sl (bd k rows)) E6 (.slice a uss.length cap))]:=by
    exact CE
   exact m9
theorem Zvi (aj:aO (Zab .op) rows):kq 76 rows:=Zvh aj
theorem Zmh (aj:aV (lM) row):Zo1 28 row:=by
 obtain ⟨r0,r1,r2,rfl,g0,g1,g2⟩:=Zec aj;intro kk E us hl hc hk hb;obtain ⟨u0,u1,u2,rfl⟩:=Ca hl;have kc:aY (.lit u0)=true∧aY (.lit u1)=true∧aY (.lit u2)=true:=by exact tg
 obtain ⟨k0,k1,k2⟩:=kc;simp only [bB,Nat.add_zero] at hb ⊢;have lr:aM [u0,u1,u2]=[.lit u0,.lit u1,.lit u2]:=rfl;rw [lr];refine dK (ts:=[.slot 4]) [1000] 23 Tryz.func28 ?_;refine ne (f:=fun (x:Nat->Nat->Prop)=>[.set (x 0) (fun w=>aU w (.sl r0) (x 0) u0),.set (x 1) (fun w=>aU w (.sl r1) (x 1) u1),.set (x 2) (fun w=>aU w (.sl r2) (x 2) u2)]) [1000] [1003,1004,1005] (xF rfl) ?_;rintro Es -
 try dsimp only
 obtain ⟨G0,vt⟩:∃ G,eS [.set (Es 0) (fun w=>aU w (.sl r0) (Es 0) u0),.set (Es 1) (fun w=>aU w (.sl r1) (Es 1) u1)] [.set G (fun w=>aT w [.sl r0,.sl r1] G [u0,u1])]:=⟨_,xz (cs:=[.sl r0,.sl r1]) (us:=[u0,u1]) (Es:=fun k=>Es (k+0)) rfl trivial⟩;refine pE [1003,1004] [1003] vt ?_;have pa:aM [u0,u1]=[.lit u0,.lit u1]:=rfl;have mM:=Zrq (row:=[.sl r0,.sl r1]) (ZgT g0 g1) (kk) G0 [u0,u1] rfl (by rw [pa];simp only [List.all_cons,List.all_nil,k0,k1,Bool.and_self]) om (by simp only [bB];omega)
 rw [pa] at mM;simp only [bB,po,Nat.add_zero,Int.natCast_add,<- Int.add_assoc] at mM;have bF:=aj4 @lr @k0 @k1 @k2;refine fB bF ?_;have F:=aj4 @lr @k0 @k1 @k2;refine bR [1003] [1003] (mM) ?_;rintro r pm ⟨G0',rfl,rfl⟩;simp only [aI,bh,aZ,Taf,Tah];refine fR bF ?_;refine ne (f:=fun (x:Nat->Nat->Prop)=>[.set (x 0) (fun w=>aU w (.sl (bd (kk) r0)) (x 0) u0),.set (x 1) (fun w=>aU w (.sl (bd (kk+(aa r0:Int)) r1)) (x 1) u1)]) [1003] [1003,1004] (xF (r:=[.sl (bd (kk) r0),.sl (bd (kk+(aa r0:Int)) r1)]) rfl) ?_
 rintro nj -
 try dsimp only
 refine fB bF ?_;have F:=aj4 @lr @k0 @k1 @k2;refine bR [1005] [1005] (Zvi g2 (kk+(aa r0:Int)+(aa r1:Int)) (Es 2) u2 om om) ?_;rintro r pm ⟨F2,rfl,rfl⟩;simp only [aI,bh,aZ,Taf,Tah];refine dT bF bF ?_;obtain ⟨E6,dp⟩:∃ E6,eS [.set (nj 0) (fun w=>aU w (.sl (bd (kk) r0)) (nj 0) u0),.set (nj 1) (fun w=>aU w (.sl (bd (kk+(aa r0:Int)) r1)) (nj 1) u1),.set F2 (fun w=>aU w (.sl (bd (kk+(aa r0:Int)+(aa r1:Int)) r2)) F2 u2)] [.set E6 (fun w=>aT w [.sl (bd (kk) r0),.sl (bd (kk+(aa r0:Int)) r1),.sl (bd (kk+(aa r0:Int)+(aa r1:Int)) r2)] E6 [u0,u1,u2])]:=⟨_,xz (cs:=[.sl (bd (kk) r0),.sl (bd (kk+(aa r0:Int)) r1),.sl (bd (kk+(aa r0:Int)+(aa r1:Int)) r2)]) (us:=[u0,u1,u2]) (Es:=fun k=>match k with | 0=>nj 0 | 1=>nj 1 | _=>F2) rfl trivial⟩
 refine pE [1003,1004,1005] [1000] dp ?_;have F:=hk;rw [(om:kk+(aa r0:Int)+(aa r1:Int)+(aa r2:Int)=kk+((aa r0+(aa r1+(aa r2)):Nat):Int))];exact eU (R:=fun r pm=>∃ E',r=[.one (.lit (.int .i64 (kk+((aa r0+(aa r1+(aa r2)):Nat):Int))))]∧pm=[.set E' (fun w=>aT w (po kk [.sl r0,.sl r1,.sl r2]) E' [u0,u1,u2])]) [1000] ⟨E6,rfl,by simp only [po];rfl⟩
theorem m285 {p:Prop} (h:p:=by
 ·obtain rfl:i=rows.length:=by omega
  refine Cv ?_;obtain ⟨E6,dp⟩:∃ E6,eS [.buf (some (a,cap)) ety 8 (us.map aM),.set E3 (fun w=>br w (bd k rows) E3 us)] [.set E6 (fun w=>aU w (.sl (bd k rows)) E6 (.slice a uss.length cap))]:=by
   exact CE
  exact m9):p:=h
theorem m277 {p:Prop} (h:p:=by
 have DW:=wg g3;have hm7:=wg g7;have jQ:aa (rows.take (i+1))=aa (rows.take i)+(6+aa r3+aa r7):=by
  exact CI
 refine yL fun nM fp=>?_;obtain ⟨u3,u7,rfl⟩:∃ u3 u7,u=[.int .i64 i0,.string t1,.int .i64 i2,u3,.int .i64 i4,.string t5,.int .i64 i6,u7]:=by
  exact m193
 refine m72 fun E4 Es iv iw=>?_;generalize eZ:k+(aa (rows.take i):Int)=kk at iv iw ⊢;refine Cy fun q1 q2 hs=>?_;have lr:aM [.int .i64 i0,.string t1,.int .i64 i2,u3,.int .i64 i4,.string t5,.int .i64 i6,u7]=[.lit (.int .i64 i0),.lit (.string t1),.lit (.int .i64 i2),.lit (u3),.lit (.int .i64 i4),.lit (.string t5),.lit (.int .i64 i6),.lit (u7)]:=rfl;refine m147 fun w0 w1=>?_;exact m3):p:=h
theorem m193 {p:Prop} (h:p:=by
 match u,fp with
 | [_,_,_,u3,_,_,_,u7],⟨rfl,rfl,rfl,rfl,rfl,rfl,_⟩=>exact ⟨u3,u7,rfl⟩):p:=h
theorem m72 {X Y:Prop} (b:Y) (h:Bx Y->X:=by
 intro B0
 refine ne (f:=fun (x:(Nat->Prop) × (Nat->Nat->Prop))=>[.set x.1 (fun w=>br w (rows.drop (i+1)) x.1 (us.drop (i+1))),.set (x.2 0) (fun w=>aU w (.sl r3) (x.2 0) u3),.set (x.2 1) (fun w=>aU w (.sl r7) (x.2 1) u7)]) [1001] [1001,1003,1004] (Ao rfl) ?_;rintro ⟨E4,Es⟩ -;dsimp only;have iv:0<=k+(aa (rows.take i):Int):=om;have iw:k+(aa (rows.take i):Int)+((6+aa r3+aa r7:Nat):Int)<=1000000000:=om;exact B0.o E4 Es iv iw):X:=h ⟨b⟩
theorem m46 {X Y:Prop} (b:Y) (h:Bx Y->X:=by
 intro B0
 refine gL (ι:=Nat × List (List Value) × (Nat->Prop) × (Nat->Prop)) [1,5,9] [1000,1001,1002] (fun x=>[(5,.d (.one (.lit (.int .i64 (x.1:Int))))),(1,.d (.one (.lit (.int .i64 (k+(aa (rows.take x.1):Nat))))))]) (fun x=>[(1000,.buf (some (a,cap)) ety 8 (x.2.1.map aM)),(1001,.set x.2.2.1 (fun w=>br w (rows.drop x.1) x.2.2.1 (x.2.1.drop x.1))),(1002,.set x.2.2.2 (fun w=>br w (bd k (rows.take x.1)) x.2.2.2 (x.2.1.take x.1)))]) (fun x=>x.1<=rows.length∧x.2.1.length=rows.length) (fun x=>rows.length - x.1) ((0,uss,E1,fun _=>False)) (⟨Taj _,hl⟩) (fun x hx=>?_);exact B0.o x hx):X:=h ⟨b⟩
theorem m3 {p:Prop} (h:p:=by
 have w2:IntKind.i64.wrap (kk+1+1+1)=kk+1+1+1:=IntWalk.i64_in _ om;have w4:IntKind.i64.wrap (kk+1+1+1+(aa r3:Int)+1)=kk+1+1+1+(aa r3:Int)+1:=IntWalk.i64_in _ om;have w5:IntKind.i64.wrap (kk+1+1+1+(aa r3:Int)+1+1)=kk+1+1+1+(aa r3:Int)+1+1:=IntWalk.i64_in _ om;have w6:IntKind.i64.wrap (kk+1+1+1+(aa r3:Int)+1+1+1)=kk+1+1+1+(aa r3:Int)+1+1+1:=IntWalk.i64_in _ om;have wi:IntKind.i64.wrap ((i:Int)+1)=(i:Int)+1:=IntWalk.i64_in _ om;have bF:=aj16 @q1 @hl @hn @hu @lr @lO @jK @hs @w0 @w1 @w2 @w4 @w5 @w6 @q2 @n6;refine bU bF bF (yW (kk+1) om om) ?_;refine iY bF bF ?_;have F:=aj16 @q1 @hl @hn @hu @lr @lO @jK @hs @w0 @w1 @w2 @w4 @w5 @w6 @q2 @n6;refine bR [1003] [1003] (DW (kk+1+1+1) (Es 0) u3 om om) ?_;rintro r pm ⟨F3,rfl,rfl⟩;simp only [aI,bh,aZ,Taf,Tah];refine fR bF ?_;refine bU bF bF (yW (kk+1+1+1+(aa r3:Int)+1) om om) ?_;refine iY bF bF ?_;have F:=aj16 @q1 @hl @hn @hu @lr @lO @jK @hs @w0 @w1 @w2 @w4 @w5 @w6 @q2 @n6;refine bR [1004] [1004] (hm7 (kk+1+1+1+(aa r3:Int)+1+1+1) (Es 1) u7 om om) ?_;rintro r pm ⟨F7,rfl,rfl⟩;simp only [aI,bh,aZ,Taf,Tah];refine fR bF ?_;obtain ⟨E6,dp⟩:∃ E6,eS [.set E3 (fun w=>br w (bd k (rows.take i)) E3 (us.take i)),.set F3 (fun w=>aU w (.sl (bd (kk+1+1+1) r3)) F3 u3),.set F7 (fun w=>aU w (.sl (bd (kk+1+1+1+(aa r3:Int)+1+1+1) r7)) F7 u7)] [.set E6 (fun w=>br w (bd k (rows.take (i+1))) E6 ((us.set i [.int .i64 (kk),.string (dH (kk+1)),.int .i64 (kk+1+1),u3,.int .i64 (kk+1+1+1+(aa r3:Int)),.string (dH (kk+1+1+1+(aa r3:Int)+1)),.int .i64 (kk+1+1+1+(aa r3:Int)+1+1),u7]).take (i+1)))]:=by
  have hz:=xN (E:=E3) (done:=bd k (rows.take i)) (ud:=us.take i) (cs:=[.lit (.int .i64 (kk)),.lit (.string (dH (kk+1))),.lit (.int .i64 (kk+1+1)),.sl (bd (kk+1+1+1) r3),.lit (.int .i64 (kk+1+1+1+(aa r3:Int))),.lit (.string (dH (kk+1+1+1+(aa r3:Int)+1))),.lit (.int .i64 (kk+1+1+1+(aa r3:Int)+1+1)),.sl (bd (kk+1+1+1+(aa r3:Int)+1+1+1) r7)]) (us:=[.int .i64 (kk),.string (dH (kk+1)),.int .i64 (kk+1+1),u3,.int .i64 (kk+1+1+1+(aa r3:Int)),.string (dH (kk+1+1+1+(aa r3:Int)+1)),.int .i64 (kk+1+1+1+(aa r3:Int)+1+1),u7]) (Es:=fun k=>match k with | 0=>F3 | _=>F7) rfl ⟨rfl,rfl,rfl,rfl,rfl,rfl,trivial⟩
  rw [xt hr,ZcJ,eZ,Zd3 om];simp only [qI,zY,CM,jp,Int.natCast_one];exact ⟨_,hz⟩
 refine pE [1002,1003,1004] [1002] dp ?_;have e1:((us.set i [.int .i64 (kk),.string (dH (kk+1)),.int .i64 (kk+1+1),u3,.int .i64 (kk+1+1+1+(aa r3:Int)),.string (dH (kk+1+1+1+(aa r3:Int)+1)),.int .i64 (kk+1+1+1+(aa r3:Int)+1+1),u7]).map aM)=(us.map aM).set i [.lit (.int .i64 (kk)),.lit (.string (dH (kk+1))),.lit (.int .i64 (kk+1+1)),.lit (u3),.lit (.int .i64 (kk+1+1+1+(aa r3:Int))),.lit (.string (dH (kk+1+1+1+(aa r3:Int)+1))),.lit (.int .i64 (kk+1+1+1+(aa r3:Int)+1+1)),.lit (u7)]:=by rw [List.map_set];rfl
 have e2:=xu us i [.int .i64 (kk),.string (dH (kk+1)),.int .i64 (kk+1+1),u3,.int .i64 (kk+1+1+1+(aa r3:Int)),.string (dH (kk+1+1+1+(aa r3:Int)+1)),.int .i64 (kk+1+1+1+(aa r3:Int)+1+1),u7];have e5:k+(aa (rows.take (i+1)):Int)=kk+1+1+1+(aa r3:Int)+1+1+1+(aa r7:Int):=by rw [jQ];omega
 have cy:(us.set i [.int .i64 (kk),.string (dH (kk+1)),.int .i64 (kk+1+1),u3,.int .i64 (kk+1+1+1+(aa r3:Int)),.string (dH (kk+1+1+1+(aa r3:Int)+1)),.int .i64 (kk+1+1+1+(aa r3:Int)+1+1),u7]).length=rows.length:=by rw [jK,hn]
 generalize us.set i [.int .i64 (kk),.string (dH (kk+1)),.int .i64 (kk+1+1),u3,.int .i64 (kk+1+1+1+(aa r3:Int)),.string (dH (kk+1+1+1+(aa r3:Int)+1)),.int .i64 (kk+1+1+1+(aa r3:Int)+1+1),u7]=v6 at e1 e2 cy ⊢;rw [<- e1,<- e2];have F:=aj10 @wi @e5 @hl @w0 @w1 @w2 @w4 @w5 @w6 @hn;refine gG ?_;exact ⟨(i+1,v6,E4,E6),⟨au,cy⟩,gw,gw,om⟩):p:=h
theorem ZlK {rows:List (List C)} (aj:aO (Zab .cond) rows):kq 114 rows:=by
 intro k E v hk hb;refine dK (ts:=[.slot 4]) [1000] 563 Tryz.func114 ?_;refine m0 fun bq=>?_
 ·have dX:rowsLen 8 rows:=aO.rowsLen aj;refine vS ?_;rintro ⟨a,cap,ety,uss,E1⟩ ⟨rfl,hl,dg⟩;simp only at hl ⊢;unfold maxLen at dg;refine vQ fun F=>?_;refine m46 fun x hx=>?_
  obtain ⟨i,us,E2,E3⟩:=x;obtain ⟨hi,hn⟩:=hx;simp only at hi hn;dsimp only;by_cases au:i < rows.length
  ·refine vM fun r hr u hu=>?_;obtain ⟨i0,t1,i2,r3,i4,t5,i6,r7,rfl,g0,g1,g2,g3,g4,g5,g6,g7⟩:=Zen (aj.get hr);exact m277
  exact m285
theorem ZlL (aj:aO (Zab .cond) rows):kq 114 rows:=ZlK aj
theorem m286 {p:Prop} (h:p:=by
 ·obtain rfl:i=rows.length:=by omega
  refine Cv ?_;obtain ⟨E6,dp⟩:∃ E6,eS [.buf (some (a,cap)) ety 9 (us.map aM),.set E3 (fun w=>br w (bd k rows) E3 us)] [.set E6 (fun w=>aU w (.sl (bd k rows)) E6 (.slice a uss.length cap))]:=by
   exact CE
  exact m9):p:=h
theorem m278 {p:Prop} (h:p:=by
 have jQ:aa (rows.take (i+1))=aa (rows.take i)+(6+aa r3+aa r7+aa r8):=by
  exact CI
 refine yL fun nM fp=>?_;obtain ⟨u3,u7,u8,rfl⟩:∃ u3 u7 u8,u=[.int .i64 i0,.string t1,.int .i64 i2,u3,.int .i64 i4,.string t5,.int .i64 i6,u7,u8]:=by
  exact m184
 refine m60 fun E4 Es iv iw=>?_;generalize eZ:k+(aa (rows.take i):Int)=kk at iv iw ⊢;refine Cy fun q1 q2 hs=>?_;have lr:aM [.int .i64 i0,.string t1,.int .i64 i2,u3,.int .i64 i4,.string t5,.int .i64 i6,u7,u8]=[.lit (.int .i64 i0),.lit (.string t1),.lit (.int .i64 i2),.lit (u3),.lit (.int .i64 i4),.lit (.string t5),.lit (.int .i64 i6),.lit (u7),.lit (u8)]:=rfl;refine m41 fun w0 w1 w2 w4 w5 w6 wi bF=>?_;exact m4):p:=h
theorem m184 {p:Prop} (h:p:=by
 match u,fp with
 | [_,_,_,u3,_,_,_,u7,u8],⟨rfl,rfl,rfl,rfl,rfl,rfl,_⟩=>exact ⟨u3,u7,u8,rfl⟩):p:=h
theorem m60 {X Y:Prop} (b:Y) (h:Bx Y->X:=by
 intro B0
 refine ne (f:=fun (x:(Nat->Prop) × (Nat->Nat->Prop))=>[.set x.1 (fun w=>br w (rows.drop (i+1)) x.1 (us.drop (i+1))),.set (x.2 0) (fun w=>aU w (.sl r3) (x.2 0) u3),.set (x.2 1) (fun w=>aU w (.sl r7) (x.2 1) u7),.set (x.2 2) (fun w=>aU w (.sl r8) (x.2 2) u8)]) [1001] [1001,1003,1004,1005] (Ao rfl) ?_;rintro ⟨E4,Es⟩ -;dsimp only;have iv:0<=k+(aa (rows.take i):Int):=om;have iw:k+(aa (rows.take i):Int)+((6+aa r3+aa r7+aa r8:Nat):Int)<=1000000000:=om;exact B0.o E4 Es iv iw):X:=h ⟨b⟩
theorem m47 {X Y:Prop} (b:Y) (h:Bx Y->X:=by
 intro B0
 refine gL (ι:=Nat × List (List Value) × (Nat->Prop) × (Nat->Prop)) [1,5,9] [1000,1001,1002] (fun x=>[(5,.d (.one (.lit (.int .i64 (x.1:Int))))),(1,.d (.one (.lit (.int .i64 (k+(aa (rows.take x.1):Nat))))))]) (fun x=>[(1000,.buf (some (a,cap)) ety 9 (x.2.1.map aM)),(1001,.set x.2.2.1 (fun w=>br w (rows.drop x.1) x.2.2.1 (x.2.1.drop x.1))),(1002,.set x.2.2.2 (fun w=>br w (bd k (rows.take x.1)) x.2.2.2 (x.2.1.take x.1)))]) (fun x=>x.1<=rows.length∧x.2.1.length=rows.length) (fun x=>rows.length - x.1) ((0,uss,E1,fun _=>False)) (⟨Taj _,hl⟩) (fun x hx=>?_);exact B0.o x hx):X:=h ⟨b⟩
theorem m41 {X Y:Prop} (b:Y) (h:Bx Y->X:=by
 intro B0
 have w0:IntKind.i64.wrap (kk+1)=kk+1:=IntWalk.i64_in _ om;have w1:IntKind.i64.wrap (kk+1+1)=kk+1+1:=IntWalk.i64_in _ om;have w2:IntKind.i64.wrap (kk+1+1+1)=kk+1+1+1:=IntWalk.i64_in _ om;have w4:IntKind.i64.wrap (kk+1+1+1+(aa r3:Int)+1)=kk+1+1+1+(aa r3:Int)+1:=IntWalk.i64_in _ om;have w5:IntKind.i64.wrap (kk+1+1+1+(aa r3:Int)+1+1)=kk+1+1+1+(aa r3:Int)+1+1:=IntWalk.i64_in _ om;have w6:IntKind.i64.wrap (kk+1+1+1+(aa r3:Int)+1+1+1)=kk+1+1+1+(aa r3:Int)+1+1+1:=IntWalk.i64_in _ om;have wi:IntKind.i64.wrap ((i:Int)+1)=(i:Int)+1:=IntWalk.i64_in _ om;have bF:=aj16 @q1 @hl @hn @hu @lr @lO @jK @hs @w0 @w1 @w2 @w4 @w5 @w6 @q2 @n6;exact B0.o w0 w1 w2 w4 w5 w6 wi bF):X:=h ⟨b⟩
theorem m4 {p:Prop} (h:p:=by
 refine bU bF bF (yW (kk+1) om om) ?_;refine iY bF bF ?_;have F:=aj16 @q1 @hl @hn @hu @lr @lO @jK @hs @w0 @w1 @w2 @w4 @w5 @w6 @q2 @n6;refine bR [1003] [1003] (DW (kk+1+1+1) (Es 0) u3 om om) ?_;rintro r pm ⟨F3,rfl,rfl⟩;simp only [aI,bh,aZ,Taf,Tah];refine fR bF ?_;refine bU bF bF (yW (kk+1+1+1+(aa r3:Int)+1) om om) ?_;refine iY bF bF ?_;have F:=aj16 @q1 @hl @hn @hu @lr @lO @jK @hs @w0 @w1 @w2 @w4 @w5 @w6 @q2 @n6;refine bR [1004] [1004] (hm7 (kk+1+1+1+(aa r3:Int)+1+1+1) (Es 1) u7 om om) ?_;rintro r pm ⟨F7,rfl,rfl⟩;simp only [aI,bh,aZ,Taf,Tah];refine iY bF bF ?_;have F:=aj16 @q1 @hl @hn @hu @lr @lO @jK @hs @w0 @w1 @w2 @w4 @w5 @w6 @q2 @n6;refine bR [1005] [1005] (hm8 (kk+1+1+1+(aa r3:Int)+1+1+1+(aa r7:Int)) (Es 2) u8 om om) ?_;rintro r pm ⟨F8,rfl,rfl⟩;simp only [aI,bh,aZ,Taf,Tah];refine fR bF ?_;obtain ⟨E6,dp⟩:∃ E6,eS [.set E3 (fun w=>br w (bd k (rows.take i)) E3 (us.take i)),.set F3 (fun w=>aU w (.sl (bd (kk+1+1+1) r3)) F3 u3),.set F7 (fun w=>aU w (.sl (bd (kk+1+1+1+(aa r3:Int)+1+1+1) r7)) F7 u7),.set F8 (fun w=>aU w (.sl (bd (kk+1+1+1+(aa r3:Int)+1+1+1+(aa r7:Int)) r8)) F8 u8)] [.set E6 (fun w=>br w (bd k (rows.take (i+1))) E6 ((us.set i [.int .i64 (kk),.string (dH (kk+1)),.int .i64 (kk+1+1),u3,.int .i64 (kk+1+1+1+(aa r3:Int)),.string (dH (kk+1+1+1+(aa r3:Int)+1)),.int .i64 (kk+1+1+1+(aa r3:Int)+1+1),u7,u8]).take (i+1)))]:=by
  have hz:=xN (E:=E3) (done:=bd k (rows.take i)) (ud:=us.take i) (cs:=[.lit (.int .i64 (kk)),.lit (.string (dH (kk+1))),.lit (.int .i64 (kk+1+1)),.sl (bd (kk+1+1+1) r3),.lit (.int .i64 (kk+1+1+1+(aa r3:Int))),.lit (.string (dH (kk+1+1+1+(aa r3:Int)+1))),.lit (.int .i64 (kk+1+1+1+(aa r3:Int)+1+1)),.sl (bd (kk+1+1+1+(aa r3:Int)+1+1+1) r7),.sl (bd (kk+1+1+1+(aa r3:Int)+1+1+1+(aa r7:Int)) r8)]) (us:=[.int .i64 (kk),.string (dH (kk+1)),.int .i64 (kk+1+1),u3,.int .i64 (kk+1+1+1+(aa r3:Int)),.string (dH (kk+1+1+1+(aa r3:Int)+1)),.int .i64 (kk+1+1+1+(aa r3:Int)+1+1),u7,u8]) (Es:=fun k=>match k with | 0=>F3 | 1=>F7 | _=>F8) rfl ⟨rfl,rfl,rfl,rfl,rfl,rfl,trivial⟩
  rw [xt hr,ZcJ,eZ,Zd3 om];simp only [qI,zY,CM,jp,Int.natCast_one];exact ⟨_,hz⟩
 refine pE [1002,1003,1004,1005] [1002] dp ?_;have e1:((us.set i [.int .i64 (kk),.string (dH (kk+1)),.int .i64 (kk+1+1),u3,.int .i64 (kk+1+1+1+(aa r3:Int)),.string (dH (kk+1+1+1+(aa r3:Int)+1)),.int .i64 (kk+1+1+1+(aa r3:Int)+1+1),u7,u8]).map aM)=(us.map aM).set i [.lit (.int .i64 (kk)),.lit (.string (dH (kk+1))),.lit (.int .i64 (kk+1+1)),.lit (u3),.lit (.int .i64 (kk+1+1+1+(aa r3:Int))),.lit (.string (dH (kk+1+1+1+(aa r3:Int)+1))),.lit (.int .i64 (kk+1+1+1+(aa r3:Int)+1+1)),.lit (u7),.lit (u8)]:=by rw [List.map_set];rfl
 have e2:=xu us i [.int .i64 (kk),.string (dH (kk+1)),.int .i64 (kk+1+1),u3,.int .i64 (kk+1+1+1+(aa r3:Int)),.string (dH (kk+1+1+1+(aa r3:Int)+1)),.int .i64 (kk+1+1+1+(aa r3:Int)+1+1),u7,u8];have e5:k+(aa (rows.take (i+1)):Int)=kk+1+1+1+(aa r3:Int)+1+1+1+(aa r7:Int)+(aa r8:Int):=by rw [jQ];omega
 have cy:(us.set i [.int .i64 (kk),.string (dH (kk+1)),.int .i64 (kk+1+1),u3,.int .i64 (kk+1+1+1+(aa r3:Int)),.string (dH (kk+1+1+1+(aa r3:Int)+1)),.int .i64 (kk+1+1+1+(aa r3:Int)+1+1),u7,u8]).length=rows.length:=by rw [jK,hn]
 generalize us.set i [.int .i64 (kk),.string (dH (kk+1)),.int .i64 (kk+1+1),u3,.int .i64 (kk+1+1+1+(aa r3:Int)),.string (dH (kk+1+1+1+(aa r3:Int)+1)),.int .i64 (kk+1+1+1+(aa r3:Int)+1+1),u7,u8]=v6 at e1 e2 cy ⊢;rw [<- e1,<- e2];have F:=aj10 @wi @e5 @hl @w0 @w1 @w2 @w4 @w5 @w6 @hn;refine gG ?_;exact ⟨(i+1,v6,E4,E6),⟨au,cy⟩,gw,gw,om⟩):p:=h
theorem Zmi {rows:List (List C)} (aj:aO (Zab .eqn) rows):kq 50 rows:=by
 intro k E v hk hb;refine dK (ts:=[.slot 4]) [1000] 563 Tryz.func50 ?_;refine m0 fun bq=>?_
 ·have dX:rowsLen 9 rows:=aO.rowsLen aj;refine vS ?_;rintro ⟨a,cap,ety,uss,E1⟩ ⟨rfl,hl,dg⟩;simp only at hl ⊢;unfold maxLen at dg;refine vQ fun F=>?_;refine m47 fun x hx=>?_
  obtain ⟨i,us,E2,E3⟩:=x;obtain ⟨hi,hn⟩:=hx;simp only at hi hn;dsimp only;by_cases au:i < rows.length
  ·refine vM fun r hr u hu=>?_;obtain ⟨i0,t1,i2,r3,i4,t5,i6,r7,r8,rfl,g0,g1,g2,g3,g4,g5,g6,g7,g8⟩:=ZeI (aj.get hr);have DW:=wg g3;have hm7:=wg g7;have hm8:=ZlL g8;exact m278
  exact m286
theorem Zhz (aj:aO (Zab .eqn) rows):kq 50 rows:=Zmi aj
theorem ZpP (aj:aV (tv) row):Zo1 15 row:=by
 obtain ⟨r0,r1,r2,r3,r4,rfl,g0,g1,g2,g3,g4⟩:=Zfy aj;intro kk E us hl hc hk hb;obtain ⟨u0,u1,u2,u3,u4,rfl⟩:=yy hl;have kc:aY (.lit u0)=true∧aY (.lit u1)=true∧aY (.lit u2)=true∧aY (.lit u3)=true∧aY (.lit u4)=true:=by exact tg
 obtain ⟨k0,k1,k2,k3,k4⟩:=kc;simp only [bB,Nat.add_zero] at hb ⊢;have lr:aM [u0,u1,u2,u3,u4]=[.lit u0,.lit u1,.lit u2,.lit u3,.lit u4]:=rfl;rw [lr];refine dK (ts:=[.slot 4]) [1000] 23 Tryz.func15 ?_;refine ne (f:=fun (x:Nat->Nat->Prop)=>[.set (x 0) (fun w=>aU w (.sl r0) (x 0) u0),.set (x 1) (fun w=>aU w (.sl r1) (x 1) u1),.set (x 2) (fun w=>aU w (.sl r2) (x 2) u2),.set (x 3) (fun w=>aU w (.sl r3) (x 3) u3),.set (x 4) (fun w=>aU w (.sl r4) (x 4) u4)]) [1000] [1003,1004,1005,1006,1007] (xF rfl) ?_
 rintro Es -
 try dsimp only
 obtain ⟨G0,vt⟩:∃ G,eS [.set (Es 0) (fun w=>aU w (.sl r0) (Es 0) u0),.set (Es 1) (fun w=>aU w (.sl r1) (Es 1) u1),.set (Es 2) (fun w=>aU w (.sl r2) (Es 2) u2)] [.set G (fun w=>aT w [.sl r0,.sl r1,.sl r2] G [u0,u1,u2])]:=⟨_,xz (cs:=[.sl r0,.sl r1,.sl r2]) (us:=[u0,u1,u2]) (Es:=fun k=>Es (k+0)) rfl trivial⟩;refine pE [1003,1004,1005] [1003] vt ?_;have pa:aM [u0,u1,u2]=[.lit u0,.lit u1,.lit u2]:=rfl
 have mM:=Zmh (row:=[.sl r0,.sl r1,.sl r2]) (Zed g0 g1 g2) (kk) G0 [u0,u1,u2] rfl (by rw [pa];simp only [List.all_cons,List.all_nil,k0,k1,k2,Bool.and_self]) om (by simp only [bB];omega);rw [pa] at mM;simp only [bB,po,Nat.add_zero,Int.natCast_add,<- Int.add_assoc] at mM;have bF:=aj6 @lr @k0 @k1 @k2 @k3 @k4;refine fB bF ?_;have F:=aj6 @lr @k0 @k1 @k2 @k3 @k4;refine bR [1003] [1003] (mM) ?_
 rintro r pm ⟨G0',rfl,rfl⟩;simp only [aI,bh,aZ,Taf,Tah];refine fR bF ?_;refine ne (f:=fun (x:Nat->Nat->Prop)=>[.set (x 0) (fun w=>aU w (.sl (bd (kk) r0)) (x 0) u0),.set (x 1) (fun w=>aU w (.sl (bd (kk+(aa r0:Int)) r1)) (x 1) u1),.set (x 2) (fun w=>aU w (.sl (bd (kk+(aa r0:Int)+(aa r1:Int)) r2)) (x 2) u2)]) [1003] [1003,1004,1005] (xF (r:=[.sl (bd (kk) r0),.sl (bd (kk+(aa r0:Int)) r1),.sl (bd (kk+(aa r0:Int)+(aa r1:Int)) r2)]) rfl) ?_
 rintro nj -
 try dsimp only
 refine fB bF ?_;have F:=aj6 @lr @k0 @k1 @k2 @k3 @k4;refine bR [1006] [1006] (Zhz g3 (kk+(aa r0:Int)+(aa r1:Int)+(aa r2:Int)) (Es 3) u3 om om) ?_;rintro r pm ⟨F3,rfl,rfl⟩;simp only [aI,bh,aZ,Taf,Tah];refine iY bF bF ?_;have F:=aj6 @lr @k0 @k1 @k2 @k3 @k4;refine bR [1007] [1007] (Zhz g4 (kk+(aa r0:Int)+(aa r1:Int)+(aa r2:Int)+(aa r3:Int)) (Es 4) u4 om om) ?_
 rintro r pm ⟨F4,rfl,rfl⟩;simp only [aI,bh,aZ,Taf,Tah];refine dT bF bF ?_;obtain ⟨E6,dp⟩:∃ E6,eS [.set (nj 0) (fun w=>aU w (.sl (bd (kk) r0)) (nj 0) u0),.set (nj 1) (fun w=>aU w (.sl (bd (kk+(aa r0:Int)) r1)) (nj 1) u1),.set (nj 2) (fun w=>aU w (.sl (bd (kk+(aa r0:Int)+(aa r1:Int)) r2)) (nj 2) u2),.set F3 (fun w=>aU w (.sl (bd (kk+(aa r0:Int)+(aa r1:Int)+(aa r2:Int)) r3)) F3 u3),.set F4 (fun w=>aU w (.sl (bd (kk+(aa r0:Int)+(aa r1:Int)+(aa r2:Int)+(aa r3:Int)) r4)) F4 u4)] [.set E6 (fun w=>aT w [.sl (bd (kk) r0),.sl (bd (kk+(aa r0:Int)) r1),.sl (bd (kk+(aa r0:Int)+(aa r1:Int)) r2),.sl (bd (kk+(aa r0:Int)+(aa r1:Int)+(aa r2:Int)) r3),.sl (bd (kk+(aa r0:Int)+(aa r1:Int)+(aa r2:Int)+(aa r3:Int)) r4)] E6 [u0,u1,u2,u3,u4])]:=⟨_,xz (cs:=[.sl (bd (kk) r0),.sl (bd (kk+(aa r0:Int)) r1),.sl (bd (kk+(aa r0:Int)+(aa r1:Int)) r2),.sl (bd (kk+(aa r0:Int)+(aa r1:Int)+(aa r2:Int)) r3),.sl (bd (kk+(aa r0:Int)+(aa r1:Int)+(aa r2:Int)+(aa r3:Int)) r4)]) (us:=[u0,u1,u2,u3,u4]) (Es:=fun k=>match k with | 0=>nj 0 | 1=>nj 1 | 2=>nj 2 | 3=>F3 | _=>F4) rfl trivial⟩
 refine pE [1003,1004,1005,1006,1007] [1000] dp ?_;have F:=hk;rw [(om:kk+(aa r0:Int)+(aa r1:Int)+(aa r2:Int)+(aa r3:Int)+(aa r4:Int)=kk+((aa r0+(aa r1+(aa r2+(aa r3+(aa r4)))):Nat):Int))];exact eU (R:=fun r pm=>∃ E',r=[.one (.lit (.int .i64 (kk+((aa r0+(aa r1+(aa r2+(aa r3+(aa r4)))):Nat):Int))))]∧pm=[.set E' (fun w=>aT w (po kk [.sl r0,.sl r1,.sl r2,.sl r3,.sl r4]) E' [u0,u1,u2,u3,u4])]) [1000] ⟨E6,rfl,by simp only [po];rfl⟩
theorem Zny {rows:List (List C)} (aj:aO (Zab .binding) rows):kq 77 rows:=by
 intro k E v hk hb;refine dK (ts:=[.slot 4]) [1000] 563 Tryz.func77 ?_;refine m0 fun bq=>?_
 ·have dX:rowsLen 8 rows:=aO.rowsLen aj;refine vS ?_;rintro ⟨a,cap,ety,uss,E1⟩ ⟨rfl,hl,dg⟩;simp only at hl ⊢;unfold maxLen at dg;refine vQ fun F=>?_;refine m46 fun x hx=>?_
  obtain ⟨i,us,E2,E3⟩:=x;obtain ⟨hi,hn⟩:=hx;simp only at hi hn;dsimp only;by_cases au:i < rows.length
  ·refine vM fun r hr u hu=>?_;obtain ⟨i0,t1,i2,r3,i4,t5,i6,r7,rfl,g0,g1,g2,g3,g4,g5,g6,g7⟩:=Ze1 (aj.get hr);exact m277
  exact m285
theorem Znz (aj:aO (Zab .binding) rows):kq 77 rows:=Zny aj
theorem yC {X Y:Prop} (b:Y) (h:Bx Y->X:=by
 intro B0
 refine iY bF bF ?_;have F:=aj11 @q1 @hl @hn @hu @lr @lO @jK @hs @w0 @q2 @n6;exact B0.o F):X:=h ⟨b⟩
theorem Zrt {rows:List (List C)} (aj:aO (Zab .link) rows) (jh:∀ r,aO (Zab .chain) r->fY r < fY rows->kq 116 r):kq 51 rows:=by
 intro k E v hk hb;refine dK (ts:=[.slot 4]) [1000] 563 Tryz.func51 ?_;refine m0 fun bq=>?_
 ·have dX:rowsLen 6 rows:=aO.rowsLen aj;refine vS ?_;rintro ⟨a,cap,ety,uss,E1⟩ ⟨rfl,hl,dg⟩;simp only at hl ⊢;unfold maxLen at dg;refine vQ fun F=>?_;refine gL (ι:=Nat × List (List Value) × (Nat->Prop) × (Nat->Prop)) [1,5,9] [1000,1001,1002] (fun x=>[(5,.d (.one (.lit (.int .i64 (x.1:Int))))),(1,.d (.one (.lit (.int .i64 (k+(aa (rows.take x.1):Nat))))))]) (fun x=>[(1000,.buf (some (a,cap)) ety 6 (x.2.1.map aM)),(1001,.set x.2.2.1 (fun w=>br w (rows.drop x.1) x.2.2.1 (x.2.1.drop x.1))),(1002,.set x.2.2.2 (fun w=>br w (bd k (rows.take x.1)) x.2.2.2 (x.2.1.take x.1)))]) (fun x=>x.1<=rows.length∧x.2.1.length=rows.length) (fun x=>rows.length - x.1) ((0,uss,E1,fun _=>False)) (⟨Taj _,hl⟩) (fun x hx=>?_)
  obtain ⟨i,us,E2,E3⟩:=x;obtain ⟨hi,hn⟩:=hx;simp only at hi hn;dsimp only;by_cases au:i < rows.length
  ·refine vM fun r hr u hu=>?_;obtain ⟨i0,r1,r2,r3,r4,r5,rfl,g0,g1,g2,g3,g4,g5⟩:=Zgq (aj.get hr);have re:=n7 hr;simp only [d6,mo] at re;have hm5:=jh r5 g5 om;have iy:=ZlJ g1;have sS:=wg g2;have DW:=wg g3;have hm4:=Znz g4;have jQ:aa (rows.take (i+1))=aa (rows.take i)+(1+aa r1+aa r2+aa r3+aa r4+aa r5):=by
    exact CI
   refine yL fun nM fp=>?_;obtain ⟨u1,u2,u3,u4,u5,rfl⟩:∃ u1 u2 u3 u4 u5,u=[.int .i64 i0,u1,u2,u3,u4,u5]:=by
    match u,fp with
    | [_,u1,u2,u3,u4,u5],⟨rfl,_⟩=>exact ⟨u1,u2,u3,u4,u5,rfl⟩
   refine ne (f:=fun (x:(Nat->Prop) × (Nat->Nat->Prop))=>[.set x.1 (fun w=>br w (rows.drop (i+1)) x.1 (us.drop (i+1))),.set (x.2 0) (fun w=>aU w (.sl r1) (x.2 0) u1),.set (x.2 1) (fun w=>aU w (.sl r2) (x.2 1) u2),.set (x.2 2) (fun w=>aU w (.sl r3) (x.2 2) u3),.set (x.2 3) (fun w=>aU w (.sl r4) (x.2 3) u4),.set (x.2 4) (fun w=>aU w (.sl r5) (x.2 4) u5)]) [1001] [1001,1003,1004,1005,1006,1007] (Ao rfl) ?_
   rintro ⟨E4,Es⟩ -;dsimp only;have iv:0<=k+(aa (rows.take i):Int):=om;have iw:k+(aa (rows.take i):Int)+((1+aa r1+aa r2+aa r3+aa r4+aa r5:Nat):Int)<=1000000000:=om;generalize eZ:k+(aa (rows.take i):Int)=kk at iv iw ⊢;refine Cy fun q1 q2 hs=>?_
   have lr:aM [.int .i64 i0,u1,u2,u3,u4,u5]=[.lit (.int .i64 i0),.lit (u1),.lit (u2),.lit (u3),.lit (u4),.lit (u5)]:=rfl;have w0:IntKind.i64.wrap (kk+1)=kk+1:=IntWalk.i64_in _ om;refine vK fun wi=>?_;have bF:=aj11 @q1 @hl @hn @hu @lr @lO @jK @hs @w0 @q2 @n6;refine fB bF ?_;have F:=aj11 @q1 @hl @hn @hu @lr @lO @jK @hs @w0 @q2 @n6;refine bR [1003] [1003] (iy (kk+1) (Es 0) u1 om om) ?_
   rintro r pm ⟨F1,rfl,rfl⟩;refine m7 ?_;refine yC fun F=>?_;refine bR [1004] [1004] (sS (kk+1+(aa r1:Int)) (Es 1) u2 om om) ?_;rintro r pm ⟨F2,rfl,rfl⟩;refine m7 ?_;refine yC fun F=>?_;refine bR [1005] [1005] (DW (kk+1+(aa r1:Int)+(aa r2:Int)) (Es 2) u3 om om) ?_;rintro r pm ⟨F3,rfl,rfl⟩;refine m7 ?_;refine yC fun F=>?_;refine bR [1006] [1006] (hm4 (kk+1+(aa r1:Int)+(aa r2:Int)+(aa r3:Int)) (Es 3) u4 om om) ?_;rintro r pm ⟨F4,rfl,rfl⟩;refine m7 ?_;refine yC fun F=>?_;refine bR [1007] [1007] (hm5 (kk+1+(aa r1:Int)+(aa r2:Int)+(aa r3:Int)+(aa r4:Int)) (Es 4) u5 om om) ?_
   rintro r pm ⟨F5,rfl,rfl⟩;refine m7 ?_;refine fR bF ?_;obtain ⟨E6,dp⟩:∃ E6,eS [.set E3 (fun w=>br w (bd k (rows.take i)) E3 (us.take i)),.set F1 (fun w=>aU w (.sl (bd (kk+1) r1)) F1 u1),.set F2 (fun w=>aU w (.sl (bd (kk+1+(aa r1:Int)) r2)) F2 u2),.set F3 (fun w=>aU w (.sl (bd (kk+1+(aa r1:Int)+(aa r2:Int)) r3)) F3 u3),.set F4 (fun w=>aU w (.sl (bd (kk+1+(aa r1:Int)+(aa r2:Int)+(aa r3:Int)) r4)) F4 u4),.set F5 (fun w=>aU w (.sl (bd (kk+1+(aa r1:Int)+(aa r2:Int)+(aa r3:Int)+(aa r4:Int)) r5)) F5 u5)] [.set E6 (fun w=>br w (bd k (rows.take (i+1))) E6 ((us.set i [.int .i64 (kk),u1,u2,u3,u4,u5]).take (i+1)))]:=by
    have hz:=xN (E:=E3) (done:=bd k (rows.take i)) (ud:=us.take i) (cs:=[.lit (.int .i64 (kk)),.sl (bd (kk+1) r1),.sl (bd (kk+1+(aa r1:Int)) r2),.sl (bd (kk+1+(aa r1:Int)+(aa r2:Int)) r3),.sl (bd (kk+1+(aa r1:Int)+(aa r2:Int)+(aa r3:Int)) r4),.sl (bd (kk+1+(aa r1:Int)+(aa r2:Int)+(aa r3:Int)+(aa r4:Int)) r5)]) (us:=[.int .i64 (kk),u1,u2,u3,u4,u5]) (Es:=fun k=>match k with | 0=>F1 | 1=>F2 | 2=>F3 | 3=>F4 | _=>F5) rfl ⟨rfl,trivial⟩
    exact D4
   refine pE [1002,1003,1004,1005,1006,1007] [1002] dp ?_;have e1:((us.set i [.int .i64 (kk),u1,u2,u3,u4,u5]).map aM)=(us.map aM).set i [.lit (.int .i64 (kk)),.lit (u1),.lit (u2),.lit (u3),.lit (u4),.lit (u5)]:=by rw [List.map_set];rfl
   have e2:=xu us i [.int .i64 (kk),u1,u2,u3,u4,u5];have e5:k+(aa (rows.take (i+1)):Int)=kk+1+(aa r1:Int)+(aa r2:Int)+(aa r3:Int)+(aa r4:Int)+(aa r5:Int):=by rw [jQ];omega
   have cy:(us.set i [.int .i64 (kk),u1,u2,u3,u4,u5]).length=rows.length:=by rw [jK,hn]
   generalize us.set i [.int .i64 (kk),u1,u2,u3,u4,u5]=v6 at e1 e2 cy ⊢;rw [<- e1,<- e2];have F:=aj5 @wi @e5 @hl @w0 @hn;exact CJ
  ·obtain rfl:i=rows.length:=by omega
   refine Cv ?_;obtain ⟨E6,dp⟩:∃ E6,eS [.buf (some (a,cap)) ety 6 (us.map aM),.set E3 (fun w=>br w (bd k rows) E3 us)] [.set E6 (fun w=>aU w (.sl (bd k rows)) E6 (.slice a uss.length cap))]:=by
    exact CE
   exact m9
theorem ZpQ {rows:List (List C)} (aj:aO (Zab .chain) rows) (ma:∀ r,aO (Zab .link) r->fY r < fY rows->kq 51 r):kq 116 rows:=by
 intro k E v hk hb;refine dK (ts:=[.slot 4]) [1000] 563 Tryz.func116 ?_;refine m0 fun bq=>?_
 ·have dX:rowsLen 9 rows:=aO.rowsLen aj;refine vS ?_;rintro ⟨a,cap,ety,uss,E1⟩ ⟨rfl,hl,dg⟩;simp only at hl ⊢;unfold maxLen at dg;refine vQ fun F=>?_;refine m47 fun x hx=>?_
  obtain ⟨i,us,E2,E3⟩:=x;obtain ⟨hi,hn⟩:=hx;simp only at hi hn;dsimp only;by_cases au:i < rows.length
  ·refine vM fun r hr u hu=>?_;obtain ⟨i0,t1,i2,r3,i4,t5,i6,r7,r8,rfl,g0,g1,g2,g3,g4,g5,g6,g7,g8⟩:=CX (aj.get hr);have re:=n7 hr;simp only [d6,mo] at re;have hm8:=ma r8 g8 om;have DW:=wg g3;have hm7:=wg g7;exact m278
  exact m286
theorem ZyM (n:Nat):(∀ rows,fY rows < n->aO (Zab .chain) rows->kq 116 rows)∧(∀ rows,fY rows < n->aO (Zab .link) rows->kq 51 rows):=by
 induction n with
 | zero=>exact ⟨fun _ h=>om,fun _ h=>om⟩
 | succ n ih=>exact ⟨fun rows hn aj=>ZpQ aj fun r h1 h2=>ih.2 r om h1,fun rows hn aj=>Zrt aj fun r h1 h2=>ih.1 r om h1⟩
theorem Zru (aj:aO (Zab .link) rows):kq 51 rows:=(ZyM _).2 rows (Tan _) aj
theorem Zrv (aj:aV (Zab .chain) row):Zo1 16 row:=by
 obtain ⟨i0,t1,i2,r3,i4,t5,i6,r7,r8,rfl,g0,g1,g2,g3,g4,g5,g6,g7,g8⟩:=CX aj;intro kk E us hl hc hk hb;obtain ⟨u0,u1,u2,u3,u4,u5,u6,u7,u8,rfl⟩:=Cb hl;have kc:aY (.lit u0)=true∧aY (.lit u1)=true∧aY (.lit u2)=true∧aY (.lit u3)=true∧aY (.lit u4)=true∧aY (.lit u5)=true∧aY (.lit u6)=true∧aY (.lit u7)=true∧aY (.lit u8)=true:=by exact tg
 obtain ⟨k0,k1,k2,k3,k4,k5,k6,k7,k8⟩:=kc;simp only [bB,Nat.add_zero] at hb ⊢;have lr:aM [u0,u1,u2,u3,u4,u5,u6,u7,u8]=[.lit u0,.lit u1,.lit u2,.lit u3,.lit u4,.lit u5,.lit u6,.lit u7,.lit u8]:=rfl;rw [lr];refine dK (ts:=[.slot 4]) [1000] 23 Tryz.func16 ?_;refine ne [1000] [1000] (Zxw rfl) ?_;rintro ⟨⟩ fp;obtain ⟨rfl,rfl,rfl,rfl,rfl,rfl,_⟩:=fp;refine ne (f:=fun (x:Nat->Nat->Prop)=>[.set (x 0) (fun w=>aU w (.sl r3) (x 0) u3),.set (x 1) (fun w=>aU w (.sl r7) (x 1) u7),.set (x 2) (fun w=>aU w (.sl r8) (x 2) u8)]) [1000] [1003,1004,1005] (xF rfl) ?_
 rintro Es -
 try dsimp only
 obtain ⟨G0,vt⟩:∃ G,eS [.set (Es 0) (fun w=>aU w (.sl r3) (Es 0) u3)] [.set G (fun w=>aT w [.lit (.int .i64 i0),.lit (.string t1),.lit (.int .i64 i2),.sl r3] G [.int .i64 i0,.string t1,.int .i64 i2,u3])]:=⟨_,xz (cs:=[.lit (.int .i64 i0),.lit (.string t1),.lit (.int .i64 i2),.sl r3]) (us:=[.int .i64 i0,.string t1,.int .i64 i2,u3]) (Es:=fun k=>Es (k+0)) rfl ⟨rfl,rfl,rfl,trivial⟩⟩;refine pE [1003] [1003] vt ?_
 have pa:aM [.int .i64 i0,.string t1,.int .i64 i2,u3]=[.lit (.int .i64 i0),.lit (.string t1),.lit (.int .i64 i2),.lit (u3)]:=rfl;have mM:=ZlI (row:=[.lit (.int .i64 i0),.lit (.string t1),.lit (.int .i64 i2),.sl r3]) (uq g0 g1 g2 g3) (kk) G0 [.int .i64 i0,.string t1,.int .i64 i2,u3] rfl (by rw [pa];simp only [List.all_cons,List.all_nil,k0,k1,k2,k3,Bool.and_self]) om (by simp only [bB];omega)
 rw [pa] at mM;simp only [bB,po,Nat.add_zero,Int.natCast_add,<- Int.add_assoc] at mM;have bF:=aj10 @lr @k0 @k1 @k2 @k3 @k4 @k5 @k6 @k7 @k8;refine fB bF ?_;have F:=aj10 @lr @k0 @k1 @k2 @k3 @k4 @k5 @k6 @k7 @k8;refine bR [1003] [1003] (mM) ?_;rintro r pm ⟨G0',rfl,rfl⟩;simp only [aI,bh,aZ,Taf,Tah];refine fR bF ?_;refine ne (f:=fun (x:Nat->Nat->Prop)=>[.set (x 0) (fun w=>aU w (.sl (bd (kk) r3)) (x 0) u3)]) [1003] [1003] (xF (r:=[.lit (.int .i64 i0),.lit (.string t1),.lit (.int .i64 i2),.sl (bd (kk) r3)]) rfl) ?_
 rintro nj -
 try dsimp only
 obtain ⟨G1,hre1⟩:∃ G,eS [.set (Es 1) (fun w=>aU w (.sl r7) (Es 1) u7)] [.set G (fun w=>aT w [.lit (.int .i64 i4),.lit (.string t5),.lit (.int .i64 i6),.sl r7] G [.int .i64 i4,.string t5,.int .i64 i6,u7])]:=⟨_,xz (cs:=[.lit (.int .i64 i4),.lit (.string t5),.lit (.int .i64 i6),.sl r7]) (us:=[.int .i64 i4,.string t5,.int .i64 i6,u7]) (Es:=fun k=>Es (k+1)) rfl ⟨rfl,rfl,rfl,trivial⟩⟩;refine pE [1004] [1004] hre1 ?_
 have lr1:aM [.int .i64 i4,.string t5,.int .i64 i6,u7]=[.lit (.int .i64 i4),.lit (.string t5),.lit (.int .i64 i6),.lit (u7)]:=rfl;have iy:=ZlI (row:=[.lit (.int .i64 i4),.lit (.string t5),.lit (.int .i64 i6),.sl r7]) (uq g4 g5 g6 g7) (kk+(aa r3:Int)) G1 [.int .i64 i4,.string t5,.int .i64 i6,u7] rfl (by rw [lr1];simp only [List.all_cons,List.all_nil,k4,k5,k6,k7,Bool.and_self]) om (by simp only [bB];omega)
 rw [lr1] at iy;simp only [bB,po,Nat.add_zero,Int.natCast_add,<- Int.add_assoc] at iy;refine fB bF ?_;have F:=aj10 @lr @k0 @k1 @k2 @k3 @k4 @k5 @k6 @k7 @k8;refine bR [1004] [1004] (iy) ?_;rintro r pm ⟨G1',rfl,rfl⟩;simp only [aI,bh,aZ,Taf,Tah];refine fR bF ?_;refine ne (f:=fun (x:Nat->Nat->Prop)=>[.set (x 0) (fun w=>aU w (.sl (bd (kk+(aa r3:Int)) r7)) (x 0) u7)]) [1004] [1004] (xF (r:=[.lit (.int .i64 i4),.lit (.string t5),.lit (.int .i64 i6),.sl (bd (kk+(aa r3:Int)) r7)]) rfl) ?_
 rintro Fs1 -
 try dsimp only
 refine fB bF ?_;have F:=aj10 @lr @k0 @k1 @k2 @k3 @k4 @k5 @k6 @k7 @k8;refine bR [1005] [1005] (Zru g8 (kk+(aa r3:Int)+(aa r7:Int)) (Es 2) u8 om om) ?_;rintro r pm ⟨F8,rfl,rfl⟩;simp only [aI,bh,aZ,Taf,Tah];refine dT bF bF ?_;obtain ⟨E6,dp⟩:∃ E6,eS [.set (nj 0) (fun w=>aU w (.sl (bd (kk) r3)) (nj 0) u3),.set (Fs1 0) (fun w=>aU w (.sl (bd (kk+(aa r3:Int)) r7)) (Fs1 0) u7),.set (F8) (fun w=>aU w (.sl (bd (kk+(aa r3:Int)+(aa r7:Int)) r8)) (F8) u8)] [.set E6 (fun w=>aT w [.lit (.int .i64 i0),.lit (.string t1),.lit (.int .i64 i2),.sl (bd (kk) r3),.lit (.int .i64 i4),.lit (.string t5),.lit (.int .i64 i6),.sl (bd (kk+(aa r3:Int)) r7),.sl (bd (kk+(aa r3:Int)+(aa r7:Int)) r8)] E6 [.int .i64 i0,.string t1,.int .i64 i2,u3,.int .i64 i4,.string t5,.int .i64 i6,u7,u8])]:=⟨_,xz (cs:=[.lit (.int .i64 i0),.lit (.string t1),.lit (.int .i64 i2),.sl (bd (kk) r3),.lit (.int .i64 i4),.lit (.string t5),.lit (.int .i64 i6),.sl (bd (kk+(aa r3:Int)) r7),.sl (bd (kk+(aa r3:Int)+(aa r7:Int)) r8)]) (us:=[.int .i64 i0,.string t1,.int .i64 i2,u3,.int .i64 i4,.string t5,.int .i64 i6,u7,u8]) (Es:=fun k=>match k with | 0=>nj 0 | 1=>Fs1 0 | _=>F8) rfl ⟨rfl,rfl,rfl,rfl,rfl,rfl,trivial⟩⟩
 refine pE [1003,1004,1005] [1000] dp ?_;have F:=hk;rw [(om:kk+(aa r3:Int)+(aa r7:Int)+(aa r8:Int)=kk+((aa r3+(aa r7+(aa r8)):Nat):Int))];exact eU (R:=fun r pm=>∃ E',r=[.one (.lit (.int .i64 (kk+((aa r3+(aa r7+(aa r8)):Nat):Int))))]∧pm=[.set E' (fun w=>aT w (po kk [.lit (.int .i64 i0),.lit (.string t1),.lit (.int .i64 i2),.sl r3,.lit (.int .i64 i4),.lit (.string t5),.lit (.int .i64 i6),.sl r7,.sl r8]) E' [.int .i64 i0,.string t1,.int .i64 i2,u3,.int .i64 i4,.string t5,.int .i64 i6,u7,u8])]) [1000] ⟨E6,rfl,by simp only [po,<- Int.add_assoc,Int.natCast_add];rfl⟩
theorem ZlM (t:TN):(Zab t).length<=16:=by cases t <;> decide
mutual
theorem ZGW:∀ (f:F) (c:C),fH f c->jp c<=1+16 * dN c
 | f,.lit v,_=>by simp only [jp];omega
 | .sl t,.sl rows,h=>by
  have:=ZhO (Zab t) rows (ZlM t) (by simpa [fH] using h);simp only [jp,dN];omega
 | .int,.sl _,h=>by simp [fH] at h
 | .str,.sl _,h=>by simp [fH] at h
 | .bool,.sl _,h=>by simp [fH] at h
 | f,.ptr _,_=>by simp [jp]
 | f,.fn _ _,_=>by simp [jp]
theorem ZhO:∀ (fs:List F) (rows:List (List C)),fs.length<=16->aO fs rows->aa rows<=16 * (rows.length+ah rows)
 | fs,[],_,_=>by simp [aa]
 | fs,r::rs,hl,h=>by
  simp only [aO] at h;have h1:=Zq4 fs r h.1;have h2:=ZhO fs rs hl h.2;simp only [aa,ah,Tag];omega
theorem Zq4:∀ (fs:List F) (cs:List C),aV fs cs->tx cs<=fs.length+16 * ab cs
 | [],[],_=>by simp [tx]
 | f::fs,c::cs,h=>by
  simp only [aV] at h;have h1:=ZGW f c h.1;have h2:=Zq4 fs cs h.2;simp only [tx,ab,Tag];omega
 | [],_::_,h=>by simp [aV] at h
 | _::_,[],h=>by simp [aV] at h
end
theorem ZlN:∀ (fs:List F) (cs:List C),aV fs cs->bB cs<=16 * ab cs
 | [],[],_=>by simp [bB]
 | f::fs,c::cs,h=>by
  simp only [aV] at h;have h2:=ZlN fs cs h.2
  cases c with
  | lit v=>simp only [bB,ab];omega
  | sl rows =>
   cases f with
   | sl t =>
    have:=ZhO (Zab t) rows (ZlM t) (by simpa [fH] using h.1);simp only [bB,ab,dN];omega
   | _=>simp [fH] at h
  | ptr _=>simp only [bB,ab];omega
  | fn _ _=>simp only [bB,ab];omega
 | [],_::_,h=>by simp [aV] at h
 | _::_,[],h=>by simp [aV] at h
theorem Zt7 {n:Nat} (h:us.length=n):(aM us).length=n∧(aM us).take n=aM us∧(aM us).drop n=[]:=by
 have hl:(aM us).length=n:=by unfold aM;rw [Tay];exact h
 exact ⟨hl,List.take_of_length_le (Nat.le_of_eq hl),List.drop_of_length_le (Nat.le_of_eq hl)⟩
theorem CD {p:Prop} (h:p:=by
 refine CH fun fe=>?_;refine bp @fe @fe (h x _ hr) @fe ?_;exact CG):p:=h
theorem vL {X Y:Prop} (b:Y) (h:Bx Y->X:=by
 intro B0
 have j9:=tB hr;refine fB (ai @fe @bl) ?_;have F:=ai @fe @bl;exact B0.o j9 F):X:=h ⟨b⟩
theorem m79 {X Y:Prop} (b:Y) (h:Bx Y->X:=by
 intro B0
 by_cases q:L0 < (((r3.length+ah r3):Nat):Int)
 ·rw [iK (b:=(r3.length+ah r3)) q]
  try rw [iK om]
  exact fT (lT (-1) 0)
 rw [gW (b:=(r3.length+ah r3)) om];have q':(L0 - (((r3.length+ah r3):Nat):Int) < 0)=False:=eq_false om;refine fG @q' ?_;obtain ⟨L1,e1⟩:∃ x,x=L0 - (((r3.length+ah r3):Nat):Int):=⟨_,rfl⟩;rw [<- e1];clear q';exact B0.o q L1 e1):X:=h ⟨b⟩
theorem D6 {X Y:Prop} (b:Y) (h:Bx Y->X:=by
 intro B0
 have F:=aj5 @bs @wi @ec @lr ((@Tbv.{0,0}));refine gG ?_;exact B0.o F):X:=h ⟨b⟩
theorem D5 {p:Prop} (h:p:=by
 simpa [aM,Tar,and_assoc] using e9):p:=h
theorem mN {X Y:Prop} (b:Y) (h:Bx Y->X:=by
 intro B0
 refine Zcn (by kernel_rfl) fun hm=>?_;exact B0.o hm):X:=h ⟨b⟩
theorem CH {X Y:Prop} (b:Y) (h:Bx Y->X:=by
 intro B0
 have fe:=aj10 hr au bD db (lT x rows.length) hq.cells ln tk dr (@uu C);exact B0.o fe):X:=h ⟨b⟩
theorem CG {p:Prop} (h:p:=by
 have F:=(bI (k:=x) om);refine gG ?_;exact ⟨x+1,au,gw,gw,om⟩):p:=h
theorem yM {X Y:Prop} (b:Y) (h:Bx Y->X:=by
 intro B0
 obtain ⟨r,hr⟩:∃ r,rows[i]?=some r:=⟨_,Taa au⟩;have hq:=aj.get hr;exact B0.o r hr hq):X:=h ⟨b⟩
theorem CF {p:Prop} (h:p:=by
 rw [Tbq (by simp;omega),Tbr,if_pos (by simp;omega)]):p:=h
theorem vR {p:Prop} (h:p:=by
 ·obtain rfl:x=rows.length:=by omega
  exact fT (lF rows.length rows.length)):p:=h
theorem vP {X Y:Prop} (b:Y) (h:Bx Y->X:=by
 intro B0
 have w:IntKind.i64.wrap (left - (rows.length:Int))=left - (rows.length:Int):=IntWalk.i64_in _ om;exact B0.o w):X:=h ⟨b⟩
theorem pW {X Y:Prop} (b:Y) (h:Bx Y->X:=by
 intro B0
 obtain ⟨r,hr⟩:∃ r,rows[x]?=some r:=⟨_,Taa au⟩;have hq:=aj.get hr;exact B0.o r hr hq):X:=h ⟨b⟩
theorem m16 {p:Prop} (h:p:=by
 have wi:=bI (k:=x) om;have nL:=ZdT hr;have oZ:=ZcT rows (x+1);skip;have fe:=aj10 hr au bD db (lT x rows.length) hq.cells ln tk dr (@uu C);obtain ⟨l,ct⟩:∃ l,l=left - (rows.length:Int) - (ah (rows.take x):Int):=⟨_,rfl⟩;rw [<- ct];refine bp @fe @fe (h x _ hr (left:=l) om om) @fe ?_;by_cases q:l < ((ab r:Nat):Int)
 ·rw [iK (b:=ab r) q,iK om];exact fT (lT (-1) 0)
 rw [gW (b:=ab r) om];have F:=aj3 (eq_false om:(l - ((ab r:Nat):Int) < 0)=False) @wi (om:left - (rows.length:Int) - (ah (rows.take (x+1)):Int)=l - ((ab r:Nat):Int));refine gG ?_;exact ⟨x+1,⟨au,om⟩,gw,gw,om⟩):p:=h
theorem yE {X Y:Prop} (b:Y) (h:Bx Y->X:=by
 intro B0
 have wi:=bI (k:=i) om;have fe:=aj10 hr au bD db (lT i rows.length) hq.cells ln tk dr (@uu C);obtain ⟨k,hk⟩:∃ k,rows.length - i=k+1:=⟨rows.length - i - 1,om⟩;have ec:rows.length - (i+1)=k:=om;rw [hk];exact B0.o wi fe k hk ec):X:=h ⟨b⟩
theorem yD {X Y:Prop} (b:Y) (h:Bx Y->X:=by
 intro B0
 refine fG @d8 ?_;have F:=@aw;refine gL (ι:=Nat) [4,5,14,26] [] (fun x=>[(5,.d (.one (.lit (.int .i64 (x:Int)))))]) (fun x=>[]) (fun x=>x<=rows.length) (fun x=>rows.length - x) (0) (Taj _) (fun x hx=>?_);exact B0.o F x hx):X:=h ⟨b⟩
theorem vI {X Y:Prop} (b:Y) (h:Bx Y->X:=by
 intro B0
 refine fG (ai (eq_true (by unfold ak;omega):((rows.length:Int)<=(ak:Int))=True) @Tbx) ?_;refine pE [] [1000] Zb8 ?_;have F:=aj3 @nla @Nat.sub_zero @tk0;exact B0.o F):X:=h ⟨b⟩
theorem yz {p:Prop} (h:p:=by
 ·obtain rfl:x=rows.length:=by omega
  have q1:=lF rows.length rows.length;rw [Tap] at hl ⊢;rw [gW om,show left - ((rows.length+ah rows:Nat):Int)=left - (rows.length:Int) - (ah rows:Int) by omega];exact fT @q1):p:=h
theorem m6 {p:Prop} (h:p:=by
 ·obtain rfl:i=rows.length:=by omega
  rw [Nat.sub_self,List.replicate_zero,List.append_nil,Tap];refine fG (lF rows.length rows.length) ?_;refine pS 2 fun a cap=>?_;refine pE [2,1000] [1000] (ZbG (fun w h=>h) (aU.stable _ _ _)) ?_;exact (have F:=aw;eU (R:=kQ rows) [1000] ⟨.slice a uss.length cap,_,rfl,rfl,rfl⟩)):p:=h
theorem m2 {X Y:Prop} (b:Y) (h:Bx Y->X:=by
 intro B0
 by_cases q:left < (rows.length:Int)
 ·rw [iK om];exact fT (ai @w (eq_true om:(left - (rows.length:Int) < 0)=True))
 refine fG (ai @w (eq_false om:(left - (rows.length:Int) < 0)=False)) ?_;have F:=aj4 @tk0 @Zew @Int.natCast_zero @Int.sub_zero;refine gL (ι:=Nat) [1,4,5,15,25] [] (fun x=>[(5,.d (.one (.lit (.int .i64 (x:Int))))),(1,.d (.one (.lit (.int .i64 (left - (rows.length:Int) - (ah (rows.take x):Int))))))]) (fun x=>[]) (fun x=>x<=rows.length∧0<=left - (rows.length:Int) - (ah (rows.take x):Int)) (fun x=>rows.length - x) (0) (⟨Taj _,by simp [ah];omega⟩) (fun x hx=>?_);exact B0.o q F x hx):X:=h ⟨b⟩
theorem ZkD (aj:aV (Zab .term) row) (pc:∀ (rows:List (List C)),fY rows < d6 row->aO (Zab .term) rows->∀ {left:Int},0<=left->left<=1048576->az e0 55 [.one (.sl rows),.one (.lit (.int .i64 left))] [.one (.lit (.int .i64 (sub left (rows.length+ah rows))))]) (h0:0<=left) (h1:left<=1048576):az e0 20 [.agg row,.one (.lit (.int .i64 left))] [.one (.lit (.int .i64 (sub left (ab row))))]:=by
 obtain ⟨i0,t1,i2,r3,rfl,g0,g1,g2,g3⟩:=xv aj;rw [show ab [.lit (.int .i64 i0),.lit (.string t1),.lit (.int .i64 i2),.sl r3]=t1.size+(r3.length+ah r3) by simp only [ab,dN];omega];refine gI 133143 Tryz.func20 ?_;have hs:=g1;unfold maxLen at hs;have w:IntKind.i64.wrap (left - (t1.size:Int))=left - (t1.size:Int):=IntWalk.i64_in _ om;clear hs;by_cases q:left < (t1.size:Int)
 ·rw [iK om];exact fT (ai @w (eq_true om:(left - (t1.size:Int) < 0)=True))
 have q':(left - (t1.size:Int) < 0)=False:=eq_false om;refine fG (ai @w @q') ?_;obtain ⟨L0,e0⟩:∃ x,x=left - (t1.size:Int):=⟨_,rfl⟩;rw [<- e0];clear w q';refine bp @aw @aw (pc r3 (by simp only [d6,mo];omega) g3 (left:=L0) om om) @aw ?_;refine m79 fun q L1 e1=>?_
 try rw [gW om,show left - ((t1.size+(r3.length+ah r3):Nat):Int)=L1 by omega]
 exact fT @aw
theorem ZkE (aj:aV (Zab .term) row) (pc:∀ (rows:List (List C)),fY rows < d6 row->aO (Zab .term) rows->az e0 12 [.one (.sl rows),.one (.sl rows)] [.one (.lit (.bool true))]):az e0 27 [.agg row,.agg row] [.one (.lit (.bool true))]:=by
 obtain ⟨i0,t1,i2,r3,rfl,g0,g1,g2,g3⟩:=xv aj;refine gI 34095647 Tryz.func27 ?_;refine bU @d8 @aw (pc r3 (by simp only [d6,mo];omega) g3) ?_;exact bP @aw @d8
theorem ZjD (aj:aV (Zab .term) row) (pc:∀ (rows:List (List C)),fY rows < d6 row->aO (Zab .term) rows->rows.length+ah rows<=1048576->aR e0 63 [.one (.sl rows)] [] (kQ rows)) (hb:ab row<=1048576):aR e0 23 [.agg row] [] (eL row):=by
 obtain ⟨i0,t1,i2,r3,rfl,g0,g1,g2,g3⟩:=xv aj;simp only [ab,dN] at hb;refine dK (ts:=[.cell 2 53]) [] 15 Tryz.func23 ?_;refine fB @aw ?_;have F:=@aw;refine bR [] [1000] (pc r3 (by simp only [d6,mo];omega) g3 om) ?_;rintro r pm ⟨u3,E3,rfl,k3,rfl⟩;refine m7 ?_;refine dT @k3 @k3 ?_;obtain ⟨E,dp⟩:∃ E,eS [.set E3 (fun w=>aU w (.sl r3) E3 u3)] [.set E (fun w=>aT w [.lit (.int .i64 i0),.lit (.string t1),.lit (.int .i64 i2),.sl r3] E [.int .i64 i0,.string t1,.int .i64 i2,u3])]:=⟨_,uy [.lits [.int .i64 i0,.string t1,.int .i64 i2],.sl E3 r3 u3]⟩
 refine pE [1000] [1000] dp ?_;exact (have F:=aw;eU (R:=eL [.lit (.int .i64 i0),.lit (.string t1),.lit (.int .i64 i2),.sl r3]) [1000] (eL.mk (row:=[.lit (.int .i64 i0),.lit (.string t1),.lit (.int .i64 i2),.sl r3]) (us:=[.int .i64 i0,.string t1,.int .i64 i2,u3]) (E:=E) rfl (by simp only [aM,Tbu,List.map_nil,List.all_cons,List.all_nil,Bool.and_true,Tar];exact ⟨rfl,rfl,rfl,k3⟩)))
theorem ZpR (aj:aO (Zab .term) rows) (h:∀ (i:Nat) r,rows[i]?=some r->∀ {left:Int},0<=left->left<=1048576->az e0 20 [.agg r,.one (.lit (.int .i64 left))] [.one (.lit (.int .i64 (sub left (ab r))))]) (h0:0<=left) (h1:left<=1048576):az e0 55 [.one (.sl rows),.one (.lit (.int .i64 left))] [.one (.lit (.int .i64 (sub left (rows.length+ah rows))))]:=by
 refine mN fun hm=>?_;unfold maxLen at hm;refine vP fun w=>?_;have db:ZaB 4 rows=true:=ki.2 aj.rowsLen;refine gI 33589299 Tryz.func55 ?_;refine m2 fun q F x hx=>?_
 obtain ⟨hx,hl⟩:=hx;by_cases au:x < rows.length
 ·refine pW fun r hr hq=>?_;obtain ⟨ln,tk,dr⟩:=hq.take (n:=4) rfl;exact m16
 exact yz
theorem ZpS (aj:aO (Zab .term) rows) (h:∀ (i:Nat) r,rows[i]?=some r->az e0 27 [.agg r,.agg r] [.one (.lit (.bool true))]):az e0 12 [.one (.sl rows),.one (.sl rows)] [.one (.lit (.bool true))]:=by
 refine mN fun hm=>?_;unfold maxLen at hm;have db:ZaB 4 rows=true:=ki.2 aj.rowsLen;refine gI 67126323 Tryz.func12 ?_;refine yD fun F x hx=>?_;by_cases au:x < rows.length
 ·refine pW fun r hr hq=>?_;obtain ⟨ln,tk,dr⟩:=hq.take (n:=4) rfl;exact CD
 exact vR
theorem Zo5 (aj:aO (Zab .term) rows) (h:∀ (i:Nat) r,rows[i]?=some r->ab r<=1048576->aR e0 23 [.agg r] [] (eL r)) (hb:rows.length+ah rows<=1048576):aR e0 63 [.one (.sl rows)] [] (kQ rows):=by
 have db:ZaB 4 rows=true:=ki.2 aj.rowsLen;refine dK (ts:=[.slot 2]) [] 2077 Tryz.func63 ?_;refine vI fun F=>?_;refine gL (ι:=Nat × List (List Value) × (Nat->Prop)) [3,4,11] [3,1000] (fun x=>[(4,.d (.one (.lit (.int .i64 (x.1:Int))))),(3,.buf 3)]) (fun x=>[(3,.buf none 53 4 (x.2.1.map aM++List.replicate (rows.length - x.1) [C.lit (.int .i64 0),C.lit (.string .empty),C.lit (.int .i64 0),C.sl []])),(1000,.set x.2.2 (fun w=>br w (rows.take x.1) x.2.2 x.2.1))]) (fun x=>x.1<=rows.length∧x.2.1.length=x.1) (fun x=>rows.length - x.1) ((0,[],fun _=>False)) (⟨Taj _,rfl⟩) (fun x hx=>?_)
 obtain ⟨i,uss,E⟩:=x;obtain ⟨hi,hn⟩:=hx;simp only at hi hn;dsimp only;by_cases au:i < rows.length
 ·refine yM fun r hr hq=>?_;obtain ⟨ln,tk,dr⟩:=hq.take (n:=4) rfl;refine yE fun wi fe k hk ec=>?_;have bl:(uss.map aM++List.replicate (k+1) [C.lit (.int .i64 0),C.lit (.string .empty),C.lit (.int .i64 0),C.sl []]).length=rows.length:=by simp;omega
  have bs:∀ X,(uss.map aM++List.replicate (k+1) [C.lit (.int .i64 0),C.lit (.string .empty),C.lit (.int .i64 0),C.sl []]).set i X=(uss.map aM++[X])++List.replicate k [C.lit (.int .i64 0),C.lit (.string .empty),C.lit (.int .i64 0),C.sl []]:=fun X=>xD _ _ _ _ _ (by simp [hn]);have bg:(uss.map aM++List.replicate (k+1) [C.lit (.int .i64 0),C.lit (.string .empty),C.lit (.int .i64 0),C.sl []])[i]?=some [C.lit (.int .i64 0),C.lit (.string .empty),C.lit (.int .i64 0),C.sl []]:=by exact CF
  refine vL fun j9 F=>?_;refine bR [] [1001] (h i _ hr om) ?_;rintro r' pm ⟨us,E2,rfl,hu,e9,rfl⟩;rw [ln] at hu;obtain ⟨u0,u1,u2,u3,rfl⟩:=len4 hu;have e9:aY (.lit u0)=true∧aY (.lit u1)=true∧aY (.lit u2)=true∧aY (.lit u3)=true:=by exact D5
  obtain ⟨k0,k1,k2,k3⟩:=e9;have lr:aM [u0,u1,u2,u3]=[.lit u0,.lit u1,.lit u2,.lit u3]:=rfl;rw [lr];refine m7 ?_;refine fR (aj8 @au @bl @bs @bg @k0 @k1 @k2 @k3) ?_;refine pE [1000,1001] [1000] (xB (G':=fun w=>br w (rows.take (i+1)) (fun b=>E b∨E2 b) (uss++[[u0,u1,u2,u3]])) (fun w h1 h2 hd=>?_) (br.stable _ _ _)) ?_
  ·rw [zZ hr];exact zV
  refine D6 fun F=>?_;exact m204
 exact m6
theorem Zo6 (n:Nat):(∀ rows,fY rows < n->aO (Zab .term) rows->∀ {left:Int},0<=left->left<=1048576->az e0 55 [.one (.sl rows),.one (.lit (.int .i64 left))] [.one (.lit (.int .i64 (sub left (rows.length+ah rows))))]):=by
 induction n with
 | zero=>exact fun rows h=>absurd h om
 | succ n ih =>
  exact fun rows hn aj {left} h0 h1=>ZpR aj (fun i r hr left h0 h1=>ZkD (aj.get hr) (fun eu h2 oH=>ih eu (by have:=n7 hr;omega) oH) h0 h1) h0 h1
theorem ZmU (aj:aO (Zab .term) rows) (h0:0<=left) (h1:left<=1048576):az e0 55 [.one (.sl rows),.one (.lit (.int .i64 left))] [.one (.lit (.int .i64 (sub left (rows.length+ah rows))))]:=(Zo6 _) rows (Tan _) aj h0 h1
theorem Zeq (aj:aV (Zab .term) row) (h0:0<=left) (h1:left<=1048576):az e0 20 [.agg row,.one (.lit (.int .i64 left))] [.one (.lit (.int .i64 (sub left (ab row))))]:=ZkD aj (fun rows _ ok=>(Zo6 _) rows (Tan _) ok) h0 h1
theorem Zo7 (n:Nat):(∀ rows,fY rows < n->aO (Zab .term) rows->az e0 12 [.one (.sl rows),.one (.sl rows)] [.one (.lit (.bool true))]):=by
 induction n with
 | zero=>exact fun rows h=>absurd h om
 | succ n ih =>
  exact fun rows hn aj=>ZpS aj (fun i r hr=>ZkE (aj.get hr) (fun eu h2 oH=>ih eu (by have:=n7 hr;omega) oH))
theorem Zjh (aj:aO (Zab .term) rows):az e0 12 [.one (.sl rows),.one (.sl rows)] [.one (.lit (.bool true))]:=(Zo7 _) rows (Tan _) aj
theorem Zer (aj:aV (Zab .term) row):az e0 27 [.agg row,.agg row] [.one (.lit (.bool true))]:=ZkE aj (fun rows _ ok=>(Zo7 _) rows (Tan _) ok)
theorem Zo8 (n:Nat):(∀ rows,fY rows < n->aO (Zab .term) rows->rows.length+ah rows<=1048576->aR e0 63 [.one (.sl rows)] [] (kQ rows)):=by
 induction n with
 | zero=>exact fun rows h=>absurd h om
 | succ n ih =>
  exact fun rows hn aj hb=>Zo5 aj (fun i r hr hb=>ZjD (aj.get hr) (fun eu h2 oH=>ih eu (by have:=n7 hr;omega) oH) hb) hb
theorem ZlO (aj:aO (Zab .term) rows) (hb:rows.length+ah rows<=1048576):aR e0 63 [.one (.sl rows)] [] (kQ rows):=(Zo8 _) rows (Tan _) aj hb
theorem ZdY (aj:aV (Zab .term) row) (hb:ab row<=1048576):aR e0 23 [.agg row] [] (eL row):=ZjD aj (fun rows _ ok=>(Zo8 _) rows (Tan _) ok) hb
theorem m210 {X Y:Prop} (b:Y) (h:Bx Y->X:=by
 intro B0
 have wi:=bI (k:=i) om;have fe:=aj5 hr au bD db (lT i rows.length);obtain ⟨k,hk⟩:∃ k,rows.length - i=k+1:=⟨rows.length - i - 1,om⟩;have ec:rows.length - (i+1)=k:=om;rw [hk];exact B0.o wi fe k hk ec):X:=h ⟨b⟩
theorem m160 {p:Prop} (h:p:=by
 have F:=aj3 @d8 (bI (k:=x) om) (aj5 hr au bD db (lT x rows.length));refine gG ?_;exact ⟨x+1,au,gw,gw,om⟩):p:=h
theorem m149 {X Y:Prop} (b:Y) (h:Bx Y->X:=by
 intro B0
 refine fG @d8 ?_;have F:=@aw;refine gL (ι:=Nat) [4,5,14,25] [] (fun x=>[(5,.d (.one (.lit (.int .i64 (x:Int)))))]) (fun x=>[]) (fun x=>x<=rows.length) (fun x=>rows.length - x) (0) (Taj _) (fun x hx=>?_);exact B0.o F x hx):X:=h ⟨b⟩
theorem m108 {p:Prop} (h:p:=by
 by_cases q:left < (rows.length:Int)
 ·rw [iK om];exact fT (ai @w (eq_true om:(left - (rows.length:Int) < 0)=True))
 rw [gW om];exact fT (ai @w (eq_false om:(left - (rows.length:Int) < 0)=False))):p:=h
theorem Zo9 (aj:aO (Zab .int) rows) (h0:0<=left) (h1:left<=1048576):az e0 250 [.one (.sl rows),.one (.lit (.int .i64 left))] [.one (.lit (.int .i64 (sub left (rows.length+ah rows))))]:=by
 refine mN fun hm=>?_;unfold maxLen at hm;refine vP fun w=>?_;rw [ZyI (fs:=Zab .int) (by rfl) aj,Nat.add_zero];refine gI 1043 Tryz.func250 ?_;exact m108
theorem Zpa (aj:aO (Zab .int) rows):az e0 268 [.one (.sl rows),.one (.sl rows)] [.one (.lit (.bool true))]:=by
 refine mN fun hm=>?_;unfold maxLen at hm;have db:ZaB 1 rows=true:=ki.2 aj.rowsLen;refine gI 33571891 Tryz.func268 ?_;refine m149 fun F x hx=>?_;by_cases au:x < rows.length
 ·refine yG fun r hr=>?_;obtain ⟨x0,rfl,g0⟩:=ZiI (aj.get hr);exact m160
 exact vR
theorem ZmV (aj:aO (Zab .int) rows) (hb:rows.length+ah rows<=1048576):aR e0 261 [.one (.sl rows)] [] (kQ rows):=by
 have db:ZaB 1 rows=true:=ki.2 aj.rowsLen;refine dK (ts:=[.slot 2]) [] 2077 Tryz.func261 ?_;refine vI fun F=>?_;refine gL (ι:=Nat × List (List Value) × (Nat->Prop)) [3,4,11] [3,1000] (fun x=>[(4,.d (.one (.lit (.int .i64 (x.1:Int))))),(3,.buf 3)]) (fun x=>[(3,.buf none 3 1 (x.2.1.map aM++List.replicate (rows.length - x.1) [C.lit (.int .i64 0)])),(1000,.set x.2.2 (fun w=>br w (rows.take x.1) x.2.2 x.2.1))]) (fun x=>x.1<=rows.length∧x.2.1.length=x.1) (fun x=>rows.length - x.1) ((0,[],fun _=>False)) (⟨Taj _,rfl⟩) (fun x hx=>?_)
 obtain ⟨i,uss,E⟩:=x;obtain ⟨hi,hn⟩:=hx;simp only at hi hn;dsimp only;by_cases au:i < rows.length
 ·obtain ⟨r,hr⟩:∃ r,rows[i]?=some r:=⟨_,Taa au⟩;obtain ⟨x0,rfl,g0⟩:=ZiI (aj.get hr);refine m210 fun wi fe k hk ec=>?_;have bl:(uss.map aM++List.replicate (k+1) [C.lit (.int .i64 0)]).length=rows.length:=by simp;omega
  have bs:∀ X,(uss.map aM++List.replicate (k+1) [C.lit (.int .i64 0)]).set i X=(uss.map aM++[X])++List.replicate k [C.lit (.int .i64 0)]:=fun X=>xD _ _ _ _ _ (by simp [hn]);have bg:(uss.map aM++List.replicate (k+1) [C.lit (.int .i64 0)])[i]?=some [C.lit (.int .i64 0)]:=by exact CF
  refine pE [1000] [1000] (ZB2 (G':=fun w=>br w (rows.take (i+1)) E (uss++[[.int .i64 x0]])) (fun w h=>?_) (br.stable _ _ _)) ?_
  ·rw [zZ hr];exact br.snoc (S2:=fun _=>False) h (aT.lits (us:=[.int .i64 x0])) (fun _ h=>h) (fun _ h=>h.elim) (fun _ _ h=>h)
  have F:=aj8 @fe @bl @bs @bg @wi @ec @ZFZ ((@Tbv.{0,0}));refine gG ?_;exact ⟨(i+1,uss++[[.int .i64 x0]],E),⟨au,by simp [hn]⟩,gw,gw,om⟩
 exact m6
theorem m279 {p:Prop} (h:p:=by
 refine m81 fun F=>?_;rintro r pm ⟨us,E0,rfl,hu,hc,rfl⟩;obtain ⟨u0,u1,u2,u3,rfl⟩:=len4 hu;have hc:aY (.lit u0)=true∧aY (.lit u1)=true∧aY (.lit u2)=true∧aY (.lit u3)=true:=by exact tg
 obtain ⟨k0,k1,k2,k3⟩:=hc;have pa:aM [u0,u1,u2,u3]=[.lit u0,.lit u1,.lit u2,.lit u3]:=rfl;rw [pa];refine m7 ?_;refine m66 fun F=>?_;rintro r pm ⟨us,E4,rfl,hu,hc,rfl⟩;obtain ⟨u4,u5,u6,u7,rfl⟩:=len4 hu;have hc:aY (.lit u4)=true∧aY (.lit u5)=true∧aY (.lit u6)=true∧aY (.lit u7)=true:=by exact tg
 obtain ⟨k4,k5,k6,k7⟩:=hc;have lr4:aM [u4,u5,u6,u7]=[.lit u4,.lit u5,.lit u6,.lit u7]:=rfl;rw [lr4];refine m7 ?_;exact m17):p:=h
theorem m135 {p:Prop} (h:p:=by
 refine bp @d8 @aw (Zer (uq g0 g1 g2 g3)) @aw ?_;refine bU @d8 @aw (Zer (uq g4 g5 g6 g7)) ?_;exact bP @aw @d8):p:=h
theorem m100 {p:Prop} (h:p:=by
 try rw [gW om,show left - ((ab [.lit (.int .i64 i0),.lit (.string t1),.lit (.int .i64 i2),.sl r3]+ab [.lit (.int .i64 i4),.lit (.string t5),.lit (.int .i64 i6),.sl r7]:Nat):Int)=L1 by omega]
 exact fT @aw):p:=h
theorem m81 {X Y:Prop} (b:Y) (h:Bx Y->X:=by
 intro B0
 refine fB @aw ?_;have F:=@aw;refine bR [] [1000] (ZdY (uq g0 g1 g2 g3) (by simp only [ab,dN];omega)) ?_;exact B0.o F):X:=h ⟨b⟩
theorem m80 {X Y:Prop} (b:Y) (h:Bx Y->X:=by
 intro B0
 rw [show ab [.lit (.int .i64 i0),.lit (.string t1),.lit (.int .i64 i2),.sl r3,.lit (.int .i64 i4),.lit (.string t5),.lit (.int .i64 i6),.sl r7]=ab [.lit (.int .i64 i0),.lit (.string t1),.lit (.int .i64 i2),.sl r3]+ab [.lit (.int .i64 i4),.lit (.string t5),.lit (.int .i64 i6),.sl r7] by simp only [ab,dN];omega];exact B0.o):X:=h ⟨b⟩
theorem m66 {X Y:Prop} (b:Y) (h:Bx Y->X:=by
 intro B0
 refine iY (aj4 @k0 @k1 @k2 @k3) @aw ?_;have F:=@aw;refine bR [] [1001] (ZdY (uq g4 g5 g6 g7) (by simp only [ab,dN];omega)) ?_;exact B0.o F):X:=h ⟨b⟩
theorem m17 {p:Prop} (h:p:=by
 refine dT (aj4 @k4 @k5 @k6 @k7) (aj8 @k0 @k1 @k2 @k3 @k4 @k5 @k6 @k7) ?_;obtain ⟨E,dp⟩:∃ E,eS [.set E0 (fun w=>aT w [.lit (.int .i64 i0),.lit (.string t1),.lit (.int .i64 i2),.sl r3] E0 [u0,u1,u2,u3]),.set E4 (fun w=>aT w [.lit (.int .i64 i4),.lit (.string t5),.lit (.int .i64 i6),.sl r7] E4 [u4,u5,u6,u7])] [.set E (fun w=>aT w [.lit (.int .i64 i0),.lit (.string t1),.lit (.int .i64 i2),.sl r3,.lit (.int .i64 i4),.lit (.string t5),.lit (.int .i64 i6),.sl r7] E [u0,u1,u2,u3,u4,u5,u6,u7])]:=⟨_,uy [.st E0 [.lit (.int .i64 i0),.lit (.string t1),.lit (.int .i64 i2),.sl r3] [u0,u1,u2,u3],.st E4 [.lit (.int .i64 i4),.lit (.string t5),.lit (.int .i64 i6),.sl r7] [u4,u5,u6,u7]]⟩;refine pE [1000,1001] [1000] dp ?_;exact (have F:=aw;eU (R:=eL [.lit (.int .i64 i0),.lit (.string t1),.lit (.int .i64 i2),.sl r3,.lit (.int .i64 i4),.lit (.string t5),.lit (.int .i64 i6),.sl r7]) [1000] (eL.mk (row:=[.lit (.int .i64 i0),.lit (.string t1),.lit (.int .i64 i2),.sl r3,.lit (.int .i64 i4),.lit (.string t5),.lit (.int .i64 i6),.sl r7]) (us:=[u0,u1,u2,u3,u4,u5,u6,u7]) (E:=E) rfl (by simp only [aM,Tbu,List.map_nil,List.all_cons,List.all_nil,Bool.and_true,Tar];exact ⟨k0,k1,k2,k3,k4,k5,k6,k7⟩)))):p:=h
theorem m1 {X Y:Prop} (b:Y) (h:Bx Y->X:=by
 intro B0
 refine bp @aw @aw (Zeq (uq g0 g1 g2 g3) (left:=left) om om) @aw ?_;by_cases q:left < ((ab [.lit (.int .i64 i0),.lit (.string t1),.lit (.int .i64 i2),.sl r3]:Nat):Int)
 ·rw [iK (b:=ab [.lit (.int .i64 i0),.lit (.string t1),.lit (.int .i64 i2),.sl r3]) q]
  try rw [iK om]
  exact fT (lT (-1) 0)
 rw [gW (b:=ab [.lit (.int .i64 i0),.lit (.string t1),.lit (.int .i64 i2),.sl r3]) om];have q':(left - ((ab [.lit (.int .i64 i0),.lit (.string t1),.lit (.int .i64 i2),.sl r3]:Nat):Int) < 0)=False:=eq_false om;refine fG @q' ?_;obtain ⟨L0,e0⟩:∃ x,x=left - ((ab [.lit (.int .i64 i0),.lit (.string t1),.lit (.int .i64 i2),.sl r3]:Nat):Int):=⟨_,rfl⟩;rw [<- e0];clear q';refine bp @aw @aw (Zeq (uq g4 g5 g6 g7) (left:=L0) om om) @aw ?_;by_cases q:L0 < ((ab [.lit (.int .i64 i4),.lit (.string t5),.lit (.int .i64 i6),.sl r7]:Nat):Int)
 ·rw [iK (b:=ab [.lit (.int .i64 i4),.lit (.string t5),.lit (.int .i64 i6),.sl r7]) q]
  try rw [iK om]
  exact fT (lT (-1) 0)
 rw [gW (b:=ab [.lit (.int .i64 i4),.lit (.string t5),.lit (.int .i64 i6),.sl r7]) om];have q':(L0 - ((ab [.lit (.int .i64 i4),.lit (.string t5),.lit (.int .i64 i6),.sl r7]:Nat):Int) < 0)=False:=eq_false om;refine fG @q' ?_;obtain ⟨L1,e1⟩:∃ x,x=L0 - ((ab [.lit (.int .i64 i4),.lit (.string t5),.lit (.int .i64 i6),.sl r7]:Nat):Int):=⟨_,rfl⟩;rw [<- e1];clear q';exact B0.o L0 e0 q L1 e1):X:=h ⟨b⟩
theorem Zpb (aj:aV (Zab .cond) row) (h0:0<=left) (h1:left<=1048576):az e0 249 [.agg row,.one (.lit (.int .i64 left))] [.one (.lit (.int .i64 (sub left (ab row))))]:=by
 obtain ⟨i0,t1,i2,r3,i4,t5,i6,r7,rfl,g0,g1,g2,g3,g4,g5,g6,g7⟩:=Zen aj;refine m80 ?_
 refine gI 66583 Tryz.func249 ?_;refine m1 fun L0 e0 q L1 e1=>?_
 exact m100
theorem Zpc (aj:aV (Zab .cond) row):az e0 267 [.agg row,.agg row] [.one (.lit (.bool true))]:=by
 obtain ⟨i0,t1,i2,r3,i4,t5,i6,r7,rfl,g0,g1,g2,g3,g4,g5,g6,g7⟩:=Zen aj;refine gI 66591 Tryz.func267 ?_;exact m135
theorem ZnA (aj:aV (Zab .cond) row) (hb:ab row<=1048576):aR e0 260 [.agg row] [] (eL row):=by
 obtain ⟨i0,t1,i2,r3,i4,t5,i6,r7,rfl,g0,g1,g2,g3,g4,g5,g6,g7⟩:=Zen aj;simp only [ab,dN] at hb;refine dK (ts:=[.cell 2 169]) [] 15 Tryz.func260 ?_;exact m279
theorem m276 {p:Prop} (h:p:=by
 rintro r' pm ⟨us,E2,rfl,hu,e9,rfl⟩;rw [ln] at hu;obtain ⟨u0,u1,u2,u3,u4,u5,u6,u7,rfl⟩:=len8 hu;have e9:aY (.lit u0)=true∧aY (.lit u1)=true∧aY (.lit u2)=true∧aY (.lit u3)=true∧aY (.lit u4)=true∧aY (.lit u5)=true∧aY (.lit u6)=true∧aY (.lit u7)=true:=by exact D5
 obtain ⟨k0,k1,k2,k3,k4,k5,k6,k7⟩:=e9;have lr:aM [u0,u1,u2,u3,u4,u5,u6,u7]=[.lit u0,.lit u1,.lit u2,.lit u3,.lit u4,.lit u5,.lit u6,.lit u7]:=rfl;rw [lr];refine m7 ?_;refine fR (aj12 @au @bl @bs @bg @k0 @k1 @k2 @k3 @k4 @k5 @k6 @k7) ?_;refine pE [1000,1001] [1000] (xB (G':=fun w=>br w (rows.take (i+1)) (fun b=>E b∨E2 b) (uss++[[u0,u1,u2,u3,u4,u5,u6,u7]])) (fun w h1 h2 hd=>?_) (br.stable _ _ _)) ?_
 ·rw [zZ hr];exact zV
 refine D6 fun F=>?_;exact m181):p:=h
theorem ta {X Y:Prop} (b:Y) (h:Bx Y->X:=by
 intro B0
 have db:ZaB 8 rows=true:=ki.2 aj.rowsLen;exact B0.o db):X:=h ⟨b⟩
theorem m181 {p:Prop} (h:p:=by
 exact ⟨(i+1,uss++[[u0,u1,u2,u3,u4,u5,u6,u7]],fun b=>E b∨E2 b),⟨au,by simp [hn]⟩,gw,gw,om⟩):p:=h
theorem s9 {X Y:Prop} (b:Y) (h:Bx Y->X:=by
 intro B0
 have wi:=bI (k:=x) om;have nL:=ZdT hr;have oZ:=ZcT rows (x+1);exact B0.o wi nL oZ):X:=h ⟨b⟩
theorem vH {p:Prop} (h:p:=by
 rw [iK (b:=ab r) q,iK om];exact fT (lT (-1) 0)):p:=h
theorem m24 {X Y:Prop} (b:Y) (h:Bx Y->X:=by
 intro B0
 have bl:(uss.map aM++List.replicate (k+1) [C.lit (.int .i64 0),C.lit (.string .empty),C.lit (.int .i64 0),C.sl [],C.lit (.int .i64 0),C.lit (.string .empty),C.lit (.int .i64 0),C.sl []]).length=rows.length:=by simp;omega
 have bs:∀ X,(uss.map aM++List.replicate (k+1) [C.lit (.int .i64 0),C.lit (.string .empty),C.lit (.int .i64 0),C.sl [],C.lit (.int .i64 0),C.lit (.string .empty),C.lit (.int .i64 0),C.sl []]).set i X=(uss.map aM++[X])++List.replicate k [C.lit (.int .i64 0),C.lit (.string .empty),C.lit (.int .i64 0),C.sl [],C.lit (.int .i64 0),C.lit (.string .empty),C.lit (.int .i64 0),C.sl []]:=fun X=>xD _ _ _ _ _ (by simp [hn]);have bg:(uss.map aM++List.replicate (k+1) [C.lit (.int .i64 0),C.lit (.string .empty),C.lit (.int .i64 0),C.sl [],C.lit (.int .i64 0),C.lit (.string .empty),C.lit (.int .i64 0),C.sl []])[i]?=some [C.lit (.int .i64 0),C.lit (.string .empty),C.lit (.int .i64 0),C.sl [],C.lit (.int .i64 0),C.lit (.string .empty),C.lit (.int .i64 0),C.sl []]:=by rw [Tbq (by simp;omega),Tbr,if_pos (by simp;omega)]
 have j9:=tB hr;refine fB (ai @fe @bl) ?_;have F:=ai @fe @bl;exact B0.o bl bs bg j9 F):X:=h ⟨b⟩
theorem ZnB (aj:aO (Zab .cond) rows) (h0:0<=left) (h1:left<=1048576):az e0 163 [.one (.sl rows),.one (.lit (.int .i64 left))] [.one (.lit (.int .i64 (sub left (rows.length+ah rows))))]:=by
 refine mN fun hm=>?_;unfold maxLen at hm;refine vP fun w=>?_;refine ta fun db=>?_;refine gI 33589299 Tryz.func163 ?_;refine m2 fun q F x hx=>?_
 obtain ⟨hx,hl⟩:=hx;by_cases au:x < rows.length
 ·refine pW fun r hr hq=>?_;obtain ⟨ln,tk,dr⟩:=hq.take (n:=8) rfl;refine s9 fun wi nL oZ=>?_
  skip
  have fe:=aj10 hr au bD db (lT x rows.length) hq.cells ln tk dr (@uu C);obtain ⟨l,ct⟩:∃ l,l=left - (rows.length:Int) - (ah (rows.take x):Int):=⟨_,rfl⟩;rw [<- ct];refine bp @fe @fe (Zpb hq (left:=l) om om) @fe ?_;by_cases q:l < ((ab r:Nat):Int)
  ·exact vH
  rw [gW (b:=ab r) om];have F:=aj3 (eq_false om:(l - ((ab r:Nat):Int) < 0)=False) @wi (om:left - (rows.length:Int) - (ah (rows.take (x+1)):Int)=l - ((ab r:Nat):Int));refine gG ?_;exact ⟨x+1,⟨au,om⟩,gw,gw,om⟩
 exact yz
theorem ZnC (aj:aO (Zab .cond) rows):az e0 190 [.one (.sl rows),.one (.sl rows)] [.one (.lit (.bool true))]:=by
 refine mN fun hm=>?_;unfold maxLen at hm;refine ta fun db=>?_;refine gI 67126323 Tryz.func190 ?_;refine yD fun F x hx=>?_;by_cases au:x < rows.length
 ·refine pW fun r hr hq=>?_;obtain ⟨ln,tk,dr⟩:=hq.take (n:=8) rfl;refine CH fun fe=>?_;refine bp @fe @fe (Zpc hq) @fe ?_;exact CG
 exact vR
theorem Zmj (aj:aO (Zab .cond) rows) (hb:rows.length+ah rows<=1048576):aR e0 174 [.one (.sl rows)] [] (kQ rows):=by
 refine ta fun db=>?_;refine dK (ts:=[.slot 2]) [] 2077 Tryz.func174 ?_;refine vI fun F=>?_;refine gL (ι:=Nat × List (List Value) × (Nat->Prop)) [3,4,11] [3,1000] (fun x=>[(4,.d (.one (.lit (.int .i64 (x.1:Int))))),(3,.buf 3)]) (fun x=>[(3,.buf none 169 8 (x.2.1.map aM++List.replicate (rows.length - x.1) [C.lit (.int .i64 0),C.lit (.string .empty),C.lit (.int .i64 0),C.sl [],C.lit (.int .i64 0),C.lit (.string .empty),C.lit (.int .i64 0),C.sl []])),(1000,.set x.2.2 (fun w=>br w (rows.take x.1) x.2.2 x.2.1))]) (fun x=>x.1<=rows.length∧x.2.1.length=x.1) (fun x=>rows.length - x.1) ((0,[],fun _=>False)) (⟨Taj _,rfl⟩) (fun x hx=>?_)
 obtain ⟨i,uss,E⟩:=x;obtain ⟨hi,hn⟩:=hx;simp only at hi hn;dsimp only;by_cases au:i < rows.length
 ·refine yM fun r hr hq=>?_;obtain ⟨ln,tk,dr⟩:=hq.take (n:=8) rfl;refine yE fun wi fe k hk ec=>?_;refine m24 fun bl bs bg j9 F=>?_;refine bR [] [1001] (ZnA hq om) ?_;exact m276
 exact m6
theorem m212 {X Y:Prop} (b:Y) (h:Bx Y->X:=by
 intro B0
 refine bp @d8 @aw (Zer (uq g0 g1 g2 g3)) @aw ?_;refine bp @d8 @aw (Zer (uq g4 g5 g6 g7)) @aw ?_;exact B0.o):X:=h ⟨b⟩
theorem m74 {X Y:Prop} (b:Y) (h:Bx Y->X:=by
 intro B0
 rw [show ab [.lit (.int .i64 i0),.lit (.string t1),.lit (.int .i64 i2),.sl r3,.lit (.int .i64 i4),.lit (.string t5),.lit (.int .i64 i6),.sl r7,.sl r8]=ab [.lit (.int .i64 i0),.lit (.string t1),.lit (.int .i64 i2),.sl r3]+ab [.lit (.int .i64 i4),.lit (.string t5),.lit (.int .i64 i6),.sl r7]+(r8.length+ah r8) by simp only [ab,dN];omega];exact B0.o):X:=h ⟨b⟩
theorem m36 {p:Prop} (h:p:=by
 by_cases q:L1 < (((r8.length+ah r8):Nat):Int)
 ·rw [iK (b:=(r8.length+ah r8)) q]
  try rw [iK om]
  exact fT (lT (-1) 0)
 rw [gW (b:=(r8.length+ah r8)) om];have q':(L1 - (((r8.length+ah r8):Nat):Int) < 0)=False:=eq_false om;refine fG @q' ?_;obtain ⟨L2,e2⟩:∃ x,x=L1 - (((r8.length+ah r8):Nat):Int):=⟨_,rfl⟩;rw [<- e2];clear q'
 try rw [gW om,show left - ((ab [.lit (.int .i64 i0),.lit (.string t1),.lit (.int .i64 i2),.sl r3]+ab [.lit (.int .i64 i4),.lit (.string t5),.lit (.int .i64 i6),.sl r7]+(r8.length+ah r8):Nat):Int)=L2 by omega]
 exact fT @aw):p:=h
theorem m15 {p:Prop} (h:p:=by
 refine dT @k8 (aj9 @k8 @k0 @k1 @k2 @k3 @k4 @k5 @k6 @k7) ?_;obtain ⟨E,dp⟩:∃ E,eS [.set E0 (fun w=>aT w [.lit (.int .i64 i0),.lit (.string t1),.lit (.int .i64 i2),.sl r3] E0 [u0,u1,u2,u3]),.set E4 (fun w=>aT w [.lit (.int .i64 i4),.lit (.string t5),.lit (.int .i64 i6),.sl r7] E4 [u4,u5,u6,u7]),.set E8 (fun w=>aU w (.sl r8) E8 u8)] [.set E (fun w=>aT w [.lit (.int .i64 i0),.lit (.string t1),.lit (.int .i64 i2),.sl r3,.lit (.int .i64 i4),.lit (.string t5),.lit (.int .i64 i6),.sl r7,.sl r8] E [u0,u1,u2,u3,u4,u5,u6,u7,u8])]:=⟨_,uy [.st E0 [.lit (.int .i64 i0),.lit (.string t1),.lit (.int .i64 i2),.sl r3] [u0,u1,u2,u3],.st E4 [.lit (.int .i64 i4),.lit (.string t5),.lit (.int .i64 i6),.sl r7] [u4,u5,u6,u7],.sl E8 r8 u8]⟩;refine pE [1000,1001,1002] [1000] dp ?_;exact (have F:=aw;eU (R:=eL [.lit (.int .i64 i0),.lit (.string t1),.lit (.int .i64 i2),.sl r3,.lit (.int .i64 i4),.lit (.string t5),.lit (.int .i64 i6),.sl r7,.sl r8]) [1000] (eL.mk (row:=[.lit (.int .i64 i0),.lit (.string t1),.lit (.int .i64 i2),.sl r3,.lit (.int .i64 i4),.lit (.string t5),.lit (.int .i64 i6),.sl r7,.sl r8]) (us:=[u0,u1,u2,u3,u4,u5,u6,u7,u8]) (E:=E) rfl (by simp only [aM,Tbu,List.map_nil,List.all_cons,List.all_nil,Bool.and_true,Tar];exact ⟨k0,k1,k2,k3,k4,k5,k6,k7,k8⟩)))):p:=h
theorem ZpT (aj:aV (Zab .eqn) row) (h0:0<=left) (h1:left<=1048576):az e0 90 [.agg row,.one (.lit (.int .i64 left))] [.one (.lit (.int .i64 (sub left (ab row))))]:=by
 obtain ⟨i0,t1,i2,r3,i4,t5,i6,r7,r8,rfl,g0,g1,g2,g3,g4,g5,g6,g7,g8⟩:=ZeI aj;refine m74 ?_
 refine gI 4260887 Tryz.func90 ?_;refine m1 fun L0 e0 q L1 e1=>?_;refine bp @aw @aw (ZnB g8 (left:=L1) om om) @aw ?_;exact m36
theorem ZpU (aj:aV (Zab .eqn) row):az e0 112 [.agg row,.agg row] [.one (.lit (.bool true))]:=by
 obtain ⟨i0,t1,i2,r3,i4,t5,i6,r7,r8,rfl,g0,g1,g2,g3,g4,g5,g6,g7,g8⟩:=ZeI aj;refine gI 4260895 Tryz.func112 ?_;refine m212 ?_;refine bU @d8 @aw (ZnC g8) ?_;exact bP @aw @d8
theorem Zpd (aj:aV (Zab .eqn) row) (hb:ab row<=1048576):aR e0 101 [.agg row] [] (eL row):=by
 obtain ⟨i0,t1,i2,r3,i4,t5,i6,r7,r8,rfl,g0,g1,g2,g3,g4,g5,g6,g7,g8⟩:=ZeI aj;simp only [ab,dN] at hb;refine dK (ts:=[.cell 2 166]) [] 15 Tryz.func101 ?_;refine m81 fun F=>?_;rintro r pm ⟨us,E0,rfl,hu,hc,rfl⟩;obtain ⟨u0,u1,u2,u3,rfl⟩:=len4 hu;have hc:aY (.lit u0)=true∧aY (.lit u1)=true∧aY (.lit u2)=true∧aY (.lit u3)=true:=by exact tg
 obtain ⟨k0,k1,k2,k3⟩:=hc;have pa:aM [u0,u1,u2,u3]=[.lit u0,.lit u1,.lit u2,.lit u3]:=rfl;rw [pa];refine m7 ?_;refine m66 fun F=>?_;rintro r pm ⟨us,E4,rfl,hu,hc,rfl⟩;obtain ⟨u4,u5,u6,u7,rfl⟩:=len4 hu;have hc:aY (.lit u4)=true∧aY (.lit u5)=true∧aY (.lit u6)=true∧aY (.lit u7)=true:=by exact tg
 obtain ⟨k4,k5,k6,k7⟩:=hc;have lr4:aM [u4,u5,u6,u7]=[.lit u4,.lit u5,.lit u6,.lit u7]:=rfl;rw [lr4];refine m7 ?_;refine iY (aj4 @k4 @k5 @k6 @k7) @aw ?_;have F:=@aw;refine bR [] [1002] (Zmj g8 om) ?_;rintro r pm ⟨u8,E8,rfl,k8,rfl⟩;refine m7 ?_;exact m15
theorem m275 {p:Prop} (h:p:=by
 rintro r' pm ⟨us,E2,rfl,hu,e9,rfl⟩;rw [ln] at hu;obtain ⟨u0,u1,u2,u3,u4,u5,u6,u7,u8,rfl⟩:=Cb hu;have e9:aY (.lit u0)=true∧aY (.lit u1)=true∧aY (.lit u2)=true∧aY (.lit u3)=true∧aY (.lit u4)=true∧aY (.lit u5)=true∧aY (.lit u6)=true∧aY (.lit u7)=true∧aY (.lit u8)=true:=by exact D5
 obtain ⟨k0,k1,k2,k3,k4,k5,k6,k7,k8⟩:=e9;have lr:aM [u0,u1,u2,u3,u4,u5,u6,u7,u8]=[.lit u0,.lit u1,.lit u2,.lit u3,.lit u4,.lit u5,.lit u6,.lit u7,.lit u8]:=rfl;rw [lr];refine m7 ?_;refine fR (aj13 @au @bl @bs @bg @k0 @k1 @k2 @k3 @k4 @k5 @k6 @k7 @k8) ?_;refine pE [1000,1001] [1000] (xB (G':=fun w=>br w (rows.take (i+1)) (fun b=>E b∨E2 b) (uss++[[u0,u1,u2,u3,u4,u5,u6,u7,u8]])) (fun w h1 h2 hd=>?_) (br.stable _ _ _)) ?_
 ·rw [zZ hr];exact zV
 refine D6 fun F=>?_;exact m176):p:=h
theorem tc {X Y:Prop} (b:Y) (h:Bx Y->X:=by
 intro B0
 have db:ZaB 9 rows=true:=ki.2 aj.rowsLen;exact B0.o db):X:=h ⟨b⟩
theorem m176 {p:Prop} (h:p:=by
 exact ⟨(i+1,uss++[[u0,u1,u2,u3,u4,u5,u6,u7,u8]],fun b=>E b∨E2 b),⟨au,by simp [hn]⟩,gw,gw,om⟩):p:=h
theorem m20 {X Y:Prop} (b:Y) (h:Bx Y->X:=by
 intro B0
 have bl:(uss.map aM++List.replicate (k+1) [C.lit (.int .i64 0),C.lit (.string .empty),C.lit (.int .i64 0),C.sl [],C.lit (.int .i64 0),C.lit (.string .empty),C.lit (.int .i64 0),C.sl [],C.sl []]).length=rows.length:=by simp;omega
 have bs:∀ X,(uss.map aM++List.replicate (k+1) [C.lit (.int .i64 0),C.lit (.string .empty),C.lit (.int .i64 0),C.sl [],C.lit (.int .i64 0),C.lit (.string .empty),C.lit (.int .i64 0),C.sl [],C.sl []]).set i X=(uss.map aM++[X])++List.replicate k [C.lit (.int .i64 0),C.lit (.string .empty),C.lit (.int .i64 0),C.sl [],C.lit (.int .i64 0),C.lit (.string .empty),C.lit (.int .i64 0),C.sl [],C.sl []]:=fun X=>xD _ _ _ _ _ (by simp [hn]);have bg:(uss.map aM++List.replicate (k+1) [C.lit (.int .i64 0),C.lit (.string .empty),C.lit (.int .i64 0),C.sl [],C.lit (.int .i64 0),C.lit (.string .empty),C.lit (.int .i64 0),C.sl [],C.sl []])[i]?=some [C.lit (.int .i64 0),C.lit (.string .empty),C.lit (.int .i64 0),C.sl [],C.lit (.int .i64 0),C.lit (.string .empty),C.lit (.int .i64 0),C.sl [],C.sl []]:=by rw [Tbq (by simp;omega),Tbr,if_pos (by simp;omega)]
 have j9:=tB hr;refine fB (ai @fe @bl) ?_;have F:=ai @fe @bl;exact B0.o bl bs bg j9 F):X:=h ⟨b⟩
theorem ZiX (aj:aO (Zab .eqn) rows) (h0:0<=left) (h1:left<=1048576):az e0 37 [.one (.sl rows),.one (.lit (.int .i64 left))] [.one (.lit (.int .i64 (sub left (rows.length+ah rows))))]:=by
 refine mN fun hm=>?_;unfold maxLen at hm;refine vP fun w=>?_;refine tc fun db=>?_;refine gI 33589299 Tryz.func37 ?_;refine m2 fun q F x hx=>?_
 obtain ⟨hx,hl⟩:=hx;by_cases au:x < rows.length
 ·refine pW fun r hr hq=>?_;obtain ⟨ln,tk,dr⟩:=hq.take (n:=9) rfl;refine s9 fun wi nL oZ=>?_
  skip
  have fe:=aj10 hr au bD db (lT x rows.length) hq.cells ln tk dr (@uu C);obtain ⟨l,ct⟩:∃ l,l=left - (rows.length:Int) - (ah (rows.take x):Int):=⟨_,rfl⟩;rw [<- ct];refine bp @fe @fe (ZpT hq (left:=l) om om) @fe ?_;by_cases q:l < ((ab r:Nat):Int)
  ·exact vH
  rw [gW (b:=ab r) om];have F:=aj3 (eq_false om:(l - ((ab r:Nat):Int) < 0)=False) @wi (om:left - (rows.length:Int) - (ah (rows.take (x+1)):Int)=l - ((ab r:Nat):Int));refine gG ?_;exact ⟨x+1,⟨au,om⟩,gw,gw,om⟩
 exact yz
theorem ZiY (aj:aO (Zab .eqn) rows):az e0 48 [.one (.sl rows),.one (.sl rows)] [.one (.lit (.bool true))]:=by
 refine mN fun hm=>?_;unfold maxLen at hm;refine tc fun db=>?_;refine gI 67126323 Tryz.func48 ?_;refine yD fun F x hx=>?_;by_cases au:x < rows.length
 ·refine pW fun r hr hq=>?_;obtain ⟨ln,tk,dr⟩:=hq.take (n:=9) rfl;refine CH fun fe=>?_;refine bp @fe @fe (ZpU hq) @fe ?_;exact CG
 exact vR
theorem ZiA (aj:aO (Zab .eqn) rows) (hb:rows.length+ah rows<=1048576):aR e0 42 [.one (.sl rows)] [] (kQ rows):=by
 refine tc fun db=>?_;refine dK (ts:=[.slot 2]) [] 2077 Tryz.func42 ?_;refine vI fun F=>?_;refine gL (ι:=Nat × List (List Value) × (Nat->Prop)) [3,4,11] [3,1000] (fun x=>[(4,.d (.one (.lit (.int .i64 (x.1:Int))))),(3,.buf 3)]) (fun x=>[(3,.buf none 166 9 (x.2.1.map aM++List.replicate (rows.length - x.1) [C.lit (.int .i64 0),C.lit (.string .empty),C.lit (.int .i64 0),C.sl [],C.lit (.int .i64 0),C.lit (.string .empty),C.lit (.int .i64 0),C.sl [],C.sl []])),(1000,.set x.2.2 (fun w=>br w (rows.take x.1) x.2.2 x.2.1))]) (fun x=>x.1<=rows.length∧x.2.1.length=x.1) (fun x=>rows.length - x.1) ((0,[],fun _=>False)) (⟨Taj _,rfl⟩) (fun x hx=>?_)
 obtain ⟨i,uss,E⟩:=x;obtain ⟨hi,hn⟩:=hx;simp only at hi hn;dsimp only;by_cases au:i < rows.length
 ·refine yM fun r hr hq=>?_;obtain ⟨ln,tk,dr⟩:=hq.take (n:=9) rfl;refine yE fun wi fe k hk ec=>?_;refine m20 fun bl bs bg j9 F=>?_;refine bR [] [1001] (Zpd hq om) ?_;exact m275
 exact m6
theorem m34 {X Y:Prop} (b:Y) (h:Bx Y->X:=by
 intro B0
 by_cases q:left < (((r0.length+ah r0):Nat):Int)
 ·rw [iK (b:=(r0.length+ah r0)) q]
  try rw [iK om]
  exact fT (lT (-1) 0)
 rw [gW (b:=(r0.length+ah r0)) om];have q':(left - (((r0.length+ah r0):Nat):Int) < 0)=False:=eq_false om;refine fG @q' ?_;obtain ⟨L0,e0⟩:∃ x,x=left - (((r0.length+ah r0):Nat):Int):=⟨_,rfl⟩;rw [<- e0];clear q';exact B0.o q L0 e0):X:=h ⟨b⟩
theorem ZyN (aj:aV (Zab .decl) row) (h0:0<=left) (h1:left<=1048576):az e0 269 [.agg row,.one (.lit (.int .i64 left))] [.one (.lit (.int .i64 (sub left (ab row))))]:=by
 obtain ⟨r0,i1,rfl,g0,g1⟩:=Zgp aj;rw [show ab [.sl r0,.lit (.int .i64 i1)]=(r0.length+ah r0) by simp only [ab,dN];omega];refine gI 1047 Tryz.func269 ?_;refine bp @aw @aw (Zo9 g0 (left:=left) om om) @aw ?_;refine m34 fun q L0 e0=>?_
 try rw [gW om,show left - (((r0.length+ah r0):Nat):Int)=L0 by omega]
 exact fT @aw
theorem ZyO (aj:aV (Zab .decl) row):az e0 301 [.agg row,.agg row] [.one (.lit (.bool true))]:=by
 obtain ⟨r0,i1,rfl,g0,g1⟩:=Zgp aj;refine gI 33823 Tryz.func301 ?_;refine bU @d8 @aw (Zpa g0) ?_;exact bP @aw @d8
theorem Zvj (aj:aV (Zab .decl) row) (hb:ab row<=1048576):aR e0 278 [.agg row] [] (eL row):=by
 obtain ⟨r0,i1,rfl,g0,g1⟩:=Zgp aj;simp only [ab,dN] at hb;refine dK (ts:=[.cell 2 237]) [] 15 Tryz.func278 ?_;refine fB @aw ?_;have F:=@aw;refine bR [] [1000] (ZmV g0 om) ?_;rintro r pm ⟨u0,E0,rfl,k0,rfl⟩;refine m7 ?_;refine dT @k0 @k0 ?_;obtain ⟨E,dp⟩:∃ E,eS [.set E0 (fun w=>aU w (.sl r0) E0 u0)] [.set E (fun w=>aT w [.sl r0,.lit (.int .i64 i1)] E [u0,.int .i64 i1])]:=⟨_,uy [.sl E0 r0 u0,.lits [.int .i64 i1]]⟩
 refine pE [1000] [1000] dp ?_;exact (have F:=aw;eU (R:=eL [.sl r0,.lit (.int .i64 i1)]) [1000] (eL.mk (row:=[.sl r0,.lit (.int .i64 i1)]) (us:=[u0,.int .i64 i1]) (E:=E) rfl (by simp only [aM,Tbu,List.map_nil,List.all_cons,List.all_nil,Bool.and_true,Tar];exact ⟨k0,rfl⟩)))
theorem m280 {p:Prop} (h:p:=by
 rintro r' pm ⟨us,E2,rfl,hu,e9,rfl⟩;rw [ln] at hu;obtain ⟨u0,u1,rfl⟩:=ry hu;have e9:aY (.lit u0)=true∧aY (.lit u1)=true:=by exact D5
 obtain ⟨k0,k1⟩:=e9;have lr:aM [u0,u1]=[.lit u0,.lit u1]:=rfl;rw [lr];refine m7 ?_;refine fR (aj6 @au @bl @bs @bg @k0 @k1) ?_;refine pE [1000,1001] [1000] (xB (G':=fun w=>br w (rows.take (i+1)) (fun b=>E b∨E2 b) (uss++[[u0,u1]])) (fun w h1 h2 hd=>?_) (br.stable _ _ _)) ?_
 ·rw [zZ hr];exact zV
 refine D6 fun F=>?_;exact m220):p:=h
theorem m220 {p:Prop} (h:p:=by
 exact ⟨(i+1,uss++[[u0,u1]],fun b=>E b∨E2 b),⟨au,by simp [hn]⟩,gw,gw,om⟩):p:=h
theorem Zvk (aj:aO (Zab .decl) rows) (h0:0<=left) (h1:left<=1048576):az e0 193 [.one (.sl rows),.one (.lit (.int .i64 left))] [.one (.lit (.int .i64 (sub left (rows.length+ah rows))))]:=by
 refine mN fun hm=>?_;unfold maxLen at hm;refine vP fun w=>?_;have db:ZaB 2 rows=true:=ki.2 aj.rowsLen;refine gI 33589299 Tryz.func193 ?_;refine m2 fun q F x hx=>?_
 obtain ⟨hx,hl⟩:=hx;by_cases au:x < rows.length
 ·refine pW fun r hr hq=>?_;obtain ⟨ln,tk,dr⟩:=hq.take (n:=2) rfl;refine s9 fun wi nL oZ=>?_
  skip
  have fe:=aj10 hr au bD db (lT x rows.length) hq.cells ln tk dr (@uu C);obtain ⟨l,ct⟩:∃ l,l=left - (rows.length:Int) - (ah (rows.take x):Int):=⟨_,rfl⟩;rw [<- ct];refine bp @fe @fe (ZyN hq (left:=l) om om) @fe ?_;by_cases q:l < ((ab r:Nat):Int)
  ·exact vH
  rw [gW (b:=ab r) om];have F:=aj3 (eq_false om:(l - ((ab r:Nat):Int) < 0)=False) @wi (om:left - (rows.length:Int) - (ah (rows.take (x+1)):Int)=l - ((ab r:Nat):Int));refine gG ?_;exact ⟨x+1,⟨au,om⟩,gw,gw,om⟩
 exact yz
theorem Zvl (aj:aO (Zab .decl) rows):az e0 234 [.one (.sl rows),.one (.sl rows)] [.one (.lit (.bool true))]:=by
 refine mN fun hm=>?_;unfold maxLen at hm;have db:ZaB 2 rows=true:=ki.2 aj.rowsLen;refine gI 67126323 Tryz.func234 ?_;refine yD fun F x hx=>?_;by_cases au:x < rows.length
 ·refine pW fun r hr hq=>?_;obtain ⟨ln,tk,dr⟩:=hq.take (n:=2) rfl;refine CH fun fe=>?_;refine bp @fe @fe (ZyO hq) @fe ?_;exact CG
 exact vR
theorem Zt8 (aj:aO (Zab .decl) rows) (hb:rows.length+ah rows<=1048576):aR e0 207 [.one (.sl rows)] [] (kQ rows):=by
 have db:ZaB 2 rows=true:=ki.2 aj.rowsLen;refine dK (ts:=[.slot 2]) [] 2077 Tryz.func207 ?_;refine vI fun F=>?_;refine gL (ι:=Nat × List (List Value) × (Nat->Prop)) [3,4,11] [3,1000] (fun x=>[(4,.d (.one (.lit (.int .i64 (x.1:Int))))),(3,.buf 3)]) (fun x=>[(3,.buf none 237 2 (x.2.1.map aM++List.replicate (rows.length - x.1) [C.sl [],C.lit (.int .i64 0)])),(1000,.set x.2.2 (fun w=>br w (rows.take x.1) x.2.2 x.2.1))]) (fun x=>x.1<=rows.length∧x.2.1.length=x.1) (fun x=>rows.length - x.1) ((0,[],fun _=>False)) (⟨Taj _,rfl⟩) (fun x hx=>?_)
 obtain ⟨i,uss,E⟩:=x;obtain ⟨hi,hn⟩:=hx;simp only at hi hn;dsimp only;by_cases au:i < rows.length
 ·refine yM fun r hr hq=>?_;obtain ⟨ln,tk,dr⟩:=hq.take (n:=2) rfl;refine yE fun wi fe k hk ec=>?_;have bl:(uss.map aM++List.replicate (k+1) [C.sl [],C.lit (.int .i64 0)]).length=rows.length:=by simp;omega
  have bs:∀ X,(uss.map aM++List.replicate (k+1) [C.sl [],C.lit (.int .i64 0)]).set i X=(uss.map aM++[X])++List.replicate k [C.sl [],C.lit (.int .i64 0)]:=fun X=>xD _ _ _ _ _ (by simp [hn]);have bg:(uss.map aM++List.replicate (k+1) [C.sl [],C.lit (.int .i64 0)])[i]?=some [C.sl [],C.lit (.int .i64 0)]:=by exact CF
  refine vL fun j9 F=>?_;refine bR [] [1001] (Zvj hq om) ?_;exact m280
 exact m6
theorem m35 {X Y:Prop} (b:Y) (h:Bx Y->X:=by
 intro B0
 by_cases q:L0 < (((r1.length+ah r1):Nat):Int)
 ·rw [iK (b:=(r1.length+ah r1)) q]
  try rw [iK om]
  exact fT (lT (-1) 0)
 rw [gW (b:=(r1.length+ah r1)) om];have q':(L0 - (((r1.length+ah r1):Nat):Int) < 0)=False:=eq_false om;refine fG @q' ?_;obtain ⟨L1,e1⟩:∃ x,x=L0 - (((r1.length+ah r1):Nat):Int):=⟨_,rfl⟩;rw [<- e1];clear q';exact B0.o q L1 e1):X:=h ⟨b⟩
theorem ZEn (aj:aV (Zab .op) row) (h0:0<=left) (h1:left<=1048576):az e0 119 [.agg row,.one (.lit (.int .i64 left))] [.one (.lit (.int .i64 (sub left (ab row))))]:=by
 obtain ⟨t0,r1,p2,p3,i4,rfl,g0,g1,g2,g3,g4⟩:=Zh2 aj;rw [show ab [.lit (.string t0),.sl r1,.lit (.bool p2),.lit (.bool p3),.lit (.int .i64 i4)]=t0.size+(r1.length+ah r1) by simp only [ab,dN];omega];refine gI 133143 Tryz.func119 ?_;have hs:=g0;unfold maxLen at hs;have w:IntKind.i64.wrap (left - (t0.size:Int))=left - (t0.size:Int):=IntWalk.i64_in _ om;clear hs;by_cases q:left < (t0.size:Int)
 ·rw [iK om];exact fT (ai @w (eq_true om:(left - (t0.size:Int) < 0)=True))
 have q':(left - (t0.size:Int) < 0)=False:=eq_false om;refine fG (ai @w @q') ?_;obtain ⟨L0,e0⟩:∃ x,x=left - (t0.size:Int):=⟨_,rfl⟩;rw [<- e0];clear w q';refine bp @aw @aw (Zvk g1 (left:=L0) om om) @aw ?_;refine m35 fun q L1 e1=>?_
 try rw [gW om,show left - ((t0.size+(r1.length+ah r1):Nat):Int)=L1 by omega]
 exact fT @aw
theorem ZEo (aj:aV (Zab .op) row):az e0 149 [.agg row,.agg row] [.one (.lit (.bool true))]:=by
 obtain ⟨t0,r1,p2,p3,i4,rfl,g0,g1,g2,g3,g4⟩:=Zh2 aj;refine gI 1108378143 Tryz.func149 ?_;refine bU @d8 @aw (Zvl g1) ?_;exact bP @aw @d8
theorem ZCU (aj:aV (Zab .op) row) (hb:ab row<=1048576):aR e0 128 [.agg row] [] (eL row):=by
 obtain ⟨t0,r1,p2,p3,i4,rfl,g0,g1,g2,g3,g4⟩:=Zh2 aj;simp only [ab,dN] at hb;refine dK (ts:=[.cell 2 196]) [] 15 Tryz.func128 ?_;refine fB @aw ?_;have F:=@aw;refine bR [] [1000] (Zt8 g1 om) ?_;rintro r pm ⟨u1,E1,rfl,k1,rfl⟩;refine m7 ?_;refine dT @k1 @k1 ?_;obtain ⟨E,dp⟩:∃ E,eS [.set E1 (fun w=>aU w (.sl r1) E1 u1)] [.set E (fun w=>aT w [.lit (.string t0),.sl r1,.lit (.bool p2),.lit (.bool p3),.lit (.int .i64 i4)] E [.string t0,u1,.bool p2,.bool p3,.int .i64 i4])]:=⟨_,uy [.lits [.string t0],.sl E1 r1 u1,.lits [.bool p2,.bool p3,.int .i64 i4]]⟩
 refine pE [1000] [1000] dp ?_;exact (have F:=aw;eU (R:=eL [.lit (.string t0),.sl r1,.lit (.bool p2),.lit (.bool p3),.lit (.int .i64 i4)]) [1000] (eL.mk (row:=[.lit (.string t0),.sl r1,.lit (.bool p2),.lit (.bool p3),.lit (.int .i64 i4)]) (us:=[.string t0,u1,.bool p2,.bool p3,.int .i64 i4]) (E:=E) rfl (by simp only [aM,Tbu,List.map_nil,List.all_cons,List.all_nil,Bool.and_true,Tar];exact ⟨rfl,k1,rfl,rfl,rfl⟩)))
theorem ZCV (aj:aO (Zab .op) rows) (h0:0<=left) (h1:left<=1048576):az e0 54 [.one (.sl rows),.one (.lit (.int .i64 left))] [.one (.lit (.int .i64 (sub left (rows.length+ah rows))))]:=by
 refine mN fun hm=>?_;unfold maxLen at hm;refine vP fun w=>?_;have db:ZaB 5 rows=true:=ki.2 aj.rowsLen;refine gI 33589299 Tryz.func54 ?_;refine m2 fun q F x hx=>?_
 obtain ⟨hx,hl⟩:=hx;by_cases au:x < rows.length
 ·refine pW fun r hr hq=>?_;obtain ⟨ln,tk,dr⟩:=hq.take (n:=5) rfl;refine s9 fun wi nL oZ=>?_
  skip
  have fe:=aj10 hr au bD db (lT x rows.length) hq.cells ln tk dr (@uu C);obtain ⟨l,ct⟩:∃ l,l=left - (rows.length:Int) - (ah (rows.take x):Int):=⟨_,rfl⟩;rw [<- ct];refine bp @fe @fe (ZEn hq (left:=l) om om) @fe ?_;by_cases q:l < ((ab r:Nat):Int)
  ·exact vH
  rw [gW (b:=ab r) om];have F:=aj3 (eq_false om:(l - ((ab r:Nat):Int) < 0)=False) @wi (om:left - (rows.length:Int) - (ah (rows.take (x+1)):Int)=l - ((ab r:Nat):Int));refine gG ?_;exact ⟨x+1,⟨au,om⟩,gw,gw,om⟩
 exact yz
theorem ZCW (aj:aO (Zab .op) rows):az e0 74 [.one (.sl rows),.one (.sl rows)] [.one (.lit (.bool true))]:=by
 refine mN fun hm=>?_;unfold maxLen at hm;have db:ZaB 5 rows=true:=ki.2 aj.rowsLen;refine gI 67126323 Tryz.func74 ?_;refine yD fun F x hx=>?_;by_cases au:x < rows.length
 ·refine pW fun r hr hq=>?_;obtain ⟨ln,tk,dr⟩:=hq.take (n:=5) rfl;refine CH fun fe=>?_;refine bp @fe @fe (ZEo hq) @fe ?_;exact CG
 exact vR
theorem ZyP (aj:aO (Zab .op) rows) (hb:rows.length+ah rows<=1048576):aR e0 62 [.one (.sl rows)] [] (kQ rows):=by
 have db:ZaB 5 rows=true:=ki.2 aj.rowsLen;refine dK (ts:=[.slot 2]) [] 2077 Tryz.func62 ?_;refine vI fun F=>?_;refine gL (ι:=Nat × List (List Value) × (Nat->Prop)) [3,4,11] [3,1000] (fun x=>[(4,.d (.one (.lit (.int .i64 (x.1:Int))))),(3,.buf 3)]) (fun x=>[(3,.buf none 196 5 (x.2.1.map aM++List.replicate (rows.length - x.1) [C.lit (.string .empty),C.sl [],C.lit (.bool false),C.lit (.bool false),C.lit (.int .i64 0)])),(1000,.set x.2.2 (fun w=>br w (rows.take x.1) x.2.2 x.2.1))]) (fun x=>x.1<=rows.length∧x.2.1.length=x.1) (fun x=>rows.length - x.1) ((0,[],fun _=>False)) (⟨Taj _,rfl⟩) (fun x hx=>?_)
 obtain ⟨i,uss,E⟩:=x;obtain ⟨hi,hn⟩:=hx;simp only at hi hn;dsimp only;by_cases au:i < rows.length
 ·refine yM fun r hr hq=>?_;obtain ⟨ln,tk,dr⟩:=hq.take (n:=5) rfl;refine yE fun wi fe k hk ec=>?_;have bl:(uss.map aM++List.replicate (k+1) [C.lit (.string .empty),C.sl [],C.lit (.bool false),C.lit (.bool false),C.lit (.int .i64 0)]).length=rows.length:=by simp;omega
  have bs:∀ X,(uss.map aM++List.replicate (k+1) [C.lit (.string .empty),C.sl [],C.lit (.bool false),C.lit (.bool false),C.lit (.int .i64 0)]).set i X=(uss.map aM++[X])++List.replicate k [C.lit (.string .empty),C.sl [],C.lit (.bool false),C.lit (.bool false),C.lit (.int .i64 0)]:=fun X=>xD _ _ _ _ _ (by simp [hn]);have bg:(uss.map aM++List.replicate (k+1) [C.lit (.string .empty),C.sl [],C.lit (.bool false),C.lit (.bool false),C.lit (.int .i64 0)])[i]?=some [C.lit (.string .empty),C.sl [],C.lit (.bool false),C.lit (.bool false),C.lit (.int .i64 0)]:=by exact CF
  refine vL fun j9 F=>?_;refine bR [] [1001] (ZCU hq om) ?_;rintro r' pm ⟨us,E2,rfl,hu,e9,rfl⟩;rw [ln] at hu;obtain ⟨u0,u1,u2,u3,u4,rfl⟩:=yy hu;have e9:aY (.lit u0)=true∧aY (.lit u1)=true∧aY (.lit u2)=true∧aY (.lit u3)=true∧aY (.lit u4)=true:=by exact D5
  obtain ⟨k0,k1,k2,k3,k4⟩:=e9;have lr:aM [u0,u1,u2,u3,u4]=[.lit u0,.lit u1,.lit u2,.lit u3,.lit u4]:=rfl;rw [lr];refine m7 ?_;refine fR (aj9 @au @bl @bs @bg @k0 @k1 @k2 @k3 @k4) ?_;refine pE [1000,1001] [1000] (xB (G':=fun w=>br w (rows.take (i+1)) (fun b=>E b∨E2 b) (uss++[[u0,u1,u2,u3,u4]])) (fun w h1 h2 hd=>?_) (br.stable _ _ _)) ?_
  ·rw [zZ hr];exact zV
  refine D6 fun F=>?_;exact ⟨(i+1,uss++[[u0,u1,u2,u3,u4]],fun b=>E b∨E2 b),⟨au,by simp [hn]⟩,gw,gw,om⟩
 exact m6
theorem Zrw (aj:aO (Zab .str) rows) (h0:0<=left) (h1:left<=1048576):az e0 117 [.one (.sl rows),.one (.lit (.int .i64 left))] [.one (.lit (.int .i64 (sub left (rows.length+ah rows))))]:=by
 refine mN fun hm=>?_;unfold maxLen at hm;refine vP fun w=>?_;have db:ZaB 1 rows=true:=ki.2 aj.rowsLen;refine gI 67143731 Tryz.func117 ?_;by_cases q:left < (rows.length:Int)
 ·rw [iK om];exact fT (ai @w (eq_true om:(left - (rows.length:Int) < 0)=True))
 have q':(left - (rows.length:Int) < 0)=False:=eq_false om;refine fG (ai @w @q') ?_;have F:=aj4 @tk0 @Zew @Int.natCast_zero @Int.sub_zero;refine gL (ι:=Nat) [1,4,5,15,26] [] (fun x=>[(5,.d (.one (.lit (.int .i64 (x:Int))))),(1,.d (.one (.lit (.int .i64 (left - (rows.length:Int) - (ah (rows.take x):Int))))))]) (fun x=>[]) (fun x=>x<=rows.length∧0<=left - (rows.length:Int) - (ah (rows.take x):Int)) (fun x=>rows.length - x) (0) (⟨Taj _,by simp [ah];omega⟩) (fun x hx=>?_)
 obtain ⟨hx,hl⟩:=hx;by_cases au:x < rows.length
 ·refine yG fun r hr=>?_;obtain ⟨x0,rfl,g0⟩:=Zfr (aj.get hr);refine s9 fun wi nL oZ=>?_;have ly:ab [.lit (.string x0)]=x0.size:=by simp [ab,dN]
  have fe:=aj5 hr au bD db (lT x rows.length);obtain ⟨l,ct⟩:∃ l,l=left - (rows.length:Int) - (ah (rows.take x):Int):=⟨_,rfl⟩;rw [<- ct];have hs:=g0;unfold maxLen at hs;have w:IntKind.i64.wrap (l - (x0.size:Int))=l - (x0.size:Int):=IntWalk.i64_in _ om;by_cases q:l < (x0.size:Int)
  ·rw [iK om];exact fT (aj3 @w (eq_true om:(l - (x0.size:Int) < 0)=True) @fe)
  have q':(l - (x0.size:Int) < 0)=False:=eq_false om;refine fG (aj3 @w @q' @fe) ?_;have F:=aj3 @q' @wi (om:left - (rows.length:Int) - (ah (rows.take (x+1)):Int)=l - ((x0.size:Nat):Int));refine gG ?_;exact ⟨x+1,⟨au,om⟩,gw,gw,om⟩
 exact yz
theorem Zrx (aj:aO (Zab .str) rows):az e0 147 [.one (.sl rows),.one (.sl rows)] [.one (.lit (.bool true))]:=by
 refine mN fun hm=>?_;unfold maxLen at hm;have db:ZaB 1 rows=true:=ki.2 aj.rowsLen;refine gI 33571891 Tryz.func147 ?_;refine m149 fun F x hx=>?_;by_cases au:x < rows.length
 ·refine yG fun r hr=>?_;obtain ⟨x0,rfl,g0⟩:=Zfr (aj.get hr);exact m160
 exact vR
theorem ZpV (aj:aO (Zab .str) rows) (hb:rows.length+ah rows<=1048576):aR e0 126 [.one (.sl rows)] [] (kQ rows):=by
 have db:ZaB 1 rows=true:=ki.2 aj.rowsLen;refine dK (ts:=[.slot 2]) [] 2077 Tryz.func126 ?_;refine vI fun F=>?_;refine gL (ι:=Nat × List (List Value) × (Nat->Prop)) [3,4,11] [3,1000] (fun x=>[(4,.d (.one (.lit (.int .i64 (x.1:Int))))),(3,.buf 3)]) (fun x=>[(3,.buf none 9 1 (x.2.1.map aM++List.replicate (rows.length - x.1) [C.lit (.string .empty)])),(1000,.set x.2.2 (fun w=>br w (rows.take x.1) x.2.2 x.2.1))]) (fun x=>x.1<=rows.length∧x.2.1.length=x.1) (fun x=>rows.length - x.1) ((0,[],fun _=>False)) (⟨Taj _,rfl⟩) (fun x hx=>?_)
 obtain ⟨i,uss,E⟩:=x;obtain ⟨hi,hn⟩:=hx;simp only at hi hn;dsimp only;by_cases au:i < rows.length
 ·obtain ⟨r,hr⟩:∃ r,rows[i]?=some r:=⟨_,Taa au⟩;obtain ⟨x0,rfl,g0⟩:=Zfr (aj.get hr);refine m210 fun wi fe k hk ec=>?_;have bl:(uss.map aM++List.replicate (k+1) [C.lit (.string .empty)]).length=rows.length:=by simp;omega
  have bs:∀ X,(uss.map aM++List.replicate (k+1) [C.lit (.string .empty)]).set i X=(uss.map aM++[X])++List.replicate k [C.lit (.string .empty)]:=fun X=>xD _ _ _ _ _ (by simp [hn]);have bg:(uss.map aM++List.replicate (k+1) [C.lit (.string .empty)])[i]?=some [C.lit (.string .empty)]:=by exact CF
  refine pE [1000] [1000] (ZB2 (G':=fun w=>br w (rows.take (i+1)) E (uss++[[.string x0]])) (fun w h=>?_) (br.stable _ _ _)) ?_
  ·rw [zZ hr];exact br.snoc (S2:=fun _=>False) h (aT.lits (us:=[.string x0])) (fun _ h=>h) (fun _ h=>h.elim) (fun _ _ h=>h)
  have F:=aj8 @fe @bl @bs @bg @wi @ec @ZFZ ((@Tbv.{0,0}));refine gG ?_;exact ⟨(i+1,uss++[[.string x0]],E),⟨au,by simp [hn]⟩,gw,gw,om⟩
 exact m6
theorem ZCX (aj:aV (Zab .sub) row):az e0 233 [.agg row,.agg row] [.one (.lit (.bool true))]:=by
 obtain ⟨i0,i1,rfl,g0,g1⟩:=ZiJ aj;refine gI 16927 Tryz.func233 ?_;exact fT @d8
theorem ZyQ (aj:aV (Zab .sub) row) (hb:ab row<=1048576):aR e0 206 [.agg row] [] (eL row):=by
 obtain ⟨i0,i1,rfl,g0,g1⟩:=ZiJ aj;simp only [ab,dN] at hb;refine dK (ts:=[.cell 2 234]) [] 15 Tryz.func206 ?_;refine fG @aw ?_;obtain ⟨E,dp⟩:∃ E,eS [] [.set E (fun w=>aT w [.lit (.int .i64 i0),.lit (.int .i64 i1)] E [.int .i64 i0,.int .i64 i1])]:=⟨_,uy [.lits [.int .i64 i0,.int .i64 i1]]⟩;refine pE [] [1000] dp ?_;exact (have F:=aw;eU (R:=eL [.lit (.int .i64 i0),.lit (.int .i64 i1)]) [1000] (eL.mk (row:=[.lit (.int .i64 i0),.lit (.int .i64 i1)]) (us:=[.int .i64 i0,.int .i64 i1]) (E:=E) rfl (by simp only [aM,Tbu,List.map_nil,List.all_cons,List.all_nil,Bool.and_true,Tar];exact ⟨rfl,rfl⟩)))
theorem ZyR (aj:aO (Zab .sub) rows) (h0:0<=left) (h1:left<=1048576):az e0 118 [.one (.sl rows),.one (.lit (.int .i64 left))] [.one (.lit (.int .i64 (sub left (rows.length+ah rows))))]:=by
 refine mN fun hm=>?_;unfold maxLen at hm;refine vP fun w=>?_;rw [ZyI (fs:=Zab .sub) (by rfl) aj,Nat.add_zero];refine gI 1043 Tryz.func118 ?_;exact m108
theorem ZyS (aj:aO (Zab .sub) rows):az e0 148 [.one (.sl rows),.one (.sl rows)] [.one (.lit (.bool true))]:=by
 refine mN fun hm=>?_;unfold maxLen at hm;have db:ZaB 2 rows=true:=ki.2 aj.rowsLen;refine gI 67126323 Tryz.func148 ?_;refine yD fun F x hx=>?_;by_cases au:x < rows.length
 ·refine pW fun r hr hq=>?_;obtain ⟨ln,tk,dr⟩:=hq.take (n:=2) rfl;refine CH fun fe=>?_;refine bp @fe @fe (ZCX hq) @fe ?_;exact CG
 exact vR
theorem Zvm (aj:aO (Zab .sub) rows) (hb:rows.length+ah rows<=1048576):aR e0 127 [.one (.sl rows)] [] (kQ rows):=by
 have db:ZaB 2 rows=true:=ki.2 aj.rowsLen;refine dK (ts:=[.slot 2]) [] 2077 Tryz.func127 ?_;refine vI fun F=>?_;refine gL (ι:=Nat × List (List Value) × (Nat->Prop)) [3,4,11] [3,1000] (fun x=>[(4,.d (.one (.lit (.int .i64 (x.1:Int))))),(3,.buf 3)]) (fun x=>[(3,.buf none 234 2 (x.2.1.map aM++List.replicate (rows.length - x.1) [C.lit (.int .i64 0),C.lit (.int .i64 0)])),(1000,.set x.2.2 (fun w=>br w (rows.take x.1) x.2.2 x.2.1))]) (fun x=>x.1<=rows.length∧x.2.1.length=x.1) (fun x=>rows.length - x.1) ((0,[],fun _=>False)) (⟨Taj _,rfl⟩) (fun x hx=>?_)
 obtain ⟨i,uss,E⟩:=x;obtain ⟨hi,hn⟩:=hx;simp only at hi hn;dsimp only;by_cases au:i < rows.length
 ·refine yM fun r hr hq=>?_;obtain ⟨ln,tk,dr⟩:=hq.take (n:=2) rfl;refine yE fun wi fe k hk ec=>?_;have bl:(uss.map aM++List.replicate (k+1) [C.lit (.int .i64 0),C.lit (.int .i64 0)]).length=rows.length:=by simp;omega
  have bs:∀ X,(uss.map aM++List.replicate (k+1) [C.lit (.int .i64 0),C.lit (.int .i64 0)]).set i X=(uss.map aM++[X])++List.replicate k [C.lit (.int .i64 0),C.lit (.int .i64 0)]:=fun X=>xD _ _ _ _ _ (by simp [hn]);have bg:(uss.map aM++List.replicate (k+1) [C.lit (.int .i64 0),C.lit (.int .i64 0)])[i]?=some [C.lit (.int .i64 0),C.lit (.int .i64 0)]:=by exact CF
  refine vL fun j9 F=>?_;refine bR [] [1001] (ZyQ hq om) ?_;exact m280
 exact m6
theorem Zvn (aj:aV (ux) row) (h0:0<=left) (h1:left<=1048576):az e0 53 [.agg row,.one (.lit (.int .i64 left))] [.one (.lit (.int .i64 (sub left (ab row))))]:=by
 obtain ⟨r0,r1,rfl,g0,g1⟩:=ZgS aj;rw [show ab [.sl r0,.sl r1]=(r0.length+ah r0)+(r1.length+ah r1) by simp only [ab,dN];omega];refine gI 66583 Tryz.func53 ?_;refine bp @aw @aw (Zrw g0 (left:=left) om om) @aw ?_;refine m34 fun q L0 e0=>?_;refine bp @aw @aw (ZyR g1 (left:=L0) om om) @aw ?_;refine m35 fun q L1 e1=>?_
 try rw [gW om,show left - (((r0.length+ah r0)+(r1.length+ah r1):Nat):Int)=L1 by omega]
 exact fT @aw
theorem Zvo (aj:aV (ux) row):az e0 73 [.agg row,.agg row] [.one (.lit (.bool true))]:=by
 obtain ⟨r0,r1,rfl,g0,g1⟩:=ZgS aj;refine gI 66591 Tryz.func73 ?_;refine bp @d8 @aw (Zrx g0) @aw ?_;refine bU @d8 @aw (ZyS g1) ?_;exact bP @aw @d8
theorem Zt9 (aj:aV (ux) row) (hb:ab row<=1048576):aR e0 61 [.agg row] [] (eL row):=by
 obtain ⟨r0,r1,rfl,g0,g1⟩:=ZgS aj;simp only [ab,dN] at hb;refine dK (ts:=[.cell 2 44]) [] 15 Tryz.func61 ?_;refine fB @aw ?_;have F:=@aw;refine bR [] [1000] (ZpV g0 om) ?_;rintro r pm ⟨u0,E0,rfl,k0,rfl⟩;refine m7 ?_;refine iY @k0 @aw ?_;have F:=@aw;refine bR [] [1001] (Zvm g1 om) ?_;rintro r pm ⟨u1,E1,rfl,k1,rfl⟩;refine m7 ?_
 refine dT @k1 (ai @k0 @k1) ?_;obtain ⟨E,dp⟩:∃ E,eS [.set E0 (fun w=>aU w (.sl r0) E0 u0),.set E1 (fun w=>aU w (.sl r1) E1 u1)] [.set E (fun w=>aT w [.sl r0,.sl r1] E [u0,u1])]:=⟨_,uy [.sl E0 r0 u0,.sl E1 r1 u1]⟩;refine pE [1000,1001] [1000] dp ?_;exact (have F:=aw;eU (R:=eL [.sl r0,.sl r1]) [1000] (eL.mk (row:=[.sl r0,.sl r1]) (us:=[u0,u1]) (E:=E) rfl (by simp only [aM,Tbu,List.map_nil,List.all_cons,List.all_nil,Bool.and_true,Tar];exact ⟨k0,k1⟩)))
theorem zX {p:Prop} (h:p:=by
 try rw [iK om]
 exact fT (lT (-1) 0)):p:=h
theorem Zpe (aj:aV (lM) row) (h0:0<=left) (h1:left<=1048576):az e0 19 [.agg row,.one (.lit (.int .i64 left))] [.one (.lit (.int .i64 (sub left (ab row))))]:=by
 obtain ⟨r0,r1,r2,rfl,g0,g1,g2⟩:=Zec aj;rw [show ab [.sl r0,.sl r1,.sl r2]=ab [.sl r0,.sl r1]+(r2.length+ah r2) by simp only [ab,dN];omega];refine gI 66583 Tryz.func19 ?_;refine bp @aw @aw (Zvn (ZgT g0 g1) (left:=left) om om) @aw ?_;by_cases q:left < ((ab [.sl r0,.sl r1]:Nat):Int)
 ·rw [iK (b:=ab [.sl r0,.sl r1]) q]
  exact zX
 rw [gW (b:=ab [.sl r0,.sl r1]) om];have q':(left - ((ab [.sl r0,.sl r1]:Nat):Int) < 0)=False:=eq_false om;refine fG @q' ?_;obtain ⟨L0,e0⟩:∃ x,x=left - ((ab [.sl r0,.sl r1]:Nat):Int):=⟨_,rfl⟩;rw [<- e0];clear q';refine bp @aw @aw (ZCV g2 (left:=L0) om om) @aw ?_;by_cases q:L0 < (((r2.length+ah r2):Nat):Int)
 ·rw [iK (b:=(r2.length+ah r2)) q]
  exact zX
 rw [gW (b:=(r2.length+ah r2)) om];have q':(L0 - (((r2.length+ah r2):Nat):Int) < 0)=False:=eq_false om;refine fG @q' ?_;obtain ⟨L1,e1⟩:∃ x,x=L0 - (((r2.length+ah r2):Nat):Int):=⟨_,rfl⟩;rw [<- e1];clear q'
 try rw [gW om,show left - ((ab [.sl r0,.sl r1]+(r2.length+ah r2):Nat):Int)=L1 by omega]
 exact fT @aw
theorem Zpf (aj:aV (lM) row):az e0 26 [.agg row,.agg row] [.one (.lit (.bool true))]:=by
 obtain ⟨r0,r1,r2,rfl,g0,g1,g2⟩:=Zec aj;refine gI 66591 Tryz.func26 ?_;refine bp @d8 @aw (Zvo (ZgT g0 g1)) @aw ?_;refine bU @d8 @aw (ZCW g2) ?_;exact bP @aw @d8
theorem ZnD (aj:aV (lM) row) (hb:ab row<=1048576):aR e0 22 [.agg row] [] (eL row):=by
 obtain ⟨r0,r1,r2,rfl,g0,g1,g2⟩:=Zec aj;simp only [ab,dN] at hb;refine dK (ts:=[.cell 2 47]) [] 15 Tryz.func22 ?_;refine fB @aw ?_;have F:=@aw;refine bR [] [1000] (Zt9 (ZgT g0 g1) (by simp only [ab,dN];omega)) ?_;rintro r pm ⟨us,E0,rfl,hu,hc,rfl⟩;obtain ⟨u0,u1,rfl⟩:=ry hu;have hc:aY (.lit u0)=true∧aY (.lit u1)=true:=by exact tg
 obtain ⟨k0,k1⟩:=hc;have pa:aM [u0,u1]=[.lit u0,.lit u1]:=rfl;rw [pa];refine m7 ?_;refine iY (ai @k0 @k1) @aw ?_;have F:=@aw;refine bR [] [1001] (ZyP g2 om) ?_;rintro r pm ⟨u2,E2,rfl,k2,rfl⟩;refine m7 ?_;refine dT @k2 (aj3 @k2 @k0 @k1) ?_;obtain ⟨E,dp⟩:∃ E,eS [.set E0 (fun w=>aT w [.sl r0,.sl r1] E0 [u0,u1]),.set E2 (fun w=>aU w (.sl r2) E2 u2)] [.set E (fun w=>aT w [.sl r0,.sl r1,.sl r2] E [u0,u1,u2])]:=⟨_,uy [.st E0 [.sl r0,.sl r1] [u0,u1],.sl E2 r2 u2]⟩
 refine pE [1000,1001] [1000] dp ?_;exact (have F:=aw;eU (R:=eL [.sl r0,.sl r1,.sl r2]) [1000] (eL.mk (row:=[.sl r0,.sl r1,.sl r2]) (us:=[u0,u1,u2]) (E:=E) rfl (by simp only [aM,Tbu,List.map_nil,List.all_cons,List.all_nil,Bool.and_true,Tar];exact ⟨k0,k1,k2⟩)))
theorem Zua (aj:aV (tv) row) (h0:0<=left) (h1:left<=1048576):az e0 6 [.agg row,.one (.lit (.int .i64 left))] [.one (.lit (.int .i64 (sub left (ab row))))]:=by
 obtain ⟨r0,r1,r2,r3,r4,rfl,g0,g1,g2,g3,g4⟩:=Zfy aj;rw [show ab [.sl r0,.sl r1,.sl r2,.sl r3,.sl r4]=ab [.sl r0,.sl r1,.sl r2]+(r3.length+ah r3)+(r4.length+ah r4) by simp only [ab,dN];omega];refine gI 4260887 Tryz.func6 ?_;refine bp @aw @aw (Zpe (Zed g0 g1 g2) (left:=left) om om) @aw ?_;by_cases q:left < ((ab [.sl r0,.sl r1,.sl r2]:Nat):Int)
 ·rw [iK (b:=ab [.sl r0,.sl r1,.sl r2]) q]
  exact zX
 rw [gW (b:=ab [.sl r0,.sl r1,.sl r2]) om];have q':(left - ((ab [.sl r0,.sl r1,.sl r2]:Nat):Int) < 0)=False:=eq_false om;refine fG @q' ?_;obtain ⟨L0,e0⟩:∃ x,x=left - ((ab [.sl r0,.sl r1,.sl r2]:Nat):Int):=⟨_,rfl⟩;rw [<- e0];clear q';refine bp @aw @aw (ZiX g3 (left:=L0) om om) @aw ?_;refine m79 fun q L1 e1=>?_;refine bp @aw @aw (ZiX g4 (left:=L1) om om) @aw ?_;by_cases q:L1 < (((r4.length+ah r4):Nat):Int)
 ·rw [iK (b:=(r4.length+ah r4)) q]
  exact zX
 rw [gW (b:=(r4.length+ah r4)) om];have q':(L1 - (((r4.length+ah r4):Nat):Int) < 0)=False:=eq_false om;refine fG @q' ?_;obtain ⟨L2,e2⟩:∃ x,x=L1 - (((r4.length+ah r4):Nat):Int):=⟨_,rfl⟩;rw [<- e2];clear q'
 try rw [gW om,show left - ((ab [.sl r0,.sl r1,.sl r2]+(r3.length+ah r3)+(r4.length+ah r4):Nat):Int)=L2 by omega]
 exact fT @aw
theorem Zub (aj:aV (tv) row):az e0 13 [.agg row,.agg row] [.one (.lit (.bool true))]:=by
 obtain ⟨r0,r1,r2,r3,r4,rfl,g0,g1,g2,g3,g4⟩:=Zfy aj;refine gI 4260895 Tryz.func13 ?_;refine bp @d8 @aw (Zpf (Zed g0 g1 g2)) @aw ?_;refine bp @d8 @aw (ZiY g3) @aw ?_;refine bU @d8 @aw (ZiY g4) ?_;exact bP @aw @d8
theorem ZkF (aj:aV (tv) row) (hb:ab row<=1048576):aR e0 9 [.agg row] [] (eL row):=by
 obtain ⟨r0,r1,r2,r3,r4,rfl,g0,g1,g2,g3,g4⟩:=Zfy aj;simp only [ab,dN] at hb;refine dK (ts:=[.cell 2 50]) [] 15 Tryz.func9 ?_;refine fB @aw ?_;have F:=@aw;refine bR [] [1000] (ZnD (Zed g0 g1 g2) (by simp only [ab,dN];omega)) ?_;rintro r pm ⟨us,E0,rfl,hu,hc,rfl⟩;obtain ⟨u0,u1,u2,rfl⟩:=Ca hu;have hc:aY (.lit u0)=true∧aY (.lit u1)=true∧aY (.lit u2)=true:=by exact tg
 obtain ⟨k0,k1,k2⟩:=hc;have pa:aM [u0,u1,u2]=[.lit u0,.lit u1,.lit u2]:=rfl;rw [pa];refine m7 ?_;refine iY (aj3 @k0 @k1 @k2) @aw ?_;have F:=@aw;refine bR [] [1001] (ZiA g3 om) ?_;rintro r pm ⟨u3,E3,rfl,k3,rfl⟩;refine m7 ?_;refine iY @k3 @aw ?_;have F:=@aw;refine bR [] [1002] (ZiA g4 om) ?_;rintro r pm ⟨u4,E4,rfl,k4,rfl⟩
 refine m7 ?_;refine dT @k4 (aj5 @k3 @k4 @k0 @k1 @k2) ?_;obtain ⟨E,dp⟩:∃ E,eS [.set E0 (fun w=>aT w [.sl r0,.sl r1,.sl r2] E0 [u0,u1,u2]),.set E3 (fun w=>aU w (.sl r3) E3 u3),.set E4 (fun w=>aU w (.sl r4) E4 u4)] [.set E (fun w=>aT w [.sl r0,.sl r1,.sl r2,.sl r3,.sl r4] E [u0,u1,u2,u3,u4])]:=⟨_,uy [.st E0 [.sl r0,.sl r1,.sl r2] [u0,u1,u2],.sl E3 r3 u3,.sl E4 r4 u4]⟩
 refine pE [1000,1001,1002] [1000] dp ?_;exact (have F:=aw;eU (R:=eL [.sl r0,.sl r1,.sl r2,.sl r3,.sl r4]) [1000] (eL.mk (row:=[.sl r0,.sl r1,.sl r2,.sl r3,.sl r4]) (us:=[u0,u1,u2,u3,u4]) (E:=E) rfl (by simp only [aM,Tbu,List.map_nil,List.all_cons,List.all_nil,Bool.and_true,Tar];exact ⟨k0,k1,k2,k3,k4⟩)))
theorem Zuc (aj:aV (tv) row) (hb:ab row<=1048576):az e0 9 [.agg row] [.agg row]:=Zty (ZkF aj hb)
theorem Zry (aj:aV (Zab .binding) row) (h0:0<=left) (h1:left<=1048576):az e0 308 [.agg row,.one (.lit (.int .i64 left))] [.one (.lit (.int .i64 (sub left (ab row))))]:=by
 obtain ⟨i0,t1,i2,r3,i4,t5,i6,r7,rfl,g0,g1,g2,g3,g4,g5,g6,g7⟩:=Ze1 aj;refine m80 ?_
 refine gI 66583 Tryz.func308 ?_;refine m1 fun L0 e0 q L1 e1=>?_
 exact m100
theorem Zrz (aj:aV (Zab .binding) row):az e0 146 [.agg row,.agg row] [.one (.lit (.bool true))]:=by
 obtain ⟨i0,t1,i2,r3,i4,t5,i6,r7,rfl,g0,g1,g2,g3,g4,g5,g6,g7⟩:=Ze1 aj;refine gI 66591 Tryz.func146 ?_;exact m135
theorem ZpW (aj:aV (Zab .binding) row) (hb:ab row<=1048576):aR e0 310 [.agg row] [] (eL row):=by
 obtain ⟨i0,t1,i2,r3,i4,t5,i6,r7,rfl,g0,g1,g2,g3,g4,g5,g6,g7⟩:=Ze1 aj;simp only [ab,dN] at hb;refine dK (ts:=[.cell 2 206]) [] 15 Tryz.func310 ?_;exact m279
theorem ZpX (aj:aO (Zab .binding) rows) (h0:0<=left) (h1:left<=1048576):az e0 251 [.one (.sl rows),.one (.lit (.int .i64 left))] [.one (.lit (.int .i64 (sub left (rows.length+ah rows))))]:=by
 refine mN fun hm=>?_;unfold maxLen at hm;refine vP fun w=>?_;refine ta fun db=>?_;refine gI 33589299 Tryz.func251 ?_;refine m2 fun q F x hx=>?_
 obtain ⟨hx,hl⟩:=hx;by_cases au:x < rows.length
 ·refine pW fun r hr hq=>?_;obtain ⟨ln,tk,dr⟩:=hq.take (n:=8) rfl;refine s9 fun wi nL oZ=>?_
  skip
  have fe:=aj10 hr au bD db (lT x rows.length) hq.cells ln tk dr (@uu C);obtain ⟨l,ct⟩:∃ l,l=left - (rows.length:Int) - (ah (rows.take x):Int):=⟨_,rfl⟩;rw [<- ct];refine bp @fe @fe (Zry hq (left:=l) om om) @fe ?_;by_cases q:l < ((ab r:Nat):Int)
  ·exact vH
  rw [gW (b:=ab r) om];have F:=aj3 (eq_false om:(l - ((ab r:Nat):Int) < 0)=False) @wi (om:left - (rows.length:Int) - (ah (rows.take (x+1)):Int)=l - ((ab r:Nat):Int));refine gG ?_;exact ⟨x+1,⟨au,om⟩,gw,gw,om⟩
 exact yz
theorem ZpY (aj:aO (Zab .binding) rows):az e0 72 [.one (.sl rows),.one (.sl rows)] [.one (.lit (.bool true))]:=by
 refine mN fun hm=>?_;unfold maxLen at hm;refine ta fun db=>?_;refine gI 67126323 Tryz.func72 ?_;refine yD fun F x hx=>?_;by_cases au:x < rows.length
 ·refine pW fun r hr hq=>?_;obtain ⟨ln,tk,dr⟩:=hq.take (n:=8) rfl;refine CH fun fe=>?_;refine bp @fe @fe (Zrz hq) @fe ?_;exact CG
 exact vR
theorem Zpg (aj:aO (Zab .binding) rows) (hb:rows.length+ah rows<=1048576):aR e0 262 [.one (.sl rows)] [] (kQ rows):=by
 refine ta fun db=>?_;refine dK (ts:=[.slot 2]) [] 2077 Tryz.func262 ?_;refine vI fun F=>?_;refine gL (ι:=Nat × List (List Value) × (Nat->Prop)) [3,4,11] [3,1000] (fun x=>[(4,.d (.one (.lit (.int .i64 (x.1:Int))))),(3,.buf 3)]) (fun x=>[(3,.buf none 206 8 (x.2.1.map aM++List.replicate (rows.length - x.1) [C.lit (.int .i64 0),C.lit (.string .empty),C.lit (.int .i64 0),C.sl [],C.lit (.int .i64 0),C.lit (.string .empty),C.lit (.int .i64 0),C.sl []])),(1000,.set x.2.2 (fun w=>br w (rows.take x.1) x.2.2 x.2.1))]) (fun x=>x.1<=rows.length∧x.2.1.length=x.1) (fun x=>rows.length - x.1) ((0,[],fun _=>False)) (⟨Taj _,rfl⟩) (fun x hx=>?_)
 obtain ⟨i,uss,E⟩:=x;obtain ⟨hi,hn⟩:=hx;simp only at hi hn;dsimp only;by_cases au:i < rows.length
 ·refine yM fun r hr hq=>?_;obtain ⟨ln,tk,dr⟩:=hq.take (n:=8) rfl;refine yE fun wi fe k hk ec=>?_;refine m24 fun bl bs bg j9 F=>?_;refine bR [] [1001] (ZpW hq om) ?_;exact m276
 exact m6
theorem ZnE (aj:aV (Zab .occ) row) (h0:0<=left) (h1:left<=1048576):az e0 164 [.agg row,.one (.lit (.int .i64 left))] [.one (.lit (.int .i64 (sub left (ab row))))]:=by
 obtain ⟨r0,r1,r2,r3,rfl,g0,g1,g2,g3⟩:=ZeR aj;rw [show ab [.sl r0,.sl r1,.sl r2,.sl r3]=(r0.length+ah r0)+(r1.length+ah r1)+(r2.length+ah r2)+(r3.length+ah r3) by simp only [ab,dN];omega];refine gI 272696343 Tryz.func164 ?_;refine bp @aw @aw (Zo9 g0 (left:=left) om om) @aw ?_;refine m34 fun q L0 e0=>?_;refine bp @aw @aw (ZmU g1 (left:=L0) om om) @aw ?_;refine m35 fun q L1 e1=>?_;refine bp @aw @aw (ZmU g2 (left:=L1) om om) @aw ?_;by_cases q:L1 < (((r2.length+ah r2):Nat):Int)
 ·rw [iK (b:=(r2.length+ah r2)) q]
  exact zX
 rw [gW (b:=(r2.length+ah r2)) om];have q':(L1 - (((r2.length+ah r2):Nat):Int) < 0)=False:=eq_false om;refine fG @q' ?_;obtain ⟨L2,e2⟩:∃ x,x=L1 - (((r2.length+ah r2):Nat):Int):=⟨_,rfl⟩;rw [<- e2];clear q';refine bp @aw @aw (ZpX g3 (left:=L2) om om) @aw ?_;by_cases q:L2 < (((r3.length+ah r3):Nat):Int)
 ·rw [iK (b:=(r3.length+ah r3)) q]
  exact zX
 rw [gW (b:=(r3.length+ah r3)) om];have q':(L2 - (((r3.length+ah r3):Nat):Int) < 0)=False:=eq_false om;refine fG @q' ?_;obtain ⟨L3,e3⟩:∃ x,x=L2 - (((r3.length+ah r3):Nat):Int):=⟨_,rfl⟩;rw [<- e3];clear q'
 try rw [gW om,show left - (((r0.length+ah r0)+(r1.length+ah r1)+(r2.length+ah r2)+(r3.length+ah r3):Nat):Int)=L3 by omega]
 exact fT @aw
theorem ZnF (aj:aV (Zab .occ) row):az e0 191 [.agg row,.agg row] [.one (.lit (.bool true))]:=by
 obtain ⟨r0,r1,r2,r3,rfl,g0,g1,g2,g3⟩:=ZeR aj;refine gI 272696351 Tryz.func191 ?_;refine bp @d8 @aw (Zpa g0) @aw ?_;refine bp @d8 @aw (Zjh g1) @aw ?_;refine bp @d8 @aw (Zjh g2) @aw ?_;refine bU @d8 @aw (ZpY g3) ?_;exact bP @aw @d8
theorem Zmk (aj:aV (Zab .occ) row) (hb:ab row<=1048576):aR e0 175 [.agg row] [] (eL row):=by
 obtain ⟨r0,r1,r2,r3,rfl,g0,g1,g2,g3⟩:=ZeR aj;simp only [ab,dN] at hb;refine dK (ts:=[.cell 2 95]) [] 15 Tryz.func175 ?_;refine fB @aw ?_;have F:=@aw;refine bR [] [1000] (ZmV g0 om) ?_;rintro r pm ⟨u0,E0,rfl,k0,rfl⟩;refine m7 ?_;refine iY @k0 @aw ?_;have F:=@aw;refine bR [] [1001] (ZlO g1 om) ?_;rintro r pm ⟨u1,E1,rfl,k1,rfl⟩;refine m7 ?_
 refine iY @k1 @aw ?_;have F:=@aw;refine bR [] [1002] (ZlO g2 om) ?_;rintro r pm ⟨u2,E2,rfl,k2,rfl⟩;refine m7 ?_;refine iY @k2 @aw ?_;have F:=@aw;refine bR [] [1003] (Zpg g3 om) ?_;rintro r pm ⟨u3,E3,rfl,k3,rfl⟩;refine m7 ?_;refine dT @k3 (aj4 @k0 @k1 @k2 @k3) ?_;obtain ⟨E,dp⟩:∃ E,eS [.set E0 (fun w=>aU w (.sl r0) E0 u0),.set E1 (fun w=>aU w (.sl r1) E1 u1),.set E2 (fun w=>aU w (.sl r2) E2 u2),.set E3 (fun w=>aU w (.sl r3) E3 u3)] [.set E (fun w=>aT w [.sl r0,.sl r1,.sl r2,.sl r3] E [u0,u1,u2,u3])]:=⟨_,uy [.sl E0 r0 u0,.sl E1 r1 u1,.sl E2 r2 u2,.sl E3 r3 u3]⟩
 refine pE [1000,1001,1002,1003] [1000] dp ?_;exact (have F:=aw;eU (R:=eL [.sl r0,.sl r1,.sl r2,.sl r3]) [1000] (eL.mk (row:=[.sl r0,.sl r1,.sl r2,.sl r3]) (us:=[u0,u1,u2,u3]) (E:=E) rfl (by simp only [aM,Tbu,List.map_nil,List.all_cons,List.all_nil,Bool.and_true,Tar];exact ⟨k0,k1,k2,k3⟩)))
theorem ZjE (aj:aV (Zab .chain) row) (ma:∀ (rows:List (List C)),fY rows < d6 row->aO (Zab .link) rows->∀ {left:Int},0<=left->left<=1048576->az e0 38 [.one (.sl rows),.one (.lit (.int .i64 left))] [.one (.lit (.int .i64 (sub left (rows.length+ah rows))))]) (h0:0<=left) (h1:left<=1048576):az e0 7 [.agg row,.one (.lit (.int .i64 left))] [.one (.lit (.int .i64 (sub left (ab row))))]:=by
 obtain ⟨i0,t1,i2,r3,i4,t5,i6,r7,r8,rfl,g0,g1,g2,g3,g4,g5,g6,g7,g8⟩:=CX aj;refine m74 ?_
 refine gI 4260887 Tryz.func7 ?_;refine m1 fun L0 e0 q L1 e1=>?_;refine bp @aw @aw (ma r8 (by simp only [d6,mo];omega) g8 (left:=L1) om om) @aw ?_;exact m36
theorem ZjF (aj:aV (Zab .chain) row) (ma:∀ (rows:List (List C)),fY rows < d6 row->aO (Zab .link) rows->az e0 49 [.one (.sl rows),.one (.sl rows)] [.one (.lit (.bool true))]):az e0 14 [.agg row,.agg row] [.one (.lit (.bool true))]:=by
 obtain ⟨i0,t1,i2,r3,i4,t5,i6,r7,r8,rfl,g0,g1,g2,g3,g4,g5,g6,g7,g8⟩:=CX aj;refine gI 4260895 Tryz.func14 ?_;refine m212 ?_;refine bU @d8 @aw (ma r8 (by simp only [d6,mo];omega) g8) ?_
 exact bP @aw @d8
theorem ZiZ (aj:aV (Zab .chain) row) (ma:∀ (rows:List (List C)),fY rows < d6 row->aO (Zab .link) rows->rows.length+ah rows<=1048576->aR e0 43 [.one (.sl rows)] [] (kQ rows)) (hb:ab row<=1048576):aR e0 10 [.agg row] [] (eL row):=by
 obtain ⟨i0,t1,i2,r3,i4,t5,i6,r7,r8,rfl,g0,g1,g2,g3,g4,g5,g6,g7,g8⟩:=CX aj;simp only [ab,dN] at hb;refine dK (ts:=[.cell 2 56]) [] 15 Tryz.func10 ?_;refine m81 fun F=>?_;rintro r pm ⟨us,E0,rfl,hu,hc,rfl⟩;obtain ⟨u0,u1,u2,u3,rfl⟩:=len4 hu;have hc:aY (.lit u0)=true∧aY (.lit u1)=true∧aY (.lit u2)=true∧aY (.lit u3)=true:=by exact tg
 obtain ⟨k0,k1,k2,k3⟩:=hc;have pa:aM [u0,u1,u2,u3]=[.lit u0,.lit u1,.lit u2,.lit u3]:=rfl;rw [pa];refine m7 ?_;refine m66 fun F=>?_;rintro r pm ⟨us,E4,rfl,hu,hc,rfl⟩;obtain ⟨u4,u5,u6,u7,rfl⟩:=len4 hu;have hc:aY (.lit u4)=true∧aY (.lit u5)=true∧aY (.lit u6)=true∧aY (.lit u7)=true:=by exact tg
 obtain ⟨k4,k5,k6,k7⟩:=hc;have lr4:aM [u4,u5,u6,u7]=[.lit u4,.lit u5,.lit u6,.lit u7]:=rfl;rw [lr4];refine m7 ?_;refine iY (aj4 @k4 @k5 @k6 @k7) @aw ?_;have F:=@aw;refine bR [] [1002] (ma r8 (by simp only [d6,mo];omega) g8 om) ?_;rintro r pm ⟨u8,E8,rfl,k8,rfl⟩;refine m7 ?_;exact m15
theorem ZrA (aj:aV (Zab .link) row) (jh:∀ (rows:List (List C)),fY rows < d6 row->aO (Zab .chain) rows->∀ {left:Int},0<=left->left<=1048576->az e0 165 [.one (.sl rows),.one (.lit (.int .i64 left))] [.one (.lit (.int .i64 (sub left (rows.length+ah rows))))]) (h0:0<=left) (h1:left<=1048576):az e0 91 [.agg row,.one (.lit (.int .i64 left))] [.one (.lit (.int .i64 (sub left (ab row))))]:=by
 obtain ⟨i0,r1,r2,r3,r4,r5,rfl,g0,g1,g2,g3,g4,g5⟩:=Zgq aj;rw [show ab [.lit (.int .i64 i0),.sl r1,.sl r2,.sl r3,.sl r4,.sl r5]=ab [.sl r1,.sl r2,.sl r3,.sl r4]+(r5.length+ah r5) by simp only [ab,dN];omega];refine gI 66583 Tryz.func91 ?_;refine bp @aw @aw (ZnE (ZeS g1 g2 g3 g4) (left:=left) om om) @aw ?_;by_cases q:left < ((ab [.sl r1,.sl r2,.sl r3,.sl r4]:Nat):Int)
 ·rw [iK (b:=ab [.sl r1,.sl r2,.sl r3,.sl r4]) q]
  exact zX
 rw [gW (b:=ab [.sl r1,.sl r2,.sl r3,.sl r4]) om];have q':(left - ((ab [.sl r1,.sl r2,.sl r3,.sl r4]:Nat):Int) < 0)=False:=eq_false om;refine fG @q' ?_;obtain ⟨L0,e0⟩:∃ x,x=left - ((ab [.sl r1,.sl r2,.sl r3,.sl r4]:Nat):Int):=⟨_,rfl⟩;rw [<- e0];clear q';refine bp @aw @aw (jh r5 (by simp only [d6,mo];omega) g5 (left:=L0) om om) @aw ?_;by_cases q:L0 < (((r5.length+ah r5):Nat):Int)
 ·rw [iK (b:=(r5.length+ah r5)) q]
  exact zX
 rw [gW (b:=(r5.length+ah r5)) om];have q':(L0 - (((r5.length+ah r5):Nat):Int) < 0)=False:=eq_false om;refine fG @q' ?_;obtain ⟨L1,e1⟩:∃ x,x=L0 - (((r5.length+ah r5):Nat):Int):=⟨_,rfl⟩;rw [<- e1];clear q'
 try rw [gW om,show left - ((ab [.sl r1,.sl r2,.sl r3,.sl r4]+(r5.length+ah r5):Nat):Int)=L1 by omega]
 exact fT @aw
theorem ZrB (aj:aV (Zab .link) row) (jh:∀ (rows:List (List C)),fY rows < d6 row->aO (Zab .chain) rows->az e0 192 [.one (.sl rows),.one (.sl rows)] [.one (.lit (.bool true))]):az e0 113 [.agg row,.agg row] [.one (.lit (.bool true))]:=by
 obtain ⟨i0,r1,r2,r3,r4,r5,rfl,g0,g1,g2,g3,g4,g5⟩:=Zgq aj;refine gI 2130463 Tryz.func113 ?_;refine bp @d8 @aw (ZnF (ZeS g1 g2 g3 g4)) @aw ?_;refine bU @d8 @aw (jh r5 (by simp only [d6,mo];omega) g5) ?_;exact bP @aw @d8
theorem ZpZ (aj:aV (Zab .link) row) (jh:∀ (rows:List (List C)),fY rows < d6 row->aO (Zab .chain) rows->rows.length+ah rows<=1048576->aR e0 176 [.one (.sl rows)] [] (kQ rows)) (hb:ab row<=1048576):aR e0 102 [.agg row] [] (eL row):=by
 obtain ⟨i0,r1,r2,r3,r4,r5,rfl,g0,g1,g2,g3,g4,g5⟩:=Zgq aj;simp only [ab,dN] at hb;refine dK (ts:=[.cell 2 98]) [] 15 Tryz.func102 ?_;refine fB @aw ?_;have F:=@aw;refine bR [] [1000] (Zmk (ZeS g1 g2 g3 g4) (by simp only [ab,dN];omega)) ?_;rintro r pm ⟨us,E1,rfl,hu,hc,rfl⟩;obtain ⟨u1,u2,u3,u4,rfl⟩:=len4 hu;have hc:aY (.lit u1)=true∧aY (.lit u2)=true∧aY (.lit u3)=true∧aY (.lit u4)=true:=by exact tg
 obtain ⟨k1,k2,k3,k4⟩:=hc;have lr1:aM [u1,u2,u3,u4]=[.lit u1,.lit u2,.lit u3,.lit u4]:=rfl;rw [lr1];refine m7 ?_;refine iY (aj4 @k1 @k2 @k3 @k4) @aw ?_;have F:=@aw;refine bR [] [1001] (jh r5 (by simp only [d6,mo];omega) g5 om) ?_;rintro r pm ⟨u5,E5,rfl,k5,rfl⟩;refine m7 ?_;refine dT @k5 (aj5 @k5 @k1 @k2 @k3 @k4) ?_
 obtain ⟨E,dp⟩:∃ E,eS [.set E1 (fun w=>aT w [.sl r1,.sl r2,.sl r3,.sl r4] E1 [u1,u2,u3,u4]),.set E5 (fun w=>aU w (.sl r5) E5 u5)] [.set E (fun w=>aT w [.lit (.int .i64 i0),.sl r1,.sl r2,.sl r3,.sl r4,.sl r5] E [.int .i64 i0,u1,u2,u3,u4,u5])]:=⟨_,uy [.lits [.int .i64 i0],.st E1 [.sl r1,.sl r2,.sl r3,.sl r4] [u1,u2,u3,u4],.sl E5 r5 u5]⟩;refine pE [1000,1001] [1000] dp ?_;exact (have F:=aw;eU (R:=eL [.lit (.int .i64 i0),.sl r1,.sl r2,.sl r3,.sl r4,.sl r5]) [1000] (eL.mk (row:=[.lit (.int .i64 i0),.sl r1,.sl r2,.sl r3,.sl r4,.sl r5]) (us:=[.int .i64 i0,u1,u2,u3,u4,u5]) (E:=E) rfl (by simp only [aM,Tbu,List.map_nil,List.all_cons,List.all_nil,Bool.and_true,Tar];exact ⟨rfl,k1,k2,k3,k4,k5⟩)))
theorem Zph (aj:aO (Zab .chain) rows) (h:∀ (i:Nat) r,rows[i]?=some r->∀ {left:Int},0<=left->left<=1048576->az e0 7 [.agg r,.one (.lit (.int .i64 left))] [.one (.lit (.int .i64 (sub left (ab r))))]) (h0:0<=left) (h1:left<=1048576):az e0 165 [.one (.sl rows),.one (.lit (.int .i64 left))] [.one (.lit (.int .i64 (sub left (rows.length+ah rows))))]:=by
 refine mN fun hm=>?_;unfold maxLen at hm;refine vP fun w=>?_;refine tc fun db=>?_;refine gI 33589299 Tryz.func165 ?_;refine m2 fun q F x hx=>?_
 obtain ⟨hx,hl⟩:=hx;by_cases au:x < rows.length
 ·refine pW fun r hr hq=>?_;obtain ⟨ln,tk,dr⟩:=hq.take (n:=9) rfl;exact m16
 exact yz
theorem Zpi (aj:aO (Zab .chain) rows) (h:∀ (i:Nat) r,rows[i]?=some r->az e0 14 [.agg r,.agg r] [.one (.lit (.bool true))]):az e0 192 [.one (.sl rows),.one (.sl rows)] [.one (.lit (.bool true))]:=by
 refine mN fun hm=>?_;unfold maxLen at hm;refine tc fun db=>?_;refine gI 67126323 Tryz.func192 ?_;refine yD fun F x hx=>?_;by_cases au:x < rows.length
 ·refine pW fun r hr hq=>?_;obtain ⟨ln,tk,dr⟩:=hq.take (n:=9) rfl;exact CD
 exact vR
theorem ZnG (aj:aO (Zab .chain) rows) (h:∀ (i:Nat) r,rows[i]?=some r->ab r<=1048576->aR e0 10 [.agg r] [] (eL r)) (hb:rows.length+ah rows<=1048576):aR e0 176 [.one (.sl rows)] [] (kQ rows):=by
 refine tc fun db=>?_;refine dK (ts:=[.slot 2]) [] 2077 Tryz.func176 ?_;refine vI fun F=>?_;refine gL (ι:=Nat × List (List Value) × (Nat->Prop)) [3,4,11] [3,1000] (fun x=>[(4,.d (.one (.lit (.int .i64 (x.1:Int))))),(3,.buf 3)]) (fun x=>[(3,.buf none 56 9 (x.2.1.map aM++List.replicate (rows.length - x.1) [C.lit (.int .i64 0),C.lit (.string .empty),C.lit (.int .i64 0),C.sl [],C.lit (.int .i64 0),C.lit (.string .empty),C.lit (.int .i64 0),C.sl [],C.sl []])),(1000,.set x.2.2 (fun w=>br w (rows.take x.1) x.2.2 x.2.1))]) (fun x=>x.1<=rows.length∧x.2.1.length=x.1) (fun x=>rows.length - x.1) ((0,[],fun _=>False)) (⟨Taj _,rfl⟩) (fun x hx=>?_)
 obtain ⟨i,uss,E⟩:=x;obtain ⟨hi,hn⟩:=hx;simp only at hi hn;dsimp only;by_cases au:i < rows.length
 ·refine yM fun r hr hq=>?_;obtain ⟨ln,tk,dr⟩:=hq.take (n:=9) rfl;refine yE fun wi fe k hk ec=>?_;refine m20 fun bl bs bg j9 F=>?_;refine bR [] [1001] (h i _ hr om) ?_;exact m275
 exact m6
theorem Zp0 (aj:aO (Zab .link) rows) (h:∀ (i:Nat) r,rows[i]?=some r->∀ {left:Int},0<=left->left<=1048576->az e0 91 [.agg r,.one (.lit (.int .i64 left))] [.one (.lit (.int .i64 (sub left (ab r))))]) (h0:0<=left) (h1:left<=1048576):az e0 38 [.one (.sl rows),.one (.lit (.int .i64 left))] [.one (.lit (.int .i64 (sub left (rows.length+ah rows))))]:=by
 refine mN fun hm=>?_;unfold maxLen at hm;refine vP fun w=>?_;have db:ZaB 6 rows=true:=ki.2 aj.rowsLen;refine gI 33589299 Tryz.func38 ?_;refine m2 fun q F x hx=>?_
 obtain ⟨hx,hl⟩:=hx;by_cases au:x < rows.length
 ·refine pW fun r hr hq=>?_;obtain ⟨ln,tk,dr⟩:=hq.take (n:=6) rfl;exact m16
 exact yz
theorem Zp1 (aj:aO (Zab .link) rows) (h:∀ (i:Nat) r,rows[i]?=some r->az e0 113 [.agg r,.agg r] [.one (.lit (.bool true))]):az e0 49 [.one (.sl rows),.one (.sl rows)] [.one (.lit (.bool true))]:=by
 refine mN fun hm=>?_;unfold maxLen at hm;have db:ZaB 6 rows=true:=ki.2 aj.rowsLen;refine gI 67126323 Tryz.func49 ?_;refine yD fun F x hx=>?_;by_cases au:x < rows.length
 ·refine pW fun r hr hq=>?_;obtain ⟨ln,tk,dr⟩:=hq.take (n:=6) rfl;exact CD
 exact vR
theorem Zpj (aj:aO (Zab .link) rows) (h:∀ (i:Nat) r,rows[i]?=some r->ab r<=1048576->aR e0 102 [.agg r] [] (eL r)) (hb:rows.length+ah rows<=1048576):aR e0 43 [.one (.sl rows)] [] (kQ rows):=by
 have db:ZaB 6 rows=true:=ki.2 aj.rowsLen;refine dK (ts:=[.slot 2]) [] 2077 Tryz.func43 ?_;refine vI fun F=>?_;refine gL (ι:=Nat × List (List Value) × (Nat->Prop)) [3,4,11] [3,1000] (fun x=>[(4,.d (.one (.lit (.int .i64 (x.1:Int))))),(3,.buf 3)]) (fun x=>[(3,.buf none 98 6 (x.2.1.map aM++List.replicate (rows.length - x.1) [C.lit (.int .i64 0),C.sl [],C.sl [],C.sl [],C.sl [],C.sl []])),(1000,.set x.2.2 (fun w=>br w (rows.take x.1) x.2.2 x.2.1))]) (fun x=>x.1<=rows.length∧x.2.1.length=x.1) (fun x=>rows.length - x.1) ((0,[],fun _=>False)) (⟨Taj _,rfl⟩) (fun x hx=>?_)
 obtain ⟨i,uss,E⟩:=x;obtain ⟨hi,hn⟩:=hx;simp only at hi hn;dsimp only;by_cases au:i < rows.length
 ·refine yM fun r hr hq=>?_;obtain ⟨ln,tk,dr⟩:=hq.take (n:=6) rfl;refine yE fun wi fe k hk ec=>?_;have bl:(uss.map aM++List.replicate (k+1) [C.lit (.int .i64 0),C.sl [],C.sl [],C.sl [],C.sl [],C.sl []]).length=rows.length:=by simp;omega
  have bs:∀ X,(uss.map aM++List.replicate (k+1) [C.lit (.int .i64 0),C.sl [],C.sl [],C.sl [],C.sl [],C.sl []]).set i X=(uss.map aM++[X])++List.replicate k [C.lit (.int .i64 0),C.sl [],C.sl [],C.sl [],C.sl [],C.sl []]:=fun X=>xD _ _ _ _ _ (by simp [hn]);have bg:(uss.map aM++List.replicate (k+1) [C.lit (.int .i64 0),C.sl [],C.sl [],C.sl [],C.sl [],C.sl []])[i]?=some [C.lit (.int .i64 0),C.sl [],C.sl [],C.sl [],C.sl [],C.sl []]:=by exact CF
  refine vL fun j9 F=>?_;refine bR [] [1001] (h i _ hr om) ?_;rintro r' pm ⟨us,E2,rfl,hu,e9,rfl⟩;rw [ln] at hu;obtain ⟨u0,u1,u2,u3,u4,u5,rfl⟩:=len6 hu;have e9:aY (.lit u0)=true∧aY (.lit u1)=true∧aY (.lit u2)=true∧aY (.lit u3)=true∧aY (.lit u4)=true∧aY (.lit u5)=true:=by exact D5
  obtain ⟨k0,k1,k2,k3,k4,k5⟩:=e9;have lr:aM [u0,u1,u2,u3,u4,u5]=[.lit u0,.lit u1,.lit u2,.lit u3,.lit u4,.lit u5]:=rfl;rw [lr];refine m7 ?_;refine fR (aj10 @au @bl @bs @bg @k0 @k1 @k2 @k3 @k4 @k5) ?_;refine pE [1000,1001] [1000] (xB (G':=fun w=>br w (rows.take (i+1)) (fun b=>E b∨E2 b) (uss++[[u0,u1,u2,u3,u4,u5]])) (fun w h1 h2 hd=>?_) (br.stable _ _ _)) ?_
  ·rw [zZ hr];exact zV
  refine D6 fun F=>?_;exact ⟨(i+1,uss++[[u0,u1,u2,u3,u4,u5]],fun b=>E b∨E2 b),⟨au,by simp [hn]⟩,gw,gw,om⟩
 exact m6
theorem Zvp (n:Nat):(∀ rows,fY rows < n->aO (Zab .chain) rows->∀ {left:Int},0<=left->left<=1048576->az e0 165 [.one (.sl rows),.one (.lit (.int .i64 left))] [.one (.lit (.int .i64 (sub left (rows.length+ah rows))))])∧(∀ rows,fY rows < n->aO (Zab .link) rows->∀ {left:Int},0<=left->left<=1048576->az e0 38 [.one (.sl rows),.one (.lit (.int .i64 left))] [.one (.lit (.int .i64 (sub left (rows.length+ah rows))))]):=by
 induction n with
 | zero=>exact ⟨fun rows h=>absurd h om,fun rows h=>absurd h om⟩
 | succ n ih =>
  exact ⟨fun rows hn aj {left} h0 h1=>Zph aj (fun i r hr left h0 h1=>ZjE (aj.get hr) (fun eu h2 oH=>ih.2 eu (by have:=n7 hr;omega) oH) h0 h1) h0 h1,
   fun rows hn aj {left} h0 h1=>Zp0 aj (fun i r hr left h0 h1=>ZrA (aj.get hr) (fun eu h2 oH=>ih.1 eu (by have:=n7 hr;omega) oH) h0 h1) h0 h1⟩
theorem Zvq (aj:aV (Zab .chain) row) (h0:0<=left) (h1:left<=1048576):az e0 7 [.agg row,.one (.lit (.int .i64 left))] [.one (.lit (.int .i64 (sub left (ab row))))]:=ZjE aj (fun rows _ ok=>(Zvp _).2 rows (Tan _) ok) h0 h1
theorem Zvr (n:Nat):(∀ rows,fY rows < n->aO (Zab .chain) rows->az e0 192 [.one (.sl rows),.one (.sl rows)] [.one (.lit (.bool true))])∧(∀ rows,fY rows < n->aO (Zab .link) rows->az e0 49 [.one (.sl rows),.one (.sl rows)] [.one (.lit (.bool true))]):=by
 induction n with
 | zero=>exact ⟨fun rows h=>absurd h om,fun rows h=>absurd h om⟩
 | succ n ih =>
  exact ⟨fun rows hn aj=>Zpi aj (fun i r hr=>ZjF (aj.get hr) (fun eu h2 oH=>ih.2 eu (by have:=n7 hr;omega) oH)),
   fun rows hn aj=>Zp1 aj (fun i r hr=>ZrB (aj.get hr) (fun eu h2 oH=>ih.1 eu (by have:=n7 hr;omega) oH))⟩
theorem Zvs (aj:aV (Zab .chain) row):az e0 14 [.agg row,.agg row] [.one (.lit (.bool true))]:=ZjF aj (fun rows _ ok=>(Zvr _).2 rows (Tan _) ok)
theorem Zvt (n:Nat):(∀ rows,fY rows < n->aO (Zab .chain) rows->rows.length+ah rows<=1048576->aR e0 176 [.one (.sl rows)] [] (kQ rows))∧(∀ rows,fY rows < n->aO (Zab .link) rows->rows.length+ah rows<=1048576->aR e0 43 [.one (.sl rows)] [] (kQ rows)):=by
 induction n with
 | zero=>exact ⟨fun rows h=>absurd h om,fun rows h=>absurd h om⟩
 | succ n ih =>
  exact ⟨fun rows hn aj hb=>ZnG aj (fun i r hr hb=>ZiZ (aj.get hr) (fun eu h2 oH=>ih.2 eu (by have:=n7 hr;omega) oH) hb) hb,
   fun rows hn aj hb=>Zpj aj (fun i r hr hb=>ZpZ (aj.get hr) (fun eu h2 oH=>ih.1 eu (by have:=n7 hr;omega) oH) hb) hb⟩
theorem ZlP (aj:aV (Zab .chain) row) (hb:ab row<=1048576):aR e0 10 [.agg row] [] (eL row):=ZiZ aj (fun rows _ ok=>(Zvt _).2 rows (Tan _) ok) hb
theorem Zvu (aj:aV (Zab .chain) row) (hb:ab row<=1048576):az e0 10 [.agg row] [.agg row]:=Zty (ZlP aj hb)
end Go.Proofs.YtbecmfjokofihaaGreatDoor
