/-
  Part of a proof.
-/
import Derived.Test.YtcgacanpeaiabaaGreatDoorBCheckChainCard0
import Derived.Test.YtcgacanpeaiabaaGreatDoorBCheckChainCard1
import Derived.Test.YtcgacanpeaiabaaGreatDoorBCheckChainCard2
import Derived.Test.YtcgacanpeaiabaaGreatDoorBCheckChainCard3
import Derived.Test.YtcgacanpeaiabaaGreatDoorRows
set_option linter.unusedSimpArgs false
set_option linter.unusedVariables false
set_option maxHeartbeats 400000000
set_option maxRecDepth 100000
namespace Go.Proofs.YtcgacanpeaiabaaGreatDoor
open Go.RowKit
variable {ops:Array Oper} {f:Nat} {t u:Tm} {listed:Array Bool} {ds:List (Option Nat)} {σ:St} {o:Occ} {g:Sgn} {r row:List C} {rows:List (List C)} {left:Int}
section
variable {e:Env} {K:St->Prop} {s:List (Nat × A)} {m:List (Nat × Bk)}
theorem gFa {d ty t n fi k off:Nat} {ft:TypeId} {p:String} {ed:Array Edge} {x:Operand} (i:Nat) (hK:ZbU e ops K f (listed.setIfInBounds i true) ⟨(d,.ref k (off+n))::s,m⟩)
  (hi:ops[i]?=some ⟨some d,.fieldAddr t x fi,ty,p,ed,none⟩:=by simp only [List.getElem?_toArray,Tau,Tat];exact rfl) (hx:evA s x=.ref k off:=by exact snv) (ht:offT e.P t fi=some (n,ft):=by exact snx) (hsel:ZgW ops=true:=by decide +kernel) (hap:Zht ops listed i=true:=by decide +kernel) (hr:(Region.ready .any ops listed).contains i=true:=by decide +kernel):ZbU e ops K (f+1) listed ⟨s,m⟩:=by
 refine Zet (o:=⟨some d,.fieldAddr t x fi,ty,p,ed,none⟩) hi rfl rfl hsel hap hr (α:=.ref k (off+n)) (fun _ U w0 S0 nt ac w S L h=>⟨.pointer (some ⟨L.b k,off+n,none⟩),fun w2=>?_,rfl⟩) hK;have h1:=h.eval x;rw [hx] at h1;have h1:ac.eval x=.pointer (some ⟨L.b k,off,none⟩):=h1;have:=Ze4 (P:=e.P) ht (L.b k) off w2;simp [execOp,h1,this]
theorem gFx {d n ty:Nat} {p:String} {ed:Array Edge} {x:Operand} {xs:List D} {y:D} (i:Nat) (hK:ZbU e ops K f (listed.setIfInBounds i true) ⟨(d,.d y)::s,m⟩)
  (hi:ops[i]?=some ⟨some d,.extract x n,ty,p,ed,none⟩:=by simp only [List.getElem?_toArray,Tau,Tat];exact rfl) (hx:evA s x=.tup xs:=by exact snv) (hy:xs[n]?=some y:=by exact rfl) (hsel:ZgW ops=true:=by decide +kernel) (hap:Zht ops listed i=true:=by decide +kernel) (hr:(Region.ready .any ops listed).contains i=true:=by decide +kernel):ZbU e ops K (f+1) listed ⟨s,m⟩:=by
 refine Zet (α:=.d y) (o:=⟨some d,.extract x n,ty,p,ed,none⟩) hi rfl rfl hsel hap hr (fun _ U w0 S0 nt ac w S L h=>?_) hK;have h1:=h.eval x;rw [hx] at h1;obtain ⟨vs,hv,hr⟩:=h1;obtain ⟨v,h1,h2⟩:=hr.get hy;exact ⟨v,fun w2=>by simp [execOp,hv,Instr.extract,h1,Result.andThen],h2⟩
theorem Zjh (hne:Region.ready .any ops listed≠[]) (hds:ops.toList.map (·.dst)=ds) (h:∀ i∈Region.ready .any ops listed,∃ o,ops[i]?=some o∧o.guard=none∧Runs e ds 0 [o] σ (fun σ'=>ZbU e ops K f (listed.setIfInBounds i true) σ')):ZbU e ops K (f+1) listed σ:=by
 subst hds;intro he U w0 S0 nt a w hd hs;refine ⟨fun h0=>absurd h0 hne,fun i hi=>?_⟩;obtain ⟨o,ho,hg,hr⟩:=h i hi;unfold wpOp;simp only [ho];have hw:Region.wanted o (yielded ops a.tmps)=true:=by simp [Region.wanted,hg]
 rw [if_pos hw];have hmem:o∈ops.toList:=Tac (by simpa using ho);refine .inl (Oper.wp_mono (fun a' w' ⟨σ',hr,hs'⟩=>?_) (Zdt hg hr he U w0 S0 nt a w _ (hd o hmem) hs));exact hr he U w0 S0 nt a' w' ops.toList (fun _ a w=>wpAny e.P .any ops (QN e U w0 S0 nt K) f (listed.setIfInBounds i true) a w) rfl (fun o ho=>by simp at ho) (fun a w σ'' hK hs''=>hK he U w0 S0 nt a w hd hs'') hs'
theorem gA1 {o:Oper} (i:Nat) (hK:Runs e ds 0 [o] σ (ZbU e ops K f (listed.setIfInBounds i true))) (hds:ops.toList.map (·.dst)=ds:=by exact rfl) (hr:Region.ready .any ops listed=[i]:=by decide +kernel) (ho:ops[i]?=some o:=by simp only [List.getElem?_toArray,Tau,Tat];exact rfl) (hg:o.guard=none:=by exact rfl):ZbU e ops K (f+1) listed σ:=by
 refine Zjh (by rw [hr];simp) hds fun j hj=>?_;rw [hr] at hj;have hji:j=i:=by simpa using hj
 subst hji;exact ⟨o,ho,hg,hK⟩
theorem gA2 {o o':Oper} (i j:Nat) (hK:Runs e ds 0 [o] σ (ZbU e ops K f (listed.setIfInBounds i true))) (hK':Runs e ds 0 [o'] σ (ZbU e ops K f (listed.setIfInBounds j true))) (hds:ops.toList.map (·.dst)=ds:=by exact rfl) (hr:Region.ready .any ops listed=[i,j]:=by decide +kernel) (ho:ops[i]?=some o:=by simp only [List.getElem?_toArray,Tau,Tat];exact rfl) (hg:o.guard=none:=by exact rfl) (ho':ops[j]?=some o':=by simp only [List.getElem?_toArray,Tau,Tat];exact rfl) (hg':o'.guard=none:=by exact rfl):ZbU e ops K (f+1) listed σ:=by
 refine Zjh (by rw [hr];simp) hds fun k hk=>?_;rw [hr] at hk;have hk:k=i∨k=j:=by simpa using hk
 rcases hk with rfl | rfl
 ·exact ⟨o,ho,hg,hK⟩
 ·exact ⟨o',ho',hg',hK'⟩
theorem gA3 {o o' o2:Oper} (i j l:Nat) (hK:Runs e ds 0 [o] σ (ZbU e ops K f (listed.setIfInBounds i true))) (hK':Runs e ds 0 [o'] σ (ZbU e ops K f (listed.setIfInBounds j true))) (hK2:Runs e ds 0 [o2] σ (ZbU e ops K f (listed.setIfInBounds l true))) (hds:ops.toList.map (·.dst)=ds:=by exact rfl) (hr:Region.ready .any ops listed=[i,j,l]:=by decide +kernel) (ho:ops[i]?=some o:=by simp only [List.getElem?_toArray,Tau,Tat];exact rfl) (hg:o.guard=none:=by exact rfl) (ho':ops[j]?=some o':=by simp only [List.getElem?_toArray,Tau,Tat];exact rfl) (hg':o'.guard=none:=by exact rfl) (ho2:ops[l]?=some o2:=by simp only [List.getElem?_toArray,Tau,Tat];exact rfl) (hg2:o2.guard=none:=by exact rfl):ZbU e ops K (f+1) listed σ:=by
 refine Zjh (by rw [hr];simp) hds fun k hk=>?_;rw [hr] at hk;have hk:k=i∨k=j∨k=l:=by simpa using hk
 rcases hk with rfl | rfl | rfl
 ·exact ⟨o,ho,hg,hK⟩
 ·exact ⟨o',ho',hg',hK'⟩
 ·exact ⟨o2,ho2,hg2,hK2⟩
end
theorem ZnE {mc:C} (hg:SgnOk g) {op:Int} {o:Opr} (h0:0<=op) (ho:g.ops[op.toNat]?=some o) (xs:List Tm) (ha:∀ a∈xs,TermOk g a) (hl:xs.length<=1000):Con e0 181 [.one (.ptr (encX g mc)),.one (.lit (.int .i64 op)),.one (.sl (Zaa xs))] [.agg (Zab ((mkT g op xs).getD zTm)),.one (.lit (.bool (mkT g op xs).isSome))]:=by
 obtain ⟨d,hd,_⟩:=hg.first ho;rw [Zng ho hd];exact Zpg hg h0 ho hd xs ha hl
theorem ZlE {mc:C} (hg:SgnOk g) (hu:TermOk g u):∀ (ps:List Int) {t:Tm},TermOk g t->(ZaP t ps).2=true->ps.length<=1048576->Con e0 240 [.one (.ptr (encX g mc)),.agg (Zab t),.one (.sl (ps.map ZaK)),.agg (Zab u)] [.agg (Zab ((rbT g t ps u).getD zTm)),.one (.lit (.bool (rbT g t ps u).isSome))]:=by
 intro ps
 induction ps with
 | nil =>
  intro t ht hs hl;have hz:=Zc9;have e:rbT g t [] u=some u:=rfl;rw [e];have z1:((([]:List (List C)).length:Int)=0)=True:=eq_true rfl;have z2:(((0:Nat):Int)=0)=True:=eq_true rfl;rw [List.map_nil];refine gI (ts:=[.cell 8 46,.slot 9]) 8589975471 Tryz.func240 ?_;exact fD (aj3 @z1 @z2 @tmz)
 | cons p ps ih =>
  intro t ht hs hl;have hz:=Zc9;obtain ⟨hp0,a,hpa,hs'⟩:=Zr9 hs;have hm:=Tac hpa;obtain ⟨o,d,hA⟩:=ht.app hm;have hal:=ZfV ht;have hlt:=(Tad.1 hpa).1;have hc:=ih (ht.arg hm) hs' (by simp only [Tag] at hl;omega);have e:rbT g t (p::ps) u=(rbT g a ps u).bind fun x=>mkT g t.op (t.args.set p.toNat x):=by simp only [rbT,hpa]
  have hok:=fun x=>Zkx hg ps (x:=x) (ht.arg hm) hu;rw [e];clear ih hs hs' e;generalize hr:rbT g a ps u=r at hc hok ⊢;have l0:((p::ps).map ZaK).length=ps.length+1:=by simp
  have l1:((((p::ps).map ZaK).length:Int)=0)=False:=eq_false (by rw [l0];omega);have l2:((p::ps).map ZaK)[0]?=some [.lit (.int .i64 p)]:=rfl;have l3:Zav 1 ((p::ps).map ZaK)=true:=ZjY _;have l4:((p::ps).map ZaK).drop 1=ps.map ZaK:=rfl;have l5:((p::ps).map ZaK).take ((p::ps).map ZaK).length=(p::ps).map ZaK:=Tap;have l6:((1:Int)<=(((p::ps).map ZaK).length:Int))=True:=eq_true (by rw [l0];omega);generalize (p::ps).map ZaK=rows at l0 l1 l2 l3 l4 l5 l6 ⊢
  have l7:((rows.length:Int)<=(rows.length:Int))=True:=eq_true (Int.le_refl _);have l8:(0 < rows.length)=True:=eq_true om;have t0:Int.toNat 0=0:=rfl;have t1:Int.toNat 1=1:=rfl;refine gI (ts:=[.cell 8 46,.slot 9]) 8589975471 Tryz.func240 ?_;refine fG (ai @l1 @tmz) ?_;refine gLt 15 14 16 ?_;refine fC (aj13 @l2 @l3 @l4 @l5 @l6 @l7 @l8 @t0 @t1 @hp0 @hpa @Zal @tmz) (hc) ?_
  cases r with
  | none =>
   refine fR @tmz ?_;exact fD (ai @hz @tmz)
  | some x =>
   have hx:=hok x rfl;simp only [Option.getD_some,Option.isSome_some,Option.bind_some];refine fR @tmz ?_;refine fN 6 @tmz ?_;refine gB ?_;have F:=@tmz;refine gCP [] [1001] (Zei t.args om) ?_;clear F;rintro r pm ⟨b,cap,rfl,rfl⟩;simp only [setA,retA,zipM,Taf,Tah];refine fR @tmz ?_;refine ZdU ?_;refine gB ?_;refine fR (aj11 @hp0 @l2 @l3 @l8 @t0 @hlt @hpa @Zae @Zaw @Zal @tmz) ?_;have cB:=ZnE (mc:=mc) hg hA.lo hA.at' (t.args.set p.toNat x) (Zoh (fun b hb=>ht.arg hb) hx) (by rw [Taz];omega)
   have hls:t.args.length=(Zaa (t.args.set p.toNat x)).length:=by rw [Zae,Taz]
   generalize t.args.set p.toNat x=S at cB hls ⊢;rw [hls];refine pD 1001 [12] [] ?_;refine fN 8 @tmz ?_;refine gB ?_;refine fC @tmz (cB) ?_;refine fR @tmz ?_;exact fD @tmz
theorem Ztt {mc:C} (hg:SgnOk g) (ht:okTm t) (hb:bulkRow (Zab t)<=1048576) (hu:TermOk g u) (hop:o.path.length<=1048576) (hol:o.left.length<=1048576) (hor:o.right.length<=1048576):Con e0 165 [.one (.ptr (encX g mc)),.agg (Zab t),.agg (Zcb o),.agg (Zab u)] [.agg (Zab ((rpT g t o u).getD zTm)),.one (.lit (.bool (rpT g t o u).isSome))]:=by
 have hz:=Zc9;have cT:=Zpw (mc:=mc) hg ht hb hop hol hor;generalize hk:(if ZaQ g t=true then tkIn g t o else (zTm,false))=k at cT;obtain ⟨kt,kb⟩:=k;rw [ZcQ] at cT ⊢;refine gI (ts:=[.cell 8 46,.slot 9]) 1152921521820392431 Tryz.func165 ?_;refine fB @tmz ?_;refine fC @tmz (cT) ?_
 cases kb with
 | false =>
  have e:rpT g t o u=none:=by
   unfold rpT;rw [if_neg];rintro ⟨_,h2,_,h4⟩;rw [if_pos (ZcB h2)] at hk;rw [hk] at h4;cases h4
  rw [e];refine fR @tmz ?_;exact fD (ai @hz @tmz)
 | true =>
 have hT:TermOk g t:=Classical.byContradiction fun h=>by
  rw [Zc0 h] at hk;simp at hk
 rw [if_pos (ZcB hT)] at hk;have hk2:(tkIn g t o).2=true:=by rw [hk]
 have hat:=ZwK hk2;have hs:=Zjg o.path t hT hat;have e:rpT g t o u=if o.left.length+o.right.length=0 then rbT g t o.path u else (mkT g (ZaP t o.path).1.op (o.left++[u]++o.right)).bind fun c=>rbT g t o.path c:=by
  unfold rpT;rw [if_pos ⟨hg,hT,hu,hk2⟩]
 rw [e];clear e hk cT;have hws:IntKind.i64.wrap ((o.left.length:Int)+(o.right.length:Int))=(o.left.length:Int)+(o.right.length:Int):=IntWalk.i64_in _ om;refine fR @tmz ?_;by_cases hn:o.left.length+o.right.length=0
 ·rw [if_pos hn];have z0:(0 < (o.left.length:Int)+(o.right.length:Int))=False:=eq_false om;have cR:=ZlE (mc:=mc) hg hu o.path hT hat hop;refine fN 11 (aj3 @z0 @hws @tmz) ?_;refine gB ?_;refine fC @tmz (cR) ?_;refine fR @tmz ?_;exact fD @tmz
 rw [if_neg hn];have z0:(0 < (o.left.length:Int)+(o.right.length:Int))=True:=eq_true om;obtain ⟨x,d,hA,hac,hle,hL,hR⟩:=Zky hT hk2 hn;have hal:=ZfV hs;have cS:=Zpv (Znz t o.path hop hb);generalize hq:ZaP t o.path=q at cS hs hA hal hle ⊢;obtain ⟨p,pb⟩:=q;simp only at cS hs hA hal hle ⊢;have hall:∀ a∈o.left++[u]++o.right,TermOk g a:=fun a ha=>by
  simp only [Tbh,Tbj] at ha;rcases ha with (ha | rfl) | ha
  ·exact hL a ha
  ·exact hu
  ·exact hR a ha
 have cB:=ZnE (mc:=mc) hg hA.lo hA.at' (o.left++[u]++o.right) hall (by simp only [Tae,Tag,Tak];omega);have hok:=fun c=>Zkc hg (t:=c) hA.lo hall;generalize hm:mkT g p.op (o.left++[u]++o.right)=m at cB hok ⊢;refine fN 5 (aj3 @z0 @hws @tmz) ?_;refine gB ?_;refine fC @tmz (cS) ?_;refine fR @tmz ?_;refine fN 6 @tmz ?_;have l1:∀ l:List Tm,Zav 4 (Zaa l)=true:=fun l=>Zc7 l;have l2:(o.left.length+1<=maxApp)=True:=eq_true (by unfold maxApp;omega)
 have l3:Zaa o.left++[Zab u]=Zaa (o.left++[u]):=by rw [ZbT,Zeg]
 have l4:((o.left++[u]).length+o.right.length<=maxApp)=True:=eq_true (by rw [Tae,Tag,Tak];unfold maxApp;omega);have l5:Zaa (o.left++[u])++Zaa o.right=Zaa (o.left++[u]++o.right):=(ZbT _ _).symm;generalize o.left++[u]++o.right=L2 at l5 cB;generalize o.left++[u]=L1 at l3 l4 l5;refine gM (ι:=Option Addr × Nat) [14] [47] (fun z=>[(14,.d (.one (.lit (.slice z.1 L1.length z.2))))]) (fun z=>[(47,.buf (some (z.1,z.2)) 46 4 (Zaa L1))]) (fun z=>True) ?_ (fun z hz=>Exists.intro _ (ai (Wk.refl _) ?_))
 ·refine gF0 ?_;refine gFa 0 ?_;refine gFT ?_;refine gO2 1 3 ?_ ?_
  ·refine (have F:=(aj4 @l1 l2 l3 tmz);gO3 ?_);refine gO2 2 3 ?_ ?_
   ·have F:=tmz;refine gCP [] [1001] (Zei o.left om) ?_;rintro r pm ⟨b,cap,rfl,rfl⟩;simp only [setA,retA,zipM,Taf,Tah];refine ZaT ?_;refine gO1 3 ?_;refine (have F:=(aj4 @l1 l2 l3 tmz);gO3 ?_);refine gO1 4 ?_;refine (have F:=(aj4 @l1 l2 l3 tmz);gO3 ?_);refine gO1 5 ?_;refine (have F:=(aj4 @l1 l2 l3 tmz);gO3 ?_);refine gO1 6 ?_;refine gS 47 fun b2 cap2=>?_;refine (have F:=(aj4 @l1 l2 l3 tmz);gO3 ?_)
    refine (have F:=tmz;gT0 ?_);exact (have F:=tmz;⟨(b2,cap2),trivial,gw,gw⟩)
   ·refine (have F:=(aj4 @l1 l2 l3 tmz);gO3 ?_);refine gO2 2 4 ?_ ?_
    ·have F:=tmz;refine gCP [] [1001] (Zei o.left om) ?_;rintro r pm ⟨b,cap,rfl,rfl⟩;simp only [setA,retA,zipM,Taf,Tah];refine ZaT ?_;refine gO1 4 ?_;refine (have F:=(aj4 @l1 l2 l3 tmz);gO3 ?_);refine gO1 5 ?_;refine (have F:=(aj4 @l1 l2 l3 tmz);gO3 ?_);refine gO1 6 ?_;refine gS 47 fun b2 cap2=>?_;refine (have F:=(aj4 @l1 l2 l3 tmz);gO3 ?_);refine (have F:=tmz;gT0 ?_);exact (have F:=tmz;⟨(b2,cap2),trivial,gw,gw⟩)
    ·refine (have F:=(aj4 @l1 l2 l3 tmz);gO3 ?_);refine gO1 2 ?_;have F:=tmz;refine gCP [] [1001] (Zei o.left om) ?_;rintro r pm ⟨b,cap,rfl,rfl⟩;simp only [setA,retA,zipM,Taf,Tah];refine ZaT ?_;refine gO1 5 ?_;refine (have F:=(aj4 @l1 l2 l3 tmz);gO3 ?_);refine gO1 6 ?_;refine gS 47 fun b2 cap2=>?_;refine (have F:=(aj4 @l1 l2 l3 tmz);gO3 ?_);refine (have F:=tmz;gT0 ?_);exact (have F:=tmz;⟨(b2,cap2),trivial,gw,gw⟩)
  ·refine (have F:=(aj4 @l1 l2 l3 tmz);gO3 ?_);refine gO2 1 4 ?_ ?_
   ·refine (have F:=(aj4 @l1 l2 l3 tmz);gO3 ?_);refine gO2 2 4 ?_ ?_
    ·have F:=tmz;refine gCP [] [1001] (Zei o.left om) ?_;rintro r pm ⟨b,cap,rfl,rfl⟩;simp only [setA,retA,zipM,Taf,Tah];refine ZaT ?_;refine gO1 4 ?_;refine (have F:=(aj4 @l1 l2 l3 tmz);gO3 ?_);refine gO1 5 ?_;refine (have F:=(aj4 @l1 l2 l3 tmz);gO3 ?_);refine gO1 6 ?_;refine gS 47 fun b2 cap2=>?_;refine (have F:=(aj4 @l1 l2 l3 tmz);gO3 ?_);refine (have F:=tmz;gT0 ?_);exact (have F:=tmz;⟨(b2,cap2),trivial,gw,gw⟩)
    ·refine (have F:=(aj4 @l1 l2 l3 tmz);gO3 ?_);refine gO1 2 ?_;have F:=tmz;refine gCP [] [1001] (Zei o.left om) ?_;rintro r pm ⟨b,cap,rfl,rfl⟩;simp only [setA,retA,zipM,Taf,Tah];refine ZaT ?_;refine gO1 5 ?_;refine (have F:=(aj4 @l1 l2 l3 tmz);gO3 ?_);refine gO1 6 ?_;refine gS 47 fun b2 cap2=>?_;refine (have F:=(aj4 @l1 l2 l3 tmz);gO3 ?_);refine (have F:=tmz;gT0 ?_);exact (have F:=tmz;⟨(b2,cap2),trivial,gw,gw⟩)
   ·refine (have F:=(aj4 @l1 l2 l3 tmz);gO3 ?_);refine gO1 1 ?_;refine (have F:=(aj4 @l1 l2 l3 tmz);gO3 ?_);refine gO1 2 ?_;have F:=tmz;refine gCP [] [1001] (Zei o.left om) ?_;rintro r pm ⟨b,cap,rfl,rfl⟩;simp only [setA,retA,zipM,Taf,Tah];refine ZaT ?_;refine gO1 5 ?_;refine (have F:=(aj4 @l1 l2 l3 tmz);gO3 ?_);refine gO1 6 ?_;refine gS 47 fun b2 cap2=>?_;refine (have F:=(aj4 @l1 l2 l3 tmz);gO3 ?_)
    refine (have F:=tmz;gT0 ?_);exact (have F:=tmz;⟨(b2,cap2),trivial,gw,gw⟩)
 obtain ⟨b1,cap1⟩:=z;dsimp only;refine ZdU ?_;refine gM (ι:=Unit) [14,15,16] [15,47] (fun z=>[(15,.ref 15 0),(16,A.d (.one (.lit (.bool m.isSome))))]) (fun z=>[(15,.var none (Zab (m.getD zTm)))]) (fun z=>True) ?_ (fun z hz=>Exists.intro _ (ai (Wk.refl _) ?_))
 ·refine gF0 ?_;refine gFm 0 ?_;refine gFa 1 ?_;refine gFm 3 ?_;refine gFa 4 ?_;refine gA3 2 5 11 ?_ ?_ ?_
  ·refine (have F:=tmz;gO3 ?_);refine gA2 5 11 ?_ ?_
   ·refine (have F:=tmz;gO3 ?_);refine gA2 6 11 ?_ ?_
    ·refine (have F:=aj4 @l1 l4 l5 tmz;gO3 ?_);refine gA2 7 11 ?_ ?_
     ·refine gS 55 fun b2 cap2=>?_;refine gD 55 [55] [] ?_;refine (have F:=tmz;gC cB ?_);refine ZaT ?_;refine gFm 8 ?_;refine gFx 9 ?_;refine gFx 10 ?_;refine gA1 11 ?_;refine (have F:=tmz;gO3 ?_);refine gA1 12 ?_;refine (have F:=tmz;gO3 ?_);refine gA1 13 ?_;refine (have F:=tmz;gO3 ?_);refine gFT ?_;refine (have F:=tmz;gT0 ?_);exact (have F:=tmz;⟨(),trivial,gw,gw⟩)
     ·refine (have F:=tmz;gO3 ?_);refine gA1 7 ?_;refine gS 55 fun b2 cap2=>?_;refine gD 55 [55] [] ?_;refine (have F:=tmz;gC cB ?_);refine ZaT ?_;refine gFm 8 ?_;refine gFx 9 ?_;refine gFx 10 ?_;refine gA1 12 ?_;refine (have F:=tmz;gO3 ?_);refine gA1 13 ?_;refine (have F:=tmz;gO3 ?_);refine gFT ?_;refine (have F:=tmz;gT0 ?_);exact (have F:=tmz;⟨(),trivial,gw,gw⟩)
    ·refine (have F:=tmz;gO3 ?_);refine gA1 6 ?_;refine (have F:=aj4 @l1 l4 l5 tmz;gO3 ?_);refine gA1 7 ?_;refine gS 55 fun b2 cap2=>?_;refine gD 55 [55] [] ?_;refine (have F:=tmz;gC cB ?_);refine ZaT ?_;refine gFm 8 ?_;refine gFx 9 ?_;refine gFx 10 ?_;refine gA1 12 ?_;refine (have F:=tmz;gO3 ?_);refine gA1 13 ?_;refine (have F:=tmz;gO3 ?_);refine gFT ?_;refine (have F:=tmz;gT0 ?_);exact (have F:=tmz;⟨(),trivial,gw,gw⟩)
   ·refine (have F:=tmz;gO3 ?_);refine gA1 5 ?_;refine (have F:=tmz;gO3 ?_);refine gA1 6 ?_;refine (have F:=aj4 @l1 l4 l5 tmz;gO3 ?_);refine gA1 7 ?_;refine gS 55 fun b2 cap2=>?_;refine gD 55 [55] [] ?_;refine (have F:=tmz;gC cB ?_);refine ZaT ?_;refine gFm 8 ?_;refine gFx 9 ?_;refine gFx 10 ?_;refine gA1 12 ?_;refine (have F:=tmz;gO3 ?_);refine gA1 13 ?_;refine (have F:=tmz;gO3 ?_);refine gFT ?_;refine (have F:=tmz;gT0 ?_)
    exact (have F:=tmz;⟨(),trivial,gw,gw⟩)
  ·refine (have F:=tmz;gO3 ?_);refine gA3 2 6 11 ?_ ?_ ?_
   ·refine (have F:=tmz;gO3 ?_);refine gA2 6 11 ?_ ?_
    ·refine (have F:=aj4 @l1 l4 l5 tmz;gO3 ?_);refine gA2 7 11 ?_ ?_
     ·refine gS 55 fun b2 cap2=>?_;refine gD 55 [55] [] ?_;refine (have F:=tmz;gC cB ?_);refine ZaT ?_;refine gFm 8 ?_;refine gFx 9 ?_;refine gFx 10 ?_;refine gA1 11 ?_;refine (have F:=tmz;gO3 ?_);refine gA1 12 ?_;refine (have F:=tmz;gO3 ?_);refine gA1 13 ?_;refine (have F:=tmz;gO3 ?_);refine gFT ?_;refine (have F:=tmz;gT0 ?_);exact (have F:=tmz;⟨(),trivial,gw,gw⟩)
     ·refine (have F:=tmz;gO3 ?_);refine gA1 7 ?_;refine gS 55 fun b2 cap2=>?_;refine gD 55 [55] [] ?_;refine (have F:=tmz;gC cB ?_);refine ZaT ?_;refine gFm 8 ?_;refine gFx 9 ?_;refine gFx 10 ?_;refine gA1 12 ?_;refine (have F:=tmz;gO3 ?_);refine gA1 13 ?_;refine (have F:=tmz;gO3 ?_);refine gFT ?_;refine (have F:=tmz;gT0 ?_);exact (have F:=tmz;⟨(),trivial,gw,gw⟩)
    ·refine (have F:=tmz;gO3 ?_);refine gA1 6 ?_;refine (have F:=aj4 @l1 l4 l5 tmz;gO3 ?_);refine gA1 7 ?_;refine gS 55 fun b2 cap2=>?_;refine gD 55 [55] [] ?_;refine (have F:=tmz;gC cB ?_);refine ZaT ?_;refine gFm 8 ?_;refine gFx 9 ?_;refine gFx 10 ?_;refine gA1 12 ?_;refine (have F:=tmz;gO3 ?_);refine gA1 13 ?_;refine (have F:=tmz;gO3 ?_);refine gFT ?_;refine (have F:=tmz;gT0 ?_);exact (have F:=tmz;⟨(),trivial,gw,gw⟩)
   ·refine (have F:=aj4 @l1 l4 l5 tmz;gO3 ?_);refine gA2 2 11 ?_ ?_
    ·refine (have F:=tmz;gO3 ?_);refine gA2 7 11 ?_ ?_
     ·refine gS 55 fun b2 cap2=>?_;refine gD 55 [55] [] ?_;refine (have F:=tmz;gC cB ?_);refine ZaT ?_;refine gFm 8 ?_;refine gFx 9 ?_;refine gFx 10 ?_;refine gA1 11 ?_;refine (have F:=tmz;gO3 ?_);refine gA1 12 ?_;refine (have F:=tmz;gO3 ?_);refine gA1 13 ?_;refine (have F:=tmz;gO3 ?_);refine gFT ?_;refine (have F:=tmz;gT0 ?_);exact (have F:=tmz;⟨(),trivial,gw,gw⟩)
     ·refine (have F:=tmz;gO3 ?_);refine gA1 7 ?_;refine gS 55 fun b2 cap2=>?_;refine gD 55 [55] [] ?_;refine (have F:=tmz;gC cB ?_);refine ZaT ?_;refine gFm 8 ?_;refine gFx 9 ?_;refine gFx 10 ?_;refine gA1 12 ?_;refine (have F:=tmz;gO3 ?_);refine gA1 13 ?_;refine (have F:=tmz;gO3 ?_);refine gFT ?_;refine (have F:=tmz;gT0 ?_);exact (have F:=tmz;⟨(),trivial,gw,gw⟩)
    ·refine (have F:=tmz;gO3 ?_);refine gA1 2 ?_;refine (have F:=tmz;gO3 ?_);refine gA1 7 ?_;refine gS 55 fun b2 cap2=>?_;refine gD 55 [55] [] ?_;refine (have F:=tmz;gC cB ?_);refine ZaT ?_;refine gFm 8 ?_;refine gFx 9 ?_;refine gFx 10 ?_;refine gA1 12 ?_;refine (have F:=tmz;gO3 ?_);refine gA1 13 ?_;refine (have F:=tmz;gO3 ?_);refine gFT ?_;refine (have F:=tmz;gT0 ?_);exact (have F:=tmz;⟨(),trivial,gw,gw⟩)
   ·refine (have F:=tmz;gO3 ?_);refine gA2 2 6 ?_ ?_
    ·refine (have F:=tmz;gO3 ?_);refine gA1 6 ?_;refine (have F:=aj4 @l1 l4 l5 tmz;gO3 ?_);refine gA1 7 ?_;refine gS 55 fun b2 cap2=>?_;refine gD 55 [55] [] ?_;refine (have F:=tmz;gC cB ?_);refine ZaT ?_;refine gFm 8 ?_;refine gFx 9 ?_;refine gFx 10 ?_;refine gA1 12 ?_;refine (have F:=tmz;gO3 ?_);refine gA1 13 ?_;refine (have F:=tmz;gO3 ?_);refine gFT ?_;refine (have F:=tmz;gT0 ?_);exact (have F:=tmz;⟨(),trivial,gw,gw⟩)
    ·refine (have F:=aj4 @l1 l4 l5 tmz;gO3 ?_);refine gA1 2 ?_;refine (have F:=tmz;gO3 ?_);refine gA1 7 ?_;refine gS 55 fun b2 cap2=>?_;refine gD 55 [55] [] ?_;refine (have F:=tmz;gC cB ?_);refine ZaT ?_;refine gFm 8 ?_;refine gFx 9 ?_;refine gFx 10 ?_;refine gA1 12 ?_;refine (have F:=tmz;gO3 ?_);refine gA1 13 ?_;refine (have F:=tmz;gO3 ?_);refine gFT ?_;refine (have F:=tmz;gT0 ?_);exact (have F:=tmz;⟨(),trivial,gw,gw⟩)
  ·refine (have F:=tmz;gO3 ?_);refine gA2 2 5 ?_ ?_
   ·refine (have F:=tmz;gO3 ?_);refine gA1 5 ?_;refine (have F:=tmz;gO3 ?_);refine gA1 6 ?_;refine (have F:=aj4 @l1 l4 l5 tmz;gO3 ?_);refine gA1 7 ?_;refine gS 55 fun b2 cap2=>?_;refine gD 55 [55] [] ?_;refine (have F:=tmz;gC cB ?_);refine ZaT ?_;refine gFm 8 ?_;refine gFx 9 ?_;refine gFx 10 ?_;refine gA1 12 ?_;refine (have F:=tmz;gO3 ?_);refine gA1 13 ?_;refine (have F:=tmz;gO3 ?_);refine gFT ?_;refine (have F:=tmz;gT0 ?_)
    exact (have F:=tmz;⟨(),trivial,gw,gw⟩)
   ·refine (have F:=tmz;gO3 ?_);refine gA2 2 6 ?_ ?_
    ·refine (have F:=tmz;gO3 ?_);refine gA1 6 ?_;refine (have F:=aj4 @l1 l4 l5 tmz;gO3 ?_);refine gA1 7 ?_;refine gS 55 fun b2 cap2=>?_;refine gD 55 [55] [] ?_;refine (have F:=tmz;gC cB ?_);refine ZaT ?_;refine gFm 8 ?_;refine gFx 9 ?_;refine gFx 10 ?_;refine gA1 12 ?_;refine (have F:=tmz;gO3 ?_);refine gA1 13 ?_;refine (have F:=tmz;gO3 ?_);refine gFT ?_;refine (have F:=tmz;gT0 ?_);exact (have F:=tmz;⟨(),trivial,gw,gw⟩)
    ·refine (have F:=aj4 @l1 l4 l5 tmz;gO3 ?_);refine gA1 2 ?_;refine (have F:=tmz;gO3 ?_);refine gA1 7 ?_;refine gS 55 fun b2 cap2=>?_;refine gD 55 [55] [] ?_;refine (have F:=tmz;gC cB ?_);refine ZaT ?_;refine gFm 8 ?_;refine gFx 9 ?_;refine gFx 10 ?_;refine gA1 12 ?_;refine (have F:=tmz;gO3 ?_);refine gA1 13 ?_;refine (have F:=tmz;gO3 ?_);refine gFT ?_;refine (have F:=tmz;gT0 ?_);exact (have F:=tmz;⟨(),trivial,gw,gw⟩)
 cases m with
 | none =>
  exact fD (ai @hz @tmz)
 | some c =>
  have cR:=ZlE (mc:=mc) hg (hok c rfl) o.path hT hat hop;simp only [Option.getD_some,Option.isSome_some,Option.bind_some];refine fN 11 @tmz ?_;refine gB ?_;refine fC @tmz (cR) ?_;refine fR @tmz ?_;exact fD @tmz
theorem Zji (h:bulkRow (Zcb o)<=1048576):o.path.length<=1048576∧tmsB o.left∧tmsB o.right:=by
 simp only [Zcb,bulkRow,ZaS,Zae,Tay] at h;unfold tmsB;omega
theorem ZwP (hok:Zcg g) (ht:okTm t) (hb:bulkRow (Zab t)<=1048576) (ho:ZmT o) (hbo:bulkRow (Zcb o)<=1048576):Con e0 159 [.agg (Zas g),.agg (Zab t),.agg (Zcb o)] [.agg (Zab (tkT g t o).1),.one (.lit (.bool (tkT g t o).2))]:=by
 obtain ⟨h1,h2,h3⟩:=Zji hbo;have h2':=h2;unfold tmsB at h2' h3;exact Zp0 hok ht hb h1 om om ho.2.1 ho.2.2.1 h2
section
variable {g:Sgn}
noncomputable def pt6 (g:Sgn) (t:Tm) (o:Occ) (u:Tm):Tm:=if o.left.length+o.right.length=0 then rb6 g t o.path u else match mkT g (ZaP t o.path).1.op (o.left++[u]++o.right) with
 | none=>zTm
 | some c=>rb6 g t o.path c
noncomputable def ptT (g:Sgn) (t:Tm) (o:Occ) (u:Tm):Option Tm:=if o.left.length+o.right.length=0 then rbT g t o.path u else (mkT g (ZaP t o.path).1.op (o.left++[u]++o.right)).bind fun c=>rbT g t o.path c
theorem ZFE {x:Tm} (h:ptT g t o u=some x):pt6 g t o u=x:=by
 unfold ptT at h;unfold pt6;split at h
 ·rename_i hn;rw [if_pos hn];exact Zsb _ h
 ·rename_i hn;rw [if_neg hn]
  cases hm:mkT g (ZaP t o.path).1.op (o.left++[u]++o.right) with
  | none=>rw [hm] at h;cases h
  | some c =>
   rw [hm] at h;exact Zsb _ h
theorem ZwQ (hokg:Zcg g) (hg:SgnOk g) (hT:TermOk g t) (hb:bulkRow (Zab t)<=1048576) (hu:TermOk g u) (hf:(tkIn g t o).2=true) (hop:o.path.length<=1048576) (hol:o.left.length<=1048576) (hor:o.right.length<=1048576):Con e0 235 [.agg (Zas g),.agg (Zab t),.agg (Zcb o),.agg (Zab u)] [.agg (Zab (pt6 g t o u)),.one (.lit (.bool (ptT g t o u).isSome))]:=by
 have hz:=Zc9;have hat:=ZwK hf;have c2:=Zku t o.path hop hb;have hs:=Zjg o.path t hT hat;unfold pt6 ptT;by_cases hn:o.left.length+o.right.length=0
 ·rw [if_pos hn,if_pos hn];have cA:=fun op=>Ztr (g:=g) (op:=op) (u:=u) hn;have cR:=ZiD hokg hg hu o.path hT hat hop;rw [ZcQ] at cA ⊢;rw [Zat] at cR cA ⊢;rw [hat] at c2;refine gI (ts:=[.cell 8 46,.slot 9]) 2147497983 Tryz.func235 ?_;refine fB @tmz ?_;refine fC @tmz (c2) ?_;refine fR @tmz ?_;refine fN 2 @tmz ?_;refine gB ?_;refine fC @tmz (cA _) ?_;refine fR @tmz ?_;refine fN 5 @tmz ?_;refine gB ?_;refine fC @tmz (cR) ?_
  refine fR @tmz ?_;exact fD @tmz
 rw [if_neg hn,if_neg hn];obtain ⟨x,d,hA,hac,hle,hL,hR⟩:=Zky hT hf hn;have hal:=ZfV hs;have hall:∀ a∈o.left++[u]++o.right,TermOk g a:=fun a ha=>by
  simp only [Tbh,Tbj] at ha;rcases ha with (ha | rfl) | ha
  ·exact hL a ha
  ·exact hu
  ·exact hR a ha
 have cM:=ZlD hokg hg hA.lo hA.at' (o.left++[u]++o.right) hall (by simp only [Tae,Tag,Tak];omega);have hok:=fun c=>Zkc hg (t:=c) hA.lo hall;have hof:=fun c=>ZvK (g:=g) (op:=(ZaP t o.path).1.op) (xs:=o.left++[u]++o.right) (t:=c);have cA:=ZwN (g:=g) (op:=(ZaP t o.path).1.op) (o:=o) (u:=u) hn hol hor cM;clear cM;generalize mk6T g (ZaP t o.path).1.op (o.left++[u]++o.right)=q at cA hof;generalize mkT g (ZaP t o.path).1.op (o.left++[u]++o.right)=m at cA hok hof ⊢
 rw [ZcQ] at cA ⊢;rw [Zat] at cA ⊢;rw [hat] at c2;generalize (ZaP t o.path).1=p at c2 cA;refine gI (ts:=[.cell 8 46,.slot 9]) 2147497983 Tryz.func235 ?_;refine fB @tmz ?_;refine fC @tmz (c2) ?_;refine fR @tmz ?_;refine fN 2 @tmz ?_;refine gB ?_;refine fC @tmz (cA) ?_
 cases m with
 | none =>
  refine fR @tmz ?_;exact fD (ai @hz @tmz)
 | some c =>
  have hq:=hof c rfl;subst hq;have cR:=ZiD hokg hg (hok q rfl) o.path hT hat hop;rw [Zat] at cR;simp only [Option.isSome_some,Option.bind_some];refine fR @tmz ?_;refine fN 5 @tmz ?_;refine gB ?_;refine fC @tmz (cR) ?_;refine fR @tmz ?_;exact fD @tmz
theorem ZnF (h:¬ (SgnOk g∧TermOk g t∧TermOk g u∧(tkIn g t o).2=true)):rpT g t o u=none:=by unfold rpT;rw [if_neg h]
theorem ZEY (h:SgnOk g∧TermOk g t∧TermOk g u∧(tkIn g t o).2=true):rpT g t o u=ptT g t o u:=by unfold rpT ptT;rw [if_pos h]
theorem ZCv {x:Tm} (h:rpT g t o u=some x):bulkRow (Zab x)<=1048576:=by
 have h1:=ZAV h;have h2:=Zkn h1.form;have h3:=h1.size;omega
theorem ZwR (hok:Zcg g) (ht:okTm t) (hb:bulkRow (Zab t)<=1048576) (hu:okTm u) (hbu:bulkRow (Zab u)<=1048576) (ho:ZmT o) (hbo:bulkRow (Zcb o)<=1048576):Con e0 162 [.agg (Zas g),.agg (Zab t),.agg (Zcb o),.agg (Zab u)] [.agg (Zab ((rpT g t o u).getD zTm)),.one (.lit (.bool (rpT g t o u).isSome))]:=by
 obtain ⟨hop,h2,h3⟩:=Zji hbo;have h2':=h2;unfold tmsB at h2' h3;have cT:=ZcG hok ht (ZbM hb);have cU:=ZcG hok hu (ZbM hbu);have hz:=Zc9;by_cases hg:SgnOk g;rotate_left
 ·have h1:(Zbl g && ZaQ g t)=false:=by rw [Zeq hg,Bool.false_and]
  rw [ZnF fun h=>hg h.1];rw [ZcQ,Zat];rw [Zat] at cT;refine gI (ts:=[.cell 8 46,.slot 9]) 550024253439 Tryz.func162 ?_;refine fB @tmz ?_;refine fC @tmz (cT) ?_;refine fR (ai @h1 @tmz) ?_;exact fD (aj3 @h1 @tmz @hz)
 rw [ZcH hg,Bool.true_and] at cT cU;by_cases hT:TermOk g t;rotate_left
 ·rw [ZnF fun h=>hT h.2.1];rw [Zc0 hT] at cT;rw [ZcQ,Zat];rw [Zat] at cT;refine gI (ts:=[.cell 8 46,.slot 9]) 550024253439 Tryz.func162 ?_;refine fB @tmz ?_;refine fC @tmz (cT) ?_;refine fR @tmz ?_;exact fD (ai @tmz @hz)
 rw [ZcB hT] at cT;by_cases hU:TermOk g u;rotate_left
 ·rw [ZnF fun h=>hU h.2.2.1];rw [Zc0 hU] at cU;rw [ZcQ,Zat];rw [Zat] at cT cU;refine gI (ts:=[.cell 8 46,.slot 9]) 550024253439 Tryz.func162 ?_;refine fB @tmz ?_;refine fC @tmz (cT) ?_;refine fC @tmz (cU) ?_;refine fR @tmz ?_;exact fD (ai @tmz @hz)
 rw [ZcB hU] at cU;have cF:=ZlC hg hT ht hb hop om om ho.2.1 ho.2.2.1 h2;have cP:=fun hf=>ZwQ hok hg hT hb hU (o:=o) hf hop om om;have hrp:=fun hf=>ZEY (g:=g) (t:=t) (u:=u) (o:=o) ⟨hg,hT,hU,hf⟩;have hrn:=fun hf:¬ _=>ZnF (g:=g) (t:=t) (u:=u) (o:=o) fun h=>hf h.2.2.2;have hrb:=fun x=>ZCv (g:=g) (t:=t) (u:=u) (o:=o) (x:=x);have hof:=fun x=>ZFE (g:=g) (t:=t) (u:=u) (o:=o) (x:=x);rw [ZcQ] at cF cP ⊢;rw [Zat] at cT cU cF cP ⊢
 generalize (tkIn g t o).2=f at cF cP hrp hrn;generalize pt6 g t o u=q at cP hof;generalize ptT g t o u=m at cP hrp hof;generalize rpT g t o u=r at hrp hrn hrb ⊢;refine gI (ts:=[.cell 8 46,.slot 9]) 550024253439 Tryz.func162 ?_;refine fB @tmz ?_;refine fC @tmz (cT) ?_;refine fC @tmz (cU) ?_;refine fC @tmz (cF) ?_
 cases f with
 | false =>
  rw [hrn (by simp)];refine fR @tmz ?_;exact fD (ai @tmz @hz)
 | true =>
 have cP:=cP rfl;have hrp:=hrp rfl;subst hrp;clear hrn;refine fR @tmz ?_;refine fN 3 @tmz ?_;refine gB ?_;refine fC @tmz (cP) ?_
 cases r with
 | none =>
  refine fR @tmz ?_;exact fD (ai @tmz @hz)
 | some x =>
  have hq:=hof x rfl;subst hq;refine fR @tmz ?_;refine fN 6 @tmz ?_;refine gB ?_;refine fC @tmz (ZeY q (hrb q rfl)) ?_;refine fR @tmz ?_;exact fD @tmz
end
theorem ZeA (h:Zaj (Zac .cond) r):∃ (i0:Int) (t1:ByteArray) (i2:Int) (r3:List (List C)) (i4:Int) (t5:ByteArray) (i6:Int) (r7:List (List C)),r=[.lit (.int .i64 i0),.lit (.string t1),.lit (.int .i64 i2),.sl r3,.lit (.int .i64 i4),.lit (.string t5),.lit (.int .i64 i6),.sl r7]∧I64 i0∧t1.size<=maxLen∧I64 i2∧Zai (Zac .term) r3∧I64 i4∧t5.size<=maxLen∧I64 i6∧Zai (Zac .term) r7:=by
 obtain ⟨c0,c1,c2,c3,c4,c5,c6,c7,rfl⟩:=len8 h.len;simp only [Zac,ZbI,occF,Zca,sigF,ZbQ,algF,Taf,Tah,redF,Zaj,and_true] at h;obtain ⟨h0,h1,h2,h3,h4,h5,h6,h7⟩:=h;obtain ⟨i0,rfl,g0⟩:=ZbR h0;obtain ⟨t1,rfl,g1⟩:=Zd1 h1;obtain ⟨i2,rfl,g2⟩:=ZbR h2;obtain ⟨r3,rfl,g3⟩:=ZbD h3;obtain ⟨i4,rfl,g4⟩:=ZbR h4;obtain ⟨t5,rfl,g5⟩:=Zd1 h5;obtain ⟨i6,rfl,g6⟩:=ZbR h6;obtain ⟨r7,rfl,g7⟩:=ZbD h7;exact ⟨i0,t1,i2,r3,i4,t5,i6,r7,rfl,g0,g1,g2,g3,g4,g5,g6,g7⟩
theorem Ze2 (h:Zaj (Zac .eqn) r):∃ (i0:Int) (t1:ByteArray) (i2:Int) (r3:List (List C)) (i4:Int) (t5:ByteArray) (i6:Int) (r7:List (List C)) (r8:List (List C)),r=[.lit (.int .i64 i0),.lit (.string t1),.lit (.int .i64 i2),.sl r3,.lit (.int .i64 i4),.lit (.string t5),.lit (.int .i64 i6),.sl r7,.sl r8]∧I64 i0∧t1.size<=maxLen∧I64 i2∧Zai (Zac .term) r3∧I64 i4∧t5.size<=maxLen∧I64 i6∧Zai (Zac .term) r7∧Zai (Zac .cond) r8:=by
 obtain ⟨c0,c1,c2,c3,c4,c5,c6,c7,c8,rfl⟩:=len9 h.len;simp only [Zac,ZbI,occF,Zca,sigF,ZbQ,algF,Taf,Tah,redF,Zaj,and_true] at h;obtain ⟨h0,h1,h2,h3,h4,h5,h6,h7,h8⟩:=h;obtain ⟨i0,rfl,g0⟩:=ZbR h0;obtain ⟨t1,rfl,g1⟩:=Zd1 h1;obtain ⟨i2,rfl,g2⟩:=ZbR h2;obtain ⟨r3,rfl,g3⟩:=ZbD h3;obtain ⟨i4,rfl,g4⟩:=ZbR h4;obtain ⟨t5,rfl,g5⟩:=Zd1 h5;obtain ⟨i6,rfl,g6⟩:=ZbR h6;obtain ⟨r7,rfl,g7⟩:=ZbD h7;obtain ⟨r8,rfl,g8⟩:=ZbD h8
 exact ⟨i0,t1,i2,r3,i4,t5,i6,r7,r8,rfl,g0,g1,g2,g3,g4,g5,g6,g7,g8⟩
theorem ZfK (h:Zaj (ZbQ) r):∃ (r0:List (List C)) (r1:List (List C)) (r2:List (List C)) (r3:List (List C)) (r4:List (List C)),r=[.sl r0,.sl r1,.sl r2,.sl r3,.sl r4]∧Zai (Zac .str) r0∧Zai (Zac .sub) r1∧Zai (Zac .op) r2∧Zai (Zac .eqn) r3∧Zai (Zac .eqn) r4:=by
 obtain ⟨c0,c1,c2,c3,c4,rfl⟩:=len5 h.len;simp only [Zac,ZbI,occF,Zca,sigF,ZbQ,algF,Taf,Tah,redF,Zaj,and_true] at h;obtain ⟨h0,h1,h2,h3,h4⟩:=h;obtain ⟨r0,rfl,g0⟩:=ZbD h0;obtain ⟨r1,rfl,g1⟩:=ZbD h1;obtain ⟨r2,rfl,g2⟩:=ZbD h2;obtain ⟨r3,rfl,g3⟩:=ZbD h3;obtain ⟨r4,rfl,g4⟩:=ZbD h4;exact ⟨r0,r1,r2,r3,r4,rfl,g0,g1,g2,g3,g4⟩
theorem Zam.app {w:World} {S S1 S2:Nat->Prop} {ds:List C} {vs:List Value} (h2:Zam w ds S2 vs) (i2:∀ x,S2 x->S x):∀ {cs:List C} {us:List Value} {S1:Nat->Prop},Zam w cs S1 us->(∀ x,S1 x->S x)->(∀ x,S1 x->S2 x->False)->Zam w (cs++ds) S (us++vs)
 | [],[],_,_,_,_=>Zam.keep (Tai _) ds S2 S vs (fun _ _=>rfl) i2 h2
 | c::cs,u::us,T,h,i1,hd=>by
  simp only [Zam] at h;obtain ⟨T1,T2,a1,a2,a3,a4,a5⟩:=h;have h3:Zam w (cs++ds) (fun x=>T2 x∨S2 x) (us++vs):=Zam.app (S:=fun x=>T2 x∨S2 x) (S1:=T2) h2 (fun _ h=>.inr h) a5 (fun _ h=>.inl h) fun x hx=>hd x (a2 x hx);exact Zam.cons T1 (fun x=>T2 x∨S2 x) a4 h3 (fun x hx=>i1 x (a1 x hx)) (fun x hx=>hx.elim (fun q=>i1 x (a2 x q)) (i2 x)) fun x hx hy=>hy.elim (a3 x hx) (hd x (a1 x hx))
 | [],_::_,_,h,_,_=>by simp [Zam] at h
 | _::_,[],_,h,_,_=>by simp [Zam] at h
theorem Zam.lits {w:World}:∀ {us:List Value},Zam w (Za5 us) (fun _=>False) us
 | []=>Zam.nil
 | u::us=>Zam.lit Zam.lits
theorem ZE2 {α:Type} (A:List α) (z x:α) (k:Nat) (i:Nat) (hi:i=A.length):(A++List.replicate (k+1) z).set i x=(A++[x])++List.replicate k z:=by
 subst hi;rw [List.set_append_right _ _ (Tai _),Nat.sub_self,List.replicate_succ,List.set_cons_zero,Tbf];rfl
theorem tks {α:Type} {l:List α} {i:Nat} {x:α} (h:l[i]?=some x):l.take (i+1)=l.take i++[x]:=by simp [List.take_add_one,h]
theorem tk0 (l:List (List C)):l.take 0=[]:=rfl
theorem nla (l:List (List C)):[]++l=l:=rfl
theorem ZcK {i:Nat} {z:List C} (hr:rows[i]?=some r):(rows.take i++List.replicate (rows.length - i) z).length=rows.length∧(rows.take i++List.replicate (rows.length - i) z).set i r=rows.take (i+1)++List.replicate (rows.length - (i+1)) z∧(rows.take i++List.replicate (rows.length - i) z)[i]?=some z:=by
 have hi:=(Tad.1 hr).1;obtain ⟨k,hk⟩:∃ k,rows.length - i=k+1:=⟨rows.length - i - 1,om⟩;have hk2:rows.length - (i+1)=k:=om;rw [hk,hk2];refine ⟨by simp;omega,?_,?_⟩
 ·rw [ZE2 _ _ _ _ _ (by simp;omega),tks hr]
 ·rw [Tbq (by simp;omega),Tbr,if_pos (by simp;omega)]
theorem Zb9 {e:Env} {f:FuncId} {post r:List D} (hb:Zcs e.P f=true) (h:rows.length<=maxLen->Con e f (.one (.sl rows)::post) r):Con e f (.one (.sl rows)::post) r:=⟨hb,fun w S vs hS hE hG hv=>by
 match vs,hv with
 | v::vs,⟨h1,h2⟩ =>
  have h1':Rep w S (.sl rows) v:=h1;obtain ⟨A,n,cap,rfl,hn,hc,hm⟩:=h1'.form;exact (h om).2 w S _ hS hE hG ⟨h1,h2⟩⟩
theorem ZdW:bulkRows []=0:=by simp [bulkRows]
def Zqy:F->Bool
 | .int=>true
 | .bool=>true
 | _=>false
theorem ZFO {fs:List F}:∀ {r:List C},fs.all Zqy=true->Zaj fs r->bulkRow r=0:=by
 induction fs with
 | nil=>intro r _ h;cases r with
  | nil=>simp [bulkRow]
  | cons _ _=>simp [Zaj] at h
 | cons f fs ih =>
  intro r hf h
  cases r with
  | nil=>simp [Zaj] at h
  | cons c cs =>
   simp only [Zaj] at h;simp only [List.all_cons,Tar] at hf;have h2:=ih hf.2 h.2
   cases f with
   | int=>obtain ⟨n,rfl,_⟩:=ZbR h.1;simp [bulkRow,ZaS,h2]
   | bool=>obtain ⟨n,rfl⟩:=ZlL h.1;simp [bulkRow,ZaS,h2]
   | str=>simp [Zqy] at hf
   | sl t=>simp [Zqy] at hf
theorem Zw2 {fs:List F} (hf:fs.all Zqy=true):∀ {rows:List (List C)},Zai fs rows->bulkRows rows=0
 | [],_=>ZdW
 | r::rs,h=>by
  simp only [Zai] at h;simp [bulkRows,ZFO hf h.1,Zw2 hf h.2]
theorem ZjA (hok:Zaj (Zac .term) row) (HTerm:∀ (rows:List (List C)),Za6 rows < ZaC row->Zai (Zac .term) rows->∀ {left:Int},0<=left->left<=1048576->Con e0 49 [.one (.sl rows),.one (.lit (.int .i64 left))] [.one (.lit (.int .i64 (sub left (rows.length+bulkRows rows))))]) (h0:0<=left) (h1:left<=1048576):Con e0 9 [.agg row,.one (.lit (.int .i64 left))] [.one (.lit (.int .i64 (sub left (bulkRow row))))]:=by
 obtain ⟨i0,t1,i2,r3,rfl,g0,g1,g2,g3⟩:=ZgN hok;rw [show bulkRow [.lit (.int .i64 i0),.lit (.string t1),.lit (.int .i64 i2),.sl r3]=t1.size+(r3.length+bulkRows r3) by simp only [bulkRow,ZaS];omega];refine gI 133143 Tryz.func9 ?_;have hs:=g1;unfold maxLen at hs;have w:IntKind.i64.wrap (left - (t1.size:Int))=left - (t1.size:Int):=IntWalk.i64_in _ om;clear hs;by_cases q:left < (t1.size:Int)
 ·rw [Zar om];have q':(left - (t1.size:Int) < 0)=True:=eq_true om;exact fT (ai @w @q')
 have q':(left - (t1.size:Int) < 0)=False:=eq_false om;refine fG (ai @w @q') ?_;obtain ⟨L0,e0⟩:∃ x,x=left - (t1.size:Int):=⟨_,rfl⟩;rw [<- e0];clear w q';refine fB @e0P ?_;refine fC @e0P (HTerm r3 (by simp only [ZaC,Zcz];omega) g3 (left:=L0) om om) ?_;refine fR @e0P ?_;by_cases q:L0 < (((r3.length+bulkRows r3):Nat):Int)
 ·rw [Zar (b:=(r3.length+bulkRows r3)) q]
  try rw [Zar om]
  have q':=lT (-1) 0;exact fT @q'
 rw [ZaA (b:=(r3.length+bulkRows r3)) om];have q':(L0 - (((r3.length+bulkRows r3):Nat):Int) < 0)=False:=eq_false om;refine fG @q' ?_;obtain ⟨L1,e1⟩:∃ x,x=L0 - (((r3.length+bulkRows r3):Nat):Int):=⟨_,rfl⟩;rw [<- e1];clear q'
 try rw [ZaA om,show left - ((t1.size+(r3.length+bulkRows r3):Nat):Int)=L1 by omega]
 exact fT @e0P
theorem ZjB (hok:Zaj (Zac .term) row) (HTerm:∀ (rows:List (List C)),Za6 rows < ZaC row->Zai (Zac .term) rows->Con e0 36 [.one (.sl rows),.one (.sl rows)] [.one (.lit (.bool true))]):Con e0 17 [.agg row,.agg row] [.one (.lit (.bool true))]:=by
 obtain ⟨i0,t1,i2,r3,rfl,g0,g1,g2,g3⟩:=ZgN hok;refine gI 34095647 Tryz.func17 ?_;refine fB (@beq_self_eq_true.{0}) ?_;refine fC @e0P (HTerm r3 (by simp only [ZaC,Zcz];omega) g3) ?_;refine fR @e0P ?_;exact fT (@beq_self_eq_true.{0})
theorem ZjC (hok:Zaj (Zac .term) row) (HTerm:∀ (rows:List (List C)),Za6 rows < ZaC row->Zai (Zac .term) rows->rows.length+bulkRows rows<=1048576->Con e0 55 [.one (.sl rows)] [.one (.sl rows)]) (hb:bulkRow row<=1048576):Con e0 13 [.agg row] [.agg row]:=by
 obtain ⟨i0,t1,i2,r3,rfl,g0,g1,g2,g3⟩:=ZgN hok;simp only [bulkRow,ZaS] at hb;refine gI (ts:=[.cell 2 46]) 15 Tryz.func13 ?_;refine fB @e0P ?_;refine fC @e0P (HTerm r3 (by simp only [ZaC,Zcz];omega) g3 om) ?_;refine fR @e0P ?_;exact fD @e0P
theorem Zot (hok:Zai (Zac .term) rows) (h:∀ (i:Nat) r,rows[i]?=some r->∀ {left:Int},0<=left->left<=1048576->Con e0 9 [.agg r,.one (.lit (.int .i64 left))] [.one (.lit (.int .i64 (sub left (bulkRow r))))]) (h0:0<=left) (h1:left<=1048576):Con e0 49 [.one (.sl rows),.one (.lit (.int .i64 left))] [.one (.lit (.int .i64 (sub left (rows.length+bulkRows rows))))]:=by
 refine Zb9 (by kernel_rfl) fun hm=>?_;unfold maxLen at hm;have w:IntKind.i64.wrap (left - (rows.length:Int))=left - (rows.length:Int):=IntWalk.i64_in _ om;have hrb:Zav 4 rows=true:=ZaO.2 hok.rowsLen;refine gI 33589299 Tryz.func49 ?_;by_cases q:left < (rows.length:Int)
 ·rw [Zar om];have q':(left - (rows.length:Int) < 0)=True:=eq_true om;exact fT (ai @w @q')
 have q':(left - (rows.length:Int) < 0)=False:=eq_false om;refine fG (ai @w @q') ?_;have F:=aj4 @tk0 @ZdW @Int.natCast_zero @Int.sub_zero;refine gL (ι:=Nat) [1,4,5,15,25] [] (fun x=>[(5,.d (.one (.lit (.int .i64 (x:Int))))),(1,.d (.one (.lit (.int .i64 (left - (rows.length:Int) - (bulkRows (rows.take x):Int))))))]) (fun x=>[]) (fun x=>x<=rows.length∧0<=left - (rows.length:Int) - (bulkRows (rows.take x):Int)) (fun x=>rows.length - x) (0) (⟨Taj _,by simp [bulkRows];omega⟩) (fun x hx=>?_);clear F
 obtain ⟨hx,hl⟩:=hx;by_cases hlt:x < rows.length
 ·obtain ⟨r,hr⟩:∃ r,rows[x]?=some r:=⟨_,Taa hlt⟩;have hq:=hok.get hr;obtain ⟨ln,tk,dr⟩:=hq.take (n:=4) rfl;have okc:=hq.cells;have q1:=lT x rows.length;have wi:=Zan (k:=x) om;have hbt:=Zdo hr;have hbl:=Zcy rows (x+1)
  skip
  have fe:=aj10 hr hlt Zal hrb q1 okc ln tk dr (@Za3 C);obtain ⟨l,hle⟩:∃ l,l=left - (rows.length:Int) - (bulkRows (rows.take x):Int):=⟨_,rfl⟩;rw [<- hle];refine fB @fe ?_;refine fC @fe (h x _ hr (left:=l) om om) ?_;refine fR @fe ?_;by_cases q:l < ((bulkRow r:Nat):Int)
  ·rw [Zar (b:=bulkRow r) q,Zar om];have q':=lT (-1) 0;exact fT @q'
  rw [ZaA (b:=bulkRow r) om];have q':(l - ((bulkRow r:Nat):Int) < 0)=False:=eq_false om;have e:left - (rows.length:Int) - (bulkRows (rows.take (x+1)):Int)=l - ((bulkRow r:Nat):Int):=om;have F:=aj3 @q' @wi @e;refine gG ?_;exact ⟨x+1,⟨hlt,om⟩,gw,gw,om⟩
 ·obtain rfl:x=rows.length:=by omega
  have q1:=lF rows.length rows.length;rw [Tap] at hl ⊢;rw [ZaA om,show left - ((rows.length+bulkRows rows:Nat):Int)=left - (rows.length:Int) - (bulkRows rows:Int) by omega];exact fT @q1
theorem Zou (hok:Zai (Zac .term) rows) (h:∀ (i:Nat) r,rows[i]?=some r->Con e0 17 [.agg r,.agg r] [.one (.lit (.bool true))]):Con e0 36 [.one (.sl rows),.one (.sl rows)] [.one (.lit (.bool true))]:=by
 refine Zb9 (by kernel_rfl) fun hm=>?_;unfold maxLen at hm;have hrb:Zav 4 rows=true:=ZaO.2 hok.rowsLen;refine gI 67126323 Tryz.func36 ?_;refine fG (@beq_self_eq_true.{0}) ?_;have F:=@e0P;refine gL (ι:=Nat) [4,5,14,26] [] (fun x=>[(5,.d (.one (.lit (.int .i64 (x:Int)))))]) (fun x=>[]) (fun x=>x<=rows.length) (fun x=>rows.length - x) (0) (Taj _) (fun x hx=>?_);clear F;by_cases hlt:x < rows.length
 ·obtain ⟨r,hr⟩:∃ r,rows[x]?=some r:=⟨_,Taa hlt⟩;have hq:=hok.get hr;obtain ⟨ln,tk,dr⟩:=hq.take (n:=4) rfl;have okc:=hq.cells;have q1:=lT x rows.length;have wi:=Zan (k:=x) om;have fe:=aj10 hr hlt Zal hrb q1 okc ln tk dr (@Za3 C);refine fB @fe ?_;refine fC @fe (h x _ hr) ?_;refine fR @fe ?_;have F:=@wi;refine gG ?_;exact ⟨x+1,hlt,gw,gw,om⟩
 ·obtain rfl:x=rows.length:=by omega
  have q1:=lF rows.length rows.length;exact fT @q1
theorem Zov (hok:Zai (Zac .term) rows) (h:∀ (i:Nat) r,rows[i]?=some r->bulkRow r<=1048576->Con e0 13 [.agg r] [.agg r]) (hb:rows.length+bulkRows rows<=1048576):Con e0 55 [.one (.sl rows)] [.one (.sl rows)]:=by
 have hrb:Zav 4 rows=true:=ZaO.2 hok.rowsLen;have hmx:((rows.length:Int)<=(maxApp:Int))=True:=eq_true (by unfold maxApp;omega);refine gI (ts:=[.slot 2]) 2077 Tryz.func55 ?_;refine fG (ai @hmx @Tbx) ?_;have F:=aj3 @nla @Nat.sub_zero @tk0;refine gL (ι:=Nat) [3,4,11] [3] (fun x=>[(4,.d (.one (.lit (.int .i64 (x:Int))))),(3,.buf 3)]) (fun x=>[(3,.buf none 46 4 (rows.take x++List.replicate (rows.length - x) [C.lit (.int .i64 0),C.lit (.string .empty),C.lit (.int .i64 0),C.sl []]))]) (fun x=>x<=rows.length) (fun x=>rows.length - x) (0) (Taj _) (fun x hx=>?_);clear F
 by_cases hlt:x < rows.length
 ·obtain ⟨r,hr⟩:∃ r,rows[x]?=some r:=⟨_,Taa hlt⟩;have hq:=hok.get hr;obtain ⟨ln,tk,dr⟩:=hq.take (n:=4) rfl;have okc:=hq.cells;have q1:=lT x rows.length;have wi:=Zan (k:=x) om;obtain ⟨bl,bs,bg⟩:=ZcK (z:=[C.lit (.int .i64 0),C.lit (.string .empty),C.lit (.int .i64 0),C.sl []]) hr;generalize rows.take x++List.replicate (rows.length - x) [C.lit (.int .i64 0),C.lit (.string .empty),C.lit (.int .i64 0),C.sl []]=R at bl bs bg ⊢
  have hbr:=Zck hr;have fe:=aj13 bg bl bs hr hlt Zal hrb q1 okc ln tk dr (@Za3 C);refine fB @fe ?_;refine fC @fe (h x _ hr om) ?_;refine fR @fe ?_;have F:=ai @wi @bs;refine gG ?_;exact ⟨x+1,hlt,gw,gw,om⟩
 ·obtain rfl:x=rows.length:=by omega
  have q1:=lF rows.length rows.length;rw [Nat.sub_self,List.replicate_zero,List.append_nil,Tap];have F:=@q1;refine gG ?_;exact gTz [2]
theorem ZnL (n:Nat):(∀ rows,Za6 rows < n->Zai (Zac .term) rows->∀ {left:Int},0<=left->left<=1048576->Con e0 49 [.one (.sl rows),.one (.lit (.int .i64 left))] [.one (.lit (.int .i64 (sub left (rows.length+bulkRows rows))))]):=by
 induction n with
 | zero=>exact fun rows h=>absurd h om
 | succ n ih =>
  exact fun rows hn hok {left} h0 h1=>Zot hok (fun i r hr left h0 h1=>ZjA (hok.get hr) (fun rows2 h2 ok2=>ih rows2 (by have:=ZbZ hr;omega) ok2) h0 h1) h0 h1
theorem ZlI (hok:Zai (Zac .term) rows) (h0:0<=left) (h1:left<=1048576):Con e0 49 [.one (.sl rows),.one (.lit (.int .i64 left))] [.one (.lit (.int .i64 (sub left (rows.length+bulkRows rows))))]:=(ZnL _) rows (Tan _) hok h0 h1
theorem ZdQ (hok:Zaj (Zac .term) row) (h0:0<=left) (h1:left<=1048576):Con e0 9 [.agg row,.one (.lit (.int .i64 left))] [.one (.lit (.int .i64 (sub left (bulkRow row))))]:=ZjA hok (fun rows _ ok=>(ZnL _) rows (Tan _) ok) h0 h1
theorem ZnM (n:Nat):(∀ rows,Za6 rows < n->Zai (Zac .term) rows->Con e0 36 [.one (.sl rows),.one (.sl rows)] [.one (.lit (.bool true))]):=by
 induction n with
 | zero=>exact fun rows h=>absurd h om
 | succ n ih =>
  exact fun rows hn hok=>Zou hok (fun i r hr=>ZjB (hok.get hr) (fun rows2 h2 ok2=>ih rows2 (by have:=ZbZ hr;omega) ok2))
theorem ZlJ (hok:Zai (Zac .term) rows):Con e0 36 [.one (.sl rows),.one (.sl rows)] [.one (.lit (.bool true))]:=(ZnM _) rows (Tan _) hok
theorem ZdR (hok:Zaj (Zac .term) row):Con e0 17 [.agg row,.agg row] [.one (.lit (.bool true))]:=ZjB hok (fun rows _ ok=>(ZnM _) rows (Tan _) ok)
theorem ZnN (n:Nat):(∀ rows,Za6 rows < n->Zai (Zac .term) rows->rows.length+bulkRows rows<=1048576->Con e0 55 [.one (.sl rows)] [.one (.sl rows)]):=by
 induction n with
 | zero=>exact fun rows h=>absurd h om
 | succ n ih =>
  exact fun rows hn hok hb=>Zov hok (fun i r hr hb=>ZjC (hok.get hr) (fun rows2 h2 ok2=>ih rows2 (by have:=ZbZ hr;omega) ok2) hb) hb
theorem ZlK (hok:Zai (Zac .term) rows) (hb:rows.length+bulkRows rows<=1048576):Con e0 55 [.one (.sl rows)] [.one (.sl rows)]:=(ZnN _) rows (Tan _) hok hb
theorem ZdS (hok:Zaj (Zac .term) row) (hb:bulkRow row<=1048576):Con e0 13 [.agg row] [.agg row]:=ZjC hok (fun rows _ ok=>(ZnN _) rows (Tan _) ok) hb
theorem ZnO (hok:Zaj (Zac .cond) row) (h0:0<=left) (h1:left<=1048576):Con e0 136 [.agg row,.one (.lit (.int .i64 left))] [.one (.lit (.int .i64 (sub left (bulkRow row))))]:=by
 obtain ⟨i0,t1,i2,r3,i4,t5,i6,r7,rfl,g0,g1,g2,g3,g4,g5,g6,g7⟩:=ZeA hok;rw [show bulkRow [.lit (.int .i64 i0),.lit (.string t1),.lit (.int .i64 i2),.sl r3,.lit (.int .i64 i4),.lit (.string t5),.lit (.int .i64 i6),.sl r7]=bulkRow [.lit (.int .i64 i0),.lit (.string t1),.lit (.int .i64 i2),.sl r3]+bulkRow [.lit (.int .i64 i4),.lit (.string t5),.lit (.int .i64 i6),.sl r7] by simp only [bulkRow,ZaS];omega]
 refine gI 66583 Tryz.func136 ?_;refine fB @e0P ?_;refine fC @e0P (ZdQ (Zbd g0 g1 g2 g3) (left:=left) om om) ?_;refine fR @e0P ?_;by_cases q:left < ((bulkRow [.lit (.int .i64 i0),.lit (.string t1),.lit (.int .i64 i2),.sl r3]:Nat):Int)
 ·rw [Zar (b:=bulkRow [.lit (.int .i64 i0),.lit (.string t1),.lit (.int .i64 i2),.sl r3]) q]
  try rw [Zar om]
  have q':=lT (-1) 0;exact fT @q'
 rw [ZaA (b:=bulkRow [.lit (.int .i64 i0),.lit (.string t1),.lit (.int .i64 i2),.sl r3]) om];have q':(left - ((bulkRow [.lit (.int .i64 i0),.lit (.string t1),.lit (.int .i64 i2),.sl r3]:Nat):Int) < 0)=False:=eq_false om;refine fG @q' ?_;obtain ⟨L0,e0⟩:∃ x,x=left - ((bulkRow [.lit (.int .i64 i0),.lit (.string t1),.lit (.int .i64 i2),.sl r3]:Nat):Int):=⟨_,rfl⟩;rw [<- e0];clear q';refine fB @e0P ?_;refine fC @e0P (ZdQ (Zbd g4 g5 g6 g7) (left:=L0) om om) ?_
 refine fR @e0P ?_;by_cases q:L0 < ((bulkRow [.lit (.int .i64 i4),.lit (.string t5),.lit (.int .i64 i6),.sl r7]:Nat):Int)
 ·rw [Zar (b:=bulkRow [.lit (.int .i64 i4),.lit (.string t5),.lit (.int .i64 i6),.sl r7]) q]
  try rw [Zar om]
  have q':=lT (-1) 0;exact fT @q'
 rw [ZaA (b:=bulkRow [.lit (.int .i64 i4),.lit (.string t5),.lit (.int .i64 i6),.sl r7]) om];have q':(L0 - ((bulkRow [.lit (.int .i64 i4),.lit (.string t5),.lit (.int .i64 i6),.sl r7]:Nat):Int) < 0)=False:=eq_false om;refine fG @q' ?_;obtain ⟨L1,e1⟩:∃ x,x=L0 - ((bulkRow [.lit (.int .i64 i4),.lit (.string t5),.lit (.int .i64 i6),.sl r7]:Nat):Int):=⟨_,rfl⟩;rw [<- e1];clear q'
 try rw [ZaA om,show left - ((bulkRow [.lit (.int .i64 i0),.lit (.string t1),.lit (.int .i64 i2),.sl r3]+bulkRow [.lit (.int .i64 i4),.lit (.string t5),.lit (.int .i64 i6),.sl r7]:Nat):Int)=L1 by omega]
 exact fT @e0P
theorem ZnP (hok:Zaj (Zac .cond) row):Con e0 150 [.agg row,.agg row] [.one (.lit (.bool true))]:=by
 obtain ⟨i0,t1,i2,r3,i4,t5,i6,r7,rfl,g0,g1,g2,g3,g4,g5,g6,g7⟩:=ZeA hok;refine gI 66591 Tryz.func150 ?_;refine fB (@beq_self_eq_true.{0}) ?_;refine fC @e0P (ZdR (Zbd g0 g1 g2 g3)) ?_;refine fR @e0P ?_;refine fB (@beq_self_eq_true.{0}) ?_;refine fC @e0P (ZdR (Zbd g4 g5 g6 g7)) ?_;refine fR @e0P ?_;exact fT (@beq_self_eq_true.{0})
theorem ZnQ (hok:Zaj (Zac .cond) row) (hb:bulkRow row<=1048576):Con e0 144 [.agg row] [.agg row]:=by
 obtain ⟨i0,t1,i2,r3,i4,t5,i6,r7,rfl,g0,g1,g2,g3,g4,g5,g6,g7⟩:=ZeA hok;simp only [bulkRow,ZaS] at hb;refine gI (ts:=[.cell 2 196]) 15 Tryz.func144 ?_;refine fB @e0P ?_;refine fC @e0P (ZdS (Zbd g0 g1 g2 g3) (by simp only [bulkRow,ZaS];omega)) ?_;refine fR @e0P ?_;refine fB @e0P ?_;refine fC @e0P (ZdS (Zbd g4 g5 g6 g7) (by simp only [bulkRow,ZaS];omega)) ?_;refine fR @e0P ?_;exact fD @e0P
theorem Zmo (hok:Zai (Zac .cond) rows) (h0:0<=left) (h1:left<=1048576):Con e0 63 [.one (.sl rows),.one (.lit (.int .i64 left))] [.one (.lit (.int .i64 (sub left (rows.length+bulkRows rows))))]:=by
 refine Zb9 (by kernel_rfl) fun hm=>?_;unfold maxLen at hm;have w:IntKind.i64.wrap (left - (rows.length:Int))=left - (rows.length:Int):=IntWalk.i64_in _ om;have hrb:Zav 8 rows=true:=ZaO.2 hok.rowsLen;refine gI 33589299 Tryz.func63 ?_;by_cases q:left < (rows.length:Int)
 ·rw [Zar om];have q':(left - (rows.length:Int) < 0)=True:=eq_true om;exact fT (ai @w @q')
 have q':(left - (rows.length:Int) < 0)=False:=eq_false om;refine fG (ai @w @q') ?_;have F:=aj4 @tk0 @ZdW @Int.natCast_zero @Int.sub_zero;refine gL (ι:=Nat) [1,4,5,15,25] [] (fun x=>[(5,.d (.one (.lit (.int .i64 (x:Int))))),(1,.d (.one (.lit (.int .i64 (left - (rows.length:Int) - (bulkRows (rows.take x):Int))))))]) (fun x=>[]) (fun x=>x<=rows.length∧0<=left - (rows.length:Int) - (bulkRows (rows.take x):Int)) (fun x=>rows.length - x) (0) (⟨Taj _,by simp [bulkRows];omega⟩) (fun x hx=>?_);clear F
 obtain ⟨hx,hl⟩:=hx;by_cases hlt:x < rows.length
 ·obtain ⟨r,hr⟩:∃ r,rows[x]?=some r:=⟨_,Taa hlt⟩;have hq:=hok.get hr;obtain ⟨ln,tk,dr⟩:=hq.take (n:=8) rfl;have okc:=hq.cells;have q1:=lT x rows.length;have wi:=Zan (k:=x) om;have hbt:=Zdo hr;have hbl:=Zcy rows (x+1)
  skip
  have fe:=aj10 hr hlt Zal hrb q1 okc ln tk dr (@Za3 C);obtain ⟨l,hle⟩:∃ l,l=left - (rows.length:Int) - (bulkRows (rows.take x):Int):=⟨_,rfl⟩;rw [<- hle];refine fB @fe ?_;refine fC @fe (ZnO hq (left:=l) om om) ?_;refine fR @fe ?_;by_cases q:l < ((bulkRow r:Nat):Int)
  ·rw [Zar (b:=bulkRow r) q,Zar om];have q':=lT (-1) 0;exact fT @q'
  rw [ZaA (b:=bulkRow r) om];have q':(l - ((bulkRow r:Nat):Int) < 0)=False:=eq_false om;have e:left - (rows.length:Int) - (bulkRows (rows.take (x+1)):Int)=l - ((bulkRow r:Nat):Int):=om;have F:=aj3 @q' @wi @e;refine gG ?_;exact ⟨x+1,⟨hlt,om⟩,gw,gw,om⟩
 ·obtain rfl:x=rows.length:=by omega
  have q1:=lF rows.length rows.length;rw [Tap] at hl ⊢;rw [ZaA om,show left - ((rows.length+bulkRows rows:Nat):Int)=left - (rows.length:Int) - (bulkRows rows:Int) by omega];exact fT @q1
theorem Zmp (hok:Zai (Zac .cond) rows):Con e0 73 [.one (.sl rows),.one (.sl rows)] [.one (.lit (.bool true))]:=by
 refine Zb9 (by kernel_rfl) fun hm=>?_;unfold maxLen at hm;have hrb:Zav 8 rows=true:=ZaO.2 hok.rowsLen;refine gI 67126323 Tryz.func73 ?_;refine fG (@beq_self_eq_true.{0}) ?_;have F:=@e0P;refine gL (ι:=Nat) [4,5,14,26] [] (fun x=>[(5,.d (.one (.lit (.int .i64 (x:Int)))))]) (fun x=>[]) (fun x=>x<=rows.length) (fun x=>rows.length - x) (0) (Taj _) (fun x hx=>?_);clear F;by_cases hlt:x < rows.length
 ·obtain ⟨r,hr⟩:∃ r,rows[x]?=some r:=⟨_,Taa hlt⟩;have hq:=hok.get hr;obtain ⟨ln,tk,dr⟩:=hq.take (n:=8) rfl;have okc:=hq.cells;have q1:=lT x rows.length;have wi:=Zan (k:=x) om;have fe:=aj10 hr hlt Zal hrb q1 okc ln tk dr (@Za3 C);refine fB @fe ?_;refine fC @fe (ZnP hq) ?_;refine fR @fe ?_;have F:=@wi;refine gG ?_;exact ⟨x+1,hlt,gw,gw,om⟩
 ·obtain rfl:x=rows.length:=by omega
  have q1:=lF rows.length rows.length;exact fT @q1
theorem Zmq (hok:Zai (Zac .cond) rows) (hb:rows.length+bulkRows rows<=1048576):Con e0 68 [.one (.sl rows)] [.one (.sl rows)]:=by
 have hrb:Zav 8 rows=true:=ZaO.2 hok.rowsLen;have hmx:((rows.length:Int)<=(maxApp:Int))=True:=eq_true (by unfold maxApp;omega);refine gI (ts:=[.slot 2]) 2077 Tryz.func68 ?_;refine fG (ai @hmx @Tbx) ?_;have F:=aj3 @nla @Nat.sub_zero @tk0;refine gL (ι:=Nat) [3,4,11] [3] (fun x=>[(4,.d (.one (.lit (.int .i64 (x:Int))))),(3,.buf 3)]) (fun x=>[(3,.buf none 196 8 (rows.take x++List.replicate (rows.length - x) [C.lit (.int .i64 0),C.lit (.string .empty),C.lit (.int .i64 0),C.sl [],C.lit (.int .i64 0),C.lit (.string .empty),C.lit (.int .i64 0),C.sl []]))]) (fun x=>x<=rows.length) (fun x=>rows.length - x) (0) (Taj _) (fun x hx=>?_);clear F
 by_cases hlt:x < rows.length
 ·obtain ⟨r,hr⟩:∃ r,rows[x]?=some r:=⟨_,Taa hlt⟩;have hq:=hok.get hr;obtain ⟨ln,tk,dr⟩:=hq.take (n:=8) rfl;have okc:=hq.cells;have q1:=lT x rows.length;have wi:=Zan (k:=x) om;obtain ⟨bl,bs,bg⟩:=ZcK (z:=[C.lit (.int .i64 0),C.lit (.string .empty),C.lit (.int .i64 0),C.sl [],C.lit (.int .i64 0),C.lit (.string .empty),C.lit (.int .i64 0),C.sl []]) hr;generalize rows.take x++List.replicate (rows.length - x) [C.lit (.int .i64 0),C.lit (.string .empty),C.lit (.int .i64 0),C.sl [],C.lit (.int .i64 0),C.lit (.string .empty),C.lit (.int .i64 0),C.sl []]=R at bl bs bg ⊢
  have hbr:=Zck hr;have fe:=aj13 bg bl bs hr hlt Zal hrb q1 okc ln tk dr (@Za3 C);refine fB @fe ?_;refine fC @fe (ZnQ hq om) ?_;refine fR @fe ?_;have F:=ai @wi @bs;refine gG ?_;exact ⟨x+1,hlt,gw,gw,om⟩
 ·obtain rfl:x=rows.length:=by omega
  have q1:=lF rows.length rows.length;rw [Nat.sub_self,List.replicate_zero,List.append_nil,Tap];have F:=@q1;refine gG ?_;exact gTz [2]
theorem Zow (hok:Zaj (Zac .eqn) row) (h0:0<=left) (h1:left<=1048576):Con e0 18 [.agg row,.one (.lit (.int .i64 left))] [.one (.lit (.int .i64 (sub left (bulkRow row))))]:=by
 obtain ⟨i0,t1,i2,r3,i4,t5,i6,r7,r8,rfl,g0,g1,g2,g3,g4,g5,g6,g7,g8⟩:=Ze2 hok;rw [show bulkRow [.lit (.int .i64 i0),.lit (.string t1),.lit (.int .i64 i2),.sl r3,.lit (.int .i64 i4),.lit (.string t5),.lit (.int .i64 i6),.sl r7,.sl r8]=bulkRow [.lit (.int .i64 i0),.lit (.string t1),.lit (.int .i64 i2),.sl r3]+bulkRow [.lit (.int .i64 i4),.lit (.string t5),.lit (.int .i64 i6),.sl r7]+(r8.length+bulkRows r8) by simp only [bulkRow,ZaS];omega]
 refine gI 4260887 Tryz.func18 ?_;refine fB @e0P ?_;refine fC @e0P (ZdQ (Zbd g0 g1 g2 g3) (left:=left) om om) ?_;refine fR @e0P ?_;by_cases q:left < ((bulkRow [.lit (.int .i64 i0),.lit (.string t1),.lit (.int .i64 i2),.sl r3]:Nat):Int)
 ·rw [Zar (b:=bulkRow [.lit (.int .i64 i0),.lit (.string t1),.lit (.int .i64 i2),.sl r3]) q]
  try rw [Zar om]
  have q':=lT (-1) 0;exact fT @q'
 rw [ZaA (b:=bulkRow [.lit (.int .i64 i0),.lit (.string t1),.lit (.int .i64 i2),.sl r3]) om];have q':(left - ((bulkRow [.lit (.int .i64 i0),.lit (.string t1),.lit (.int .i64 i2),.sl r3]:Nat):Int) < 0)=False:=eq_false om;refine fG @q' ?_;obtain ⟨L0,e0⟩:∃ x,x=left - ((bulkRow [.lit (.int .i64 i0),.lit (.string t1),.lit (.int .i64 i2),.sl r3]:Nat):Int):=⟨_,rfl⟩;rw [<- e0];clear q';refine fB @e0P ?_;refine fC @e0P (ZdQ (Zbd g4 g5 g6 g7) (left:=L0) om om) ?_
 refine fR @e0P ?_;by_cases q:L0 < ((bulkRow [.lit (.int .i64 i4),.lit (.string t5),.lit (.int .i64 i6),.sl r7]:Nat):Int)
 ·rw [Zar (b:=bulkRow [.lit (.int .i64 i4),.lit (.string t5),.lit (.int .i64 i6),.sl r7]) q]
  try rw [Zar om]
  have q':=lT (-1) 0;exact fT @q'
 rw [ZaA (b:=bulkRow [.lit (.int .i64 i4),.lit (.string t5),.lit (.int .i64 i6),.sl r7]) om];have q':(L0 - ((bulkRow [.lit (.int .i64 i4),.lit (.string t5),.lit (.int .i64 i6),.sl r7]:Nat):Int) < 0)=False:=eq_false om;refine fG @q' ?_;obtain ⟨L1,e1⟩:∃ x,x=L0 - ((bulkRow [.lit (.int .i64 i4),.lit (.string t5),.lit (.int .i64 i6),.sl r7]:Nat):Int):=⟨_,rfl⟩;rw [<- e1];clear q';refine fB @e0P ?_;refine fC @e0P (Zmo g8 (left:=L1) om om) ?_
 refine fR @e0P ?_;by_cases q:L1 < (((r8.length+bulkRows r8):Nat):Int)
 ·rw [Zar (b:=(r8.length+bulkRows r8)) q]
  try rw [Zar om]
  have q':=lT (-1) 0;exact fT @q'
 rw [ZaA (b:=(r8.length+bulkRows r8)) om];have q':(L1 - (((r8.length+bulkRows r8):Nat):Int) < 0)=False:=eq_false om;refine fG @q' ?_;obtain ⟨L2,e2⟩:∃ x,x=L1 - (((r8.length+bulkRows r8):Nat):Int):=⟨_,rfl⟩;rw [<- e2];clear q'
 try rw [ZaA om,show left - ((bulkRow [.lit (.int .i64 i0),.lit (.string t1),.lit (.int .i64 i2),.sl r3]+bulkRow [.lit (.int .i64 i4),.lit (.string t5),.lit (.int .i64 i6),.sl r7]+(r8.length+bulkRows r8):Nat):Int)=L2 by omega]
 exact fT @e0P
theorem Zox (hok:Zaj (Zac .eqn) row):Con e0 22 [.agg row,.agg row] [.one (.lit (.bool true))]:=by
 obtain ⟨i0,t1,i2,r3,i4,t5,i6,r7,r8,rfl,g0,g1,g2,g3,g4,g5,g6,g7,g8⟩:=Ze2 hok;refine gI 4260895 Tryz.func22 ?_;refine fB (@beq_self_eq_true.{0}) ?_;refine fC @e0P (ZdR (Zbd g0 g1 g2 g3)) ?_;refine fR @e0P ?_;refine fB (@beq_self_eq_true.{0}) ?_;refine fC @e0P (ZdR (Zbd g4 g5 g6 g7)) ?_;refine fR @e0P ?_;refine fB (@beq_self_eq_true.{0}) ?_;refine fC @e0P (Zmp g8) ?_;refine fR @e0P ?_;exact fT (@beq_self_eq_true.{0})
theorem Zoy (hok:Zaj (Zac .eqn) row) (hb:bulkRow row<=1048576):Con e0 20 [.agg row] [.agg row]:=by
 obtain ⟨i0,t1,i2,r3,i4,t5,i6,r7,r8,rfl,g0,g1,g2,g3,g4,g5,g6,g7,g8⟩:=Ze2 hok;simp only [bulkRow,ZaS] at hb;refine gI (ts:=[.cell 2 58]) 15 Tryz.func20 ?_;refine fB @e0P ?_;refine fC @e0P (ZdS (Zbd g0 g1 g2 g3) (by simp only [bulkRow,ZaS];omega)) ?_;refine fR @e0P ?_;refine fB @e0P ?_;refine fC @e0P (ZdS (Zbd g4 g5 g6 g7) (by simp only [bulkRow,ZaS];omega)) ?_;refine fR @e0P ?_;refine fB @e0P ?_;refine fC @e0P (Zmq g8 om) ?_
 refine fR @e0P ?_;exact fD @e0P
theorem ZhZ (hok:Zai (Zac .eqn) rows) (h0:0<=left) (h1:left<=1048576):Con e0 79 [.one (.sl rows),.one (.lit (.int .i64 left))] [.one (.lit (.int .i64 (sub left (rows.length+bulkRows rows))))]:=by
 refine Zb9 (by kernel_rfl) fun hm=>?_;unfold maxLen at hm;have w:IntKind.i64.wrap (left - (rows.length:Int))=left - (rows.length:Int):=IntWalk.i64_in _ om;have hrb:Zav 9 rows=true:=ZaO.2 hok.rowsLen;refine gI 33589299 Tryz.func79 ?_;by_cases q:left < (rows.length:Int)
 ·rw [Zar om];have q':(left - (rows.length:Int) < 0)=True:=eq_true om;exact fT (ai @w @q')
 have q':(left - (rows.length:Int) < 0)=False:=eq_false om;refine fG (ai @w @q') ?_;have F:=aj4 @tk0 @ZdW @Int.natCast_zero @Int.sub_zero;refine gL (ι:=Nat) [1,4,5,15,25] [] (fun x=>[(5,.d (.one (.lit (.int .i64 (x:Int))))),(1,.d (.one (.lit (.int .i64 (left - (rows.length:Int) - (bulkRows (rows.take x):Int))))))]) (fun x=>[]) (fun x=>x<=rows.length∧0<=left - (rows.length:Int) - (bulkRows (rows.take x):Int)) (fun x=>rows.length - x) (0) (⟨Taj _,by simp [bulkRows];omega⟩) (fun x hx=>?_);clear F
 obtain ⟨hx,hl⟩:=hx;by_cases hlt:x < rows.length
 ·obtain ⟨r,hr⟩:∃ r,rows[x]?=some r:=⟨_,Taa hlt⟩;have hq:=hok.get hr;obtain ⟨ln,tk,dr⟩:=hq.take (n:=9) rfl;have okc:=hq.cells;have q1:=lT x rows.length;have wi:=Zan (k:=x) om;have hbt:=Zdo hr;have hbl:=Zcy rows (x+1)
  skip
  have fe:=aj10 hr hlt Zal hrb q1 okc ln tk dr (@Za3 C);obtain ⟨l,hle⟩:∃ l,l=left - (rows.length:Int) - (bulkRows (rows.take x):Int):=⟨_,rfl⟩;rw [<- hle];refine fB @fe ?_;refine fC @fe (Zow hq (left:=l) om om) ?_;refine fR @fe ?_;by_cases q:l < ((bulkRow r:Nat):Int)
  ·rw [Zar (b:=bulkRow r) q,Zar om];have q':=lT (-1) 0;exact fT @q'
  rw [ZaA (b:=bulkRow r) om];have q':(l - ((bulkRow r:Nat):Int) < 0)=False:=eq_false om;have e:left - (rows.length:Int) - (bulkRows (rows.take (x+1)):Int)=l - ((bulkRow r:Nat):Int):=om;have F:=aj3 @q' @wi @e;refine gG ?_;exact ⟨x+1,⟨hlt,om⟩,gw,gw,om⟩
 ·obtain rfl:x=rows.length:=by omega
  have q1:=lF rows.length rows.length;rw [Tap] at hl ⊢;rw [ZaA om,show left - ((rows.length+bulkRows rows:Nat):Int)=left - (rows.length:Int) - (bulkRows rows:Int) by omega];exact fT @q1
theorem Zh0 (hok:Zai (Zac .eqn) rows):Con e0 89 [.one (.sl rows),.one (.sl rows)] [.one (.lit (.bool true))]:=by
 refine Zb9 (by kernel_rfl) fun hm=>?_;unfold maxLen at hm;have hrb:Zav 9 rows=true:=ZaO.2 hok.rowsLen;refine gI 67126323 Tryz.func89 ?_;refine fG (@beq_self_eq_true.{0}) ?_;have F:=@e0P;refine gL (ι:=Nat) [4,5,14,26] [] (fun x=>[(5,.d (.one (.lit (.int .i64 (x:Int)))))]) (fun x=>[]) (fun x=>x<=rows.length) (fun x=>rows.length - x) (0) (Taj _) (fun x hx=>?_);clear F;by_cases hlt:x < rows.length
 ·obtain ⟨r,hr⟩:∃ r,rows[x]?=some r:=⟨_,Taa hlt⟩;have hq:=hok.get hr;obtain ⟨ln,tk,dr⟩:=hq.take (n:=9) rfl;have okc:=hq.cells;have q1:=lT x rows.length;have wi:=Zan (k:=x) om;have fe:=aj10 hr hlt Zal hrb q1 okc ln tk dr (@Za3 C);refine fB @fe ?_;refine fC @fe (Zox hq) ?_;refine fR @fe ?_;have F:=@wi;refine gG ?_;exact ⟨x+1,hlt,gw,gw,om⟩
 ·obtain rfl:x=rows.length:=by omega
  have q1:=lF rows.length rows.length;exact fT @q1
theorem Zh1 (hok:Zai (Zac .eqn) rows) (hb:rows.length+bulkRows rows<=1048576):Con e0 84 [.one (.sl rows)] [.one (.sl rows)]:=by
 have hrb:Zav 9 rows=true:=ZaO.2 hok.rowsLen;have hmx:((rows.length:Int)<=(maxApp:Int))=True:=eq_true (by unfold maxApp;omega);refine gI (ts:=[.slot 2]) 2077 Tryz.func84 ?_;refine fG (ai @hmx @Tbx) ?_;have F:=aj3 @nla @Nat.sub_zero @tk0;refine gL (ι:=Nat) [3,4,11] [3] (fun x=>[(4,.d (.one (.lit (.int .i64 (x:Int))))),(3,.buf 3)]) (fun x=>[(3,.buf none 58 9 (rows.take x++List.replicate (rows.length - x) [C.lit (.int .i64 0),C.lit (.string .empty),C.lit (.int .i64 0),C.sl [],C.lit (.int .i64 0),C.lit (.string .empty),C.lit (.int .i64 0),C.sl [],C.sl []]))]) (fun x=>x<=rows.length) (fun x=>rows.length - x) (0) (Taj _) (fun x hx=>?_);clear F
 by_cases hlt:x < rows.length
 ·obtain ⟨r,hr⟩:∃ r,rows[x]?=some r:=⟨_,Taa hlt⟩;have hq:=hok.get hr;obtain ⟨ln,tk,dr⟩:=hq.take (n:=9) rfl;have okc:=hq.cells;have q1:=lT x rows.length;have wi:=Zan (k:=x) om;obtain ⟨bl,bs,bg⟩:=ZcK (z:=[C.lit (.int .i64 0),C.lit (.string .empty),C.lit (.int .i64 0),C.sl [],C.lit (.int .i64 0),C.lit (.string .empty),C.lit (.int .i64 0),C.sl [],C.sl []]) hr;generalize rows.take x++List.replicate (rows.length - x) [C.lit (.int .i64 0),C.lit (.string .empty),C.lit (.int .i64 0),C.sl [],C.lit (.int .i64 0),C.lit (.string .empty),C.lit (.int .i64 0),C.sl [],C.sl []]=R at bl bs bg ⊢
  have hbr:=Zck hr;have fe:=aj13 bg bl bs hr hlt Zal hrb q1 okc ln tk dr (@Za3 C);refine fB @fe ?_;refine fC @fe (Zoy hq om) ?_;refine fR @fe ?_;have F:=ai @wi @bs;refine gG ?_;exact ⟨x+1,hlt,gw,gw,om⟩
 ·obtain rfl:x=rows.length:=by omega
  have q1:=lF rows.length rows.length;rw [Nat.sub_self,List.replicate_zero,List.append_nil,Tap];have F:=@q1;refine gG ?_;exact gTz [2]
theorem ZnR (hok:Zai (Zac .int) rows) (h0:0<=left) (h1:left<=1048576):Con e0 285 [.one (.sl rows),.one (.lit (.int .i64 left))] [.one (.lit (.int .i64 (sub left (rows.length+bulkRows rows))))]:=by
 refine Zb9 (by kernel_rfl) fun hm=>?_;unfold maxLen at hm;have w:IntKind.i64.wrap (left - (rows.length:Int))=left - (rows.length:Int):=IntWalk.i64_in _ om;rw [Zw2 (fs:=Zac .int) (by rfl) hok,Nat.add_zero];refine gI 1043 Tryz.func285 ?_;by_cases q:left < (rows.length:Int)
 ·rw [Zar om];have q':(left - (rows.length:Int) < 0)=True:=eq_true om;exact fT (ai @w @q')
 have q':(left - (rows.length:Int) < 0)=False:=eq_false om;rw [ZaA om];exact fT (ai @w @q')
theorem ZnS (hok:Zai (Zac .int) rows):Con e0 16 [.one (.sl rows),.one (.sl rows)] [.one (.lit (.bool true))]:=by
 refine Zb9 (by kernel_rfl) fun hm=>?_;unfold maxLen at hm;have hrb:Zav 1 rows=true:=ZaO.2 hok.rowsLen;refine gI 33571891 Tryz.func16 ?_;refine fG (@beq_self_eq_true.{0}) ?_;have F:=@e0P;refine gL (ι:=Nat) [4,5,14,25] [] (fun x=>[(5,.d (.one (.lit (.int .i64 (x:Int)))))]) (fun x=>[]) (fun x=>x<=rows.length) (fun x=>rows.length - x) (0) (Taj _) (fun x hx=>?_);clear F;by_cases hlt:x < rows.length
 ·obtain ⟨r,hr⟩:∃ r,rows[x]?=some r:=⟨_,Taa hlt⟩;obtain ⟨x0,rfl,g0⟩:=ZjW (hok.get hr);have q1:=lT x rows.length;have wi:=Zan (k:=x) om;have fe:=aj5 hr hlt Zal hrb q1;have F:=aj3 @beq_self_eq_true.{0} @wi @fe;refine gG ?_;exact ⟨x+1,hlt,gw,gw,om⟩
 ·obtain rfl:x=rows.length:=by omega
  have q1:=lF rows.length rows.length;exact fT @q1
theorem ZnT (hok:Zai (Zac .int) rows) (hb:rows.length+bulkRows rows<=1048576):Con e0 12 [.one (.sl rows)] [.one (.sl rows)]:=by
 have hrb:Zav 1 rows=true:=ZaO.2 hok.rowsLen;have hmx:((rows.length:Int)<=(maxApp:Int))=True:=eq_true (by unfold maxApp;omega);refine gI (ts:=[.slot 2]) 2077 Tryz.func12 ?_;refine fG (ai @hmx @Tbx) ?_;have F:=aj3 @nla @Nat.sub_zero @tk0;refine gL (ι:=Nat) [3,4,11] [3] (fun x=>[(4,.d (.one (.lit (.int .i64 (x:Int))))),(3,.buf 3)]) (fun x=>[(3,.buf none 3 1 (rows.take x++List.replicate (rows.length - x) [C.lit (.int .i64 0)]))]) (fun x=>x<=rows.length) (fun x=>rows.length - x) (0) (Taj _) (fun x hx=>?_);clear F
 by_cases hlt:x < rows.length
 ·obtain ⟨r,hr⟩:∃ r,rows[x]?=some r:=⟨_,Taa hlt⟩;obtain ⟨x0,rfl,g0⟩:=ZjW (hok.get hr);have q1:=lT x rows.length;have wi:=Zan (k:=x) om;obtain ⟨bl,bs,bg⟩:=ZcK (z:=[C.lit (.int .i64 0)]) hr;generalize rows.take x++List.replicate (rows.length - x) [C.lit (.int .i64 0)]=R at bl bs bg ⊢;have F:=aj9 @hr @hlt @Zal @hrb @q1 @bl @bs @bg @wi;refine gG ?_;exact ⟨x+1,hlt,gw,gw,om⟩
 ·obtain rfl:x=rows.length:=by omega
  have q1:=lF rows.length rows.length;rw [Nat.sub_self,List.replicate_zero,List.append_nil,Tap];have F:=@q1;refine gG ?_;exact gTz [2]
theorem Zw3 (hok:Zaj (Zac .decl) row) (h0:0<=left) (h1:left<=1048576):Con e0 268 [.agg row,.one (.lit (.int .i64 left))] [.one (.lit (.int .i64 (sub left (bulkRow row))))]:=by
 obtain ⟨r0,i1,rfl,g0,g1⟩:=ZgM hok;rw [show bulkRow [.sl r0,.lit (.int .i64 i1)]=(r0.length+bulkRows r0) by simp only [bulkRow,ZaS];omega];refine gI 1047 Tryz.func268 ?_;refine fB @e0P ?_;refine fC @e0P (ZnR g0 (left:=left) om om) ?_;refine fR @e0P ?_;by_cases q:left < (((r0.length+bulkRows r0):Nat):Int)
 ·rw [Zar (b:=(r0.length+bulkRows r0)) q]
  try rw [Zar om]
  have q':=lT (-1) 0;exact fT @q'
 rw [ZaA (b:=(r0.length+bulkRows r0)) om];have q':(left - (((r0.length+bulkRows r0):Nat):Int) < 0)=False:=eq_false om;refine fG @q' ?_;obtain ⟨L0,e0⟩:∃ x,x=left - (((r0.length+bulkRows r0):Nat):Int):=⟨_,rfl⟩;rw [<- e0];clear q'
 try rw [ZaA om,show left - (((r0.length+bulkRows r0):Nat):Int)=L0 by omega]
 exact fT @e0P
theorem Zw4 (hok:Zaj (Zac .decl) row):Con e0 281 [.agg row,.agg row] [.one (.lit (.bool true))]:=by
 obtain ⟨r0,i1,rfl,g0,g1⟩:=ZgM hok;refine gI 33823 Tryz.func281 ?_;refine fB (@beq_self_eq_true.{0}) ?_;refine fC @e0P (ZnS g0) ?_;refine fR @e0P ?_;exact fT (@beq_self_eq_true.{0})
theorem Zw5 (hok:Zaj (Zac .decl) row) (hb:bulkRow row<=1048576):Con e0 274 [.agg row] [.agg row]:=by
 obtain ⟨r0,i1,rfl,g0,g1⟩:=ZgM hok;simp only [bulkRow,ZaS] at hb;refine gI (ts:=[.cell 2 261]) 15 Tryz.func274 ?_;refine fB @e0P ?_;refine fC @e0P (ZnT g0 om) ?_;refine fR @e0P ?_;exact fD @e0P
theorem ZtG (hok:Zai (Zac .decl) rows) (h0:0<=left) (h1:left<=1048576):Con e0 192 [.one (.sl rows),.one (.lit (.int .i64 left))] [.one (.lit (.int .i64 (sub left (rows.length+bulkRows rows))))]:=by
 refine Zb9 (by kernel_rfl) fun hm=>?_;unfold maxLen at hm;have w:IntKind.i64.wrap (left - (rows.length:Int))=left - (rows.length:Int):=IntWalk.i64_in _ om;have hrb:Zav 2 rows=true:=ZaO.2 hok.rowsLen;refine gI 33589299 Tryz.func192 ?_;by_cases q:left < (rows.length:Int)
 ·rw [Zar om];have q':(left - (rows.length:Int) < 0)=True:=eq_true om;exact fT (ai @w @q')
 have q':(left - (rows.length:Int) < 0)=False:=eq_false om;refine fG (ai @w @q') ?_;have F:=aj4 @tk0 @ZdW @Int.natCast_zero @Int.sub_zero;refine gL (ι:=Nat) [1,4,5,15,25] [] (fun x=>[(5,.d (.one (.lit (.int .i64 (x:Int))))),(1,.d (.one (.lit (.int .i64 (left - (rows.length:Int) - (bulkRows (rows.take x):Int))))))]) (fun x=>[]) (fun x=>x<=rows.length∧0<=left - (rows.length:Int) - (bulkRows (rows.take x):Int)) (fun x=>rows.length - x) (0) (⟨Taj _,by simp [bulkRows];omega⟩) (fun x hx=>?_);clear F
 obtain ⟨hx,hl⟩:=hx;by_cases hlt:x < rows.length
 ·obtain ⟨r,hr⟩:∃ r,rows[x]?=some r:=⟨_,Taa hlt⟩;have hq:=hok.get hr;obtain ⟨ln,tk,dr⟩:=hq.take (n:=2) rfl;have okc:=hq.cells;have q1:=lT x rows.length;have wi:=Zan (k:=x) om;have hbt:=Zdo hr;have hbl:=Zcy rows (x+1)
  skip
  have fe:=aj10 hr hlt Zal hrb q1 okc ln tk dr (@Za3 C);obtain ⟨l,hle⟩:∃ l,l=left - (rows.length:Int) - (bulkRows (rows.take x):Int):=⟨_,rfl⟩;rw [<- hle];refine fB @fe ?_;refine fC @fe (Zw3 hq (left:=l) om om) ?_;refine fR @fe ?_;by_cases q:l < ((bulkRow r:Nat):Int)
  ·rw [Zar (b:=bulkRow r) q,Zar om];have q':=lT (-1) 0;exact fT @q'
  rw [ZaA (b:=bulkRow r) om];have q':(l - ((bulkRow r:Nat):Int) < 0)=False:=eq_false om;have e:left - (rows.length:Int) - (bulkRows (rows.take (x+1)):Int)=l - ((bulkRow r:Nat):Int):=om;have F:=aj3 @q' @wi @e;refine gG ?_;exact ⟨x+1,⟨hlt,om⟩,gw,gw,om⟩
 ·obtain rfl:x=rows.length:=by omega
  have q1:=lF rows.length rows.length;rw [Tap] at hl ⊢;rw [ZaA om,show left - ((rows.length+bulkRows rows:Nat):Int)=left - (rows.length:Int) - (bulkRows rows:Int) by omega];exact fT @q1
theorem ZtH (hok:Zai (Zac .decl) rows):Con e0 215 [.one (.sl rows),.one (.sl rows)] [.one (.lit (.bool true))]:=by
 refine Zb9 (by kernel_rfl) fun hm=>?_;unfold maxLen at hm;have hrb:Zav 2 rows=true:=ZaO.2 hok.rowsLen;refine gI 67126323 Tryz.func215 ?_;refine fG (@beq_self_eq_true.{0}) ?_;have F:=@e0P;refine gL (ι:=Nat) [4,5,14,26] [] (fun x=>[(5,.d (.one (.lit (.int .i64 (x:Int)))))]) (fun x=>[]) (fun x=>x<=rows.length) (fun x=>rows.length - x) (0) (Taj _) (fun x hx=>?_);clear F;by_cases hlt:x < rows.length
 ·obtain ⟨r,hr⟩:∃ r,rows[x]?=some r:=⟨_,Taa hlt⟩;have hq:=hok.get hr;obtain ⟨ln,tk,dr⟩:=hq.take (n:=2) rfl;have okc:=hq.cells;have q1:=lT x rows.length;have wi:=Zan (k:=x) om;have fe:=aj10 hr hlt Zal hrb q1 okc ln tk dr (@Za3 C);refine fB @fe ?_;refine fC @fe (Zw4 hq) ?_;refine fR @fe ?_;have F:=@wi;refine gG ?_;exact ⟨x+1,hlt,gw,gw,om⟩
 ·obtain rfl:x=rows.length:=by omega
  have q1:=lF rows.length rows.length;exact fT @q1
theorem ZtI (hok:Zai (Zac .decl) rows) (hb:rows.length+bulkRows rows<=1048576):Con e0 203 [.one (.sl rows)] [.one (.sl rows)]:=by
 have hrb:Zav 2 rows=true:=ZaO.2 hok.rowsLen;have hmx:((rows.length:Int)<=(maxApp:Int))=True:=eq_true (by unfold maxApp;omega);refine gI (ts:=[.slot 2]) 2077 Tryz.func203 ?_;refine fG (ai @hmx @Tbx) ?_;have F:=aj3 @nla @Nat.sub_zero @tk0;refine gL (ι:=Nat) [3,4,11] [3] (fun x=>[(4,.d (.one (.lit (.int .i64 (x:Int))))),(3,.buf 3)]) (fun x=>[(3,.buf none 261 2 (rows.take x++List.replicate (rows.length - x) [C.sl [],C.lit (.int .i64 0)]))]) (fun x=>x<=rows.length) (fun x=>rows.length - x) (0) (Taj _) (fun x hx=>?_);clear F
 by_cases hlt:x < rows.length
 ·obtain ⟨r,hr⟩:∃ r,rows[x]?=some r:=⟨_,Taa hlt⟩;have hq:=hok.get hr;obtain ⟨ln,tk,dr⟩:=hq.take (n:=2) rfl;have okc:=hq.cells;have q1:=lT x rows.length;have wi:=Zan (k:=x) om;obtain ⟨bl,bs,bg⟩:=ZcK (z:=[C.sl [],C.lit (.int .i64 0)]) hr;generalize rows.take x++List.replicate (rows.length - x) [C.sl [],C.lit (.int .i64 0)]=R at bl bs bg ⊢;have hbr:=Zck hr;have fe:=aj13 bg bl bs hr hlt Zal hrb q1 okc ln tk dr (@Za3 C)
  refine fB @fe ?_;refine fC @fe (Zw5 hq om) ?_;refine fR @fe ?_;have F:=ai @wi @bs;refine gG ?_;exact ⟨x+1,hlt,gw,gw,om⟩
 ·obtain rfl:x=rows.length:=by omega
  have q1:=lF rows.length rows.length;rw [Nat.sub_self,List.replicate_zero,List.append_nil,Tap];have F:=@q1;refine gG ?_;exact gTz [2]
theorem ZCz (hok:Zaj (Zac .op) row) (h0:0<=left) (h1:left<=1048576):Con e0 114 [.agg row,.one (.lit (.int .i64 left))] [.one (.lit (.int .i64 (sub left (bulkRow row))))]:=by
 obtain ⟨t0,r1,p2,p3,i4,rfl,g0,g1,g2,g3,g4⟩:=ZiT hok;rw [show bulkRow [.lit (.string t0),.sl r1,.lit (.bool p2),.lit (.bool p3),.lit (.int .i64 i4)]=t0.size+(r1.length+bulkRows r1) by simp only [bulkRow,ZaS];omega];refine gI 133143 Tryz.func114 ?_;have hs:=g0;unfold maxLen at hs;have w:IntKind.i64.wrap (left - (t0.size:Int))=left - (t0.size:Int):=IntWalk.i64_in _ om;clear hs;by_cases q:left < (t0.size:Int)
 ·rw [Zar om];have q':(left - (t0.size:Int) < 0)=True:=eq_true om;exact fT (ai @w @q')
 have q':(left - (t0.size:Int) < 0)=False:=eq_false om;refine fG (ai @w @q') ?_;obtain ⟨L0,e0⟩:∃ x,x=left - (t0.size:Int):=⟨_,rfl⟩;rw [<- e0];clear w q';refine fB @e0P ?_;refine fC @e0P (ZtG g1 (left:=L0) om om) ?_;refine fR @e0P ?_;by_cases q:L0 < (((r1.length+bulkRows r1):Nat):Int)
 ·rw [Zar (b:=(r1.length+bulkRows r1)) q]
  try rw [Zar om]
  have q':=lT (-1) 0;exact fT @q'
 rw [ZaA (b:=(r1.length+bulkRows r1)) om];have q':(L0 - (((r1.length+bulkRows r1):Nat):Int) < 0)=False:=eq_false om;refine fG @q' ?_;obtain ⟨L1,e1⟩:∃ x,x=L0 - (((r1.length+bulkRows r1):Nat):Int):=⟨_,rfl⟩;rw [<- e1];clear q'
 try rw [ZaA om,show left - ((t0.size+(r1.length+bulkRows r1):Nat):Int)=L1 by omega]
 exact fT @e0P
theorem ZCA (hok:Zaj (Zac .op) row):Con e0 135 [.agg row,.agg row] [.one (.lit (.bool true))]:=by
 obtain ⟨t0,r1,p2,p3,i4,rfl,g0,g1,g2,g3,g4⟩:=ZiT hok;refine gI 1108378143 Tryz.func135 ?_;refine fB (@beq_self_eq_true.{0}) ?_;refine fC @e0P (ZtH g1) ?_;refine fR @e0P ?_;exact fT (@beq_self_eq_true.{0})
theorem ZCB (hok:Zaj (Zac .op) row) (hb:bulkRow row<=1048576):Con e0 124 [.agg row] [.agg row]:=by
 obtain ⟨t0,r1,p2,p3,i4,rfl,g0,g1,g2,g3,g4⟩:=ZiT hok;simp only [bulkRow,ZaS] at hb;refine gI (ts:=[.cell 2 172]) 15 Tryz.func124 ?_;refine fB @e0P ?_;refine fC @e0P (ZtI g1 om) ?_;refine fR @e0P ?_;exact fD @e0P
theorem ZA5 (hok:Zai (Zac .op) rows) (h0:0<=left) (h1:left<=1048576):Con e0 48 [.one (.sl rows),.one (.lit (.int .i64 left))] [.one (.lit (.int .i64 (sub left (rows.length+bulkRows rows))))]:=by
 refine Zb9 (by kernel_rfl) fun hm=>?_;unfold maxLen at hm;have w:IntKind.i64.wrap (left - (rows.length:Int))=left - (rows.length:Int):=IntWalk.i64_in _ om;have hrb:Zav 5 rows=true:=ZaO.2 hok.rowsLen;refine gI 33589299 Tryz.func48 ?_;by_cases q:left < (rows.length:Int)
 ·rw [Zar om];have q':(left - (rows.length:Int) < 0)=True:=eq_true om;exact fT (ai @w @q')
 have q':(left - (rows.length:Int) < 0)=False:=eq_false om;refine fG (ai @w @q') ?_;have F:=aj4 @tk0 @ZdW @Int.natCast_zero @Int.sub_zero;refine gL (ι:=Nat) [1,4,5,15,25] [] (fun x=>[(5,.d (.one (.lit (.int .i64 (x:Int))))),(1,.d (.one (.lit (.int .i64 (left - (rows.length:Int) - (bulkRows (rows.take x):Int))))))]) (fun x=>[]) (fun x=>x<=rows.length∧0<=left - (rows.length:Int) - (bulkRows (rows.take x):Int)) (fun x=>rows.length - x) (0) (⟨Taj _,by simp [bulkRows];omega⟩) (fun x hx=>?_);clear F
 obtain ⟨hx,hl⟩:=hx;by_cases hlt:x < rows.length
 ·obtain ⟨r,hr⟩:∃ r,rows[x]?=some r:=⟨_,Taa hlt⟩;have hq:=hok.get hr;obtain ⟨ln,tk,dr⟩:=hq.take (n:=5) rfl;have okc:=hq.cells;have q1:=lT x rows.length;have wi:=Zan (k:=x) om;have hbt:=Zdo hr;have hbl:=Zcy rows (x+1)
  skip
  have fe:=aj10 hr hlt Zal hrb q1 okc ln tk dr (@Za3 C);obtain ⟨l,hle⟩:∃ l,l=left - (rows.length:Int) - (bulkRows (rows.take x):Int):=⟨_,rfl⟩;rw [<- hle];refine fB @fe ?_;refine fC @fe (ZCz hq (left:=l) om om) ?_;refine fR @fe ?_;by_cases q:l < ((bulkRow r:Nat):Int)
  ·rw [Zar (b:=bulkRow r) q,Zar om];have q':=lT (-1) 0;exact fT @q'
  rw [ZaA (b:=bulkRow r) om];have q':(l - ((bulkRow r:Nat):Int) < 0)=False:=eq_false om;have e:left - (rows.length:Int) - (bulkRows (rows.take (x+1)):Int)=l - ((bulkRow r:Nat):Int):=om;have F:=aj3 @q' @wi @e;refine gG ?_;exact ⟨x+1,⟨hlt,om⟩,gw,gw,om⟩
 ·obtain rfl:x=rows.length:=by omega
  have q1:=lF rows.length rows.length;rw [Tap] at hl ⊢;rw [ZaA om,show left - ((rows.length+bulkRows rows:Nat):Int)=left - (rows.length:Int) - (bulkRows rows:Int) by omega];exact fT @q1
theorem ZA6 (hok:Zai (Zac .op) rows):Con e0 62 [.one (.sl rows),.one (.sl rows)] [.one (.lit (.bool true))]:=by
 refine Zb9 (by kernel_rfl) fun hm=>?_;unfold maxLen at hm;have hrb:Zav 5 rows=true:=ZaO.2 hok.rowsLen;refine gI 67126323 Tryz.func62 ?_;refine fG (@beq_self_eq_true.{0}) ?_;have F:=@e0P;refine gL (ι:=Nat) [4,5,14,26] [] (fun x=>[(5,.d (.one (.lit (.int .i64 (x:Int)))))]) (fun x=>[]) (fun x=>x<=rows.length) (fun x=>rows.length - x) (0) (Taj _) (fun x hx=>?_);clear F;by_cases hlt:x < rows.length
 ·obtain ⟨r,hr⟩:∃ r,rows[x]?=some r:=⟨_,Taa hlt⟩;have hq:=hok.get hr;obtain ⟨ln,tk,dr⟩:=hq.take (n:=5) rfl;have okc:=hq.cells;have q1:=lT x rows.length;have wi:=Zan (k:=x) om;have fe:=aj10 hr hlt Zal hrb q1 okc ln tk dr (@Za3 C);refine fB @fe ?_;refine fC @fe (ZCA hq) ?_;refine fR @fe ?_;have F:=@wi;refine gG ?_;exact ⟨x+1,hlt,gw,gw,om⟩
 ·obtain rfl:x=rows.length:=by omega
  have q1:=lF rows.length rows.length;exact fT @q1
theorem ZA7 (hok:Zai (Zac .op) rows) (hb:rows.length+bulkRows rows<=1048576):Con e0 54 [.one (.sl rows)] [.one (.sl rows)]:=by
 have hrb:Zav 5 rows=true:=ZaO.2 hok.rowsLen;have hmx:((rows.length:Int)<=(maxApp:Int))=True:=eq_true (by unfold maxApp;omega);refine gI (ts:=[.slot 2]) 2077 Tryz.func54 ?_;refine fG (ai @hmx @Tbx) ?_;have F:=aj3 @nla @Nat.sub_zero @tk0;refine gL (ι:=Nat) [3,4,11] [3] (fun x=>[(4,.d (.one (.lit (.int .i64 (x:Int))))),(3,.buf 3)]) (fun x=>[(3,.buf none 172 5 (rows.take x++List.replicate (rows.length - x) [C.lit (.string .empty),C.sl [],C.lit (.bool false),C.lit (.bool false),C.lit (.int .i64 0)]))]) (fun x=>x<=rows.length) (fun x=>rows.length - x) (0) (Taj _) (fun x hx=>?_);clear F
 by_cases hlt:x < rows.length
 ·obtain ⟨r,hr⟩:∃ r,rows[x]?=some r:=⟨_,Taa hlt⟩;have hq:=hok.get hr;obtain ⟨ln,tk,dr⟩:=hq.take (n:=5) rfl;have okc:=hq.cells;have q1:=lT x rows.length;have wi:=Zan (k:=x) om;obtain ⟨bl,bs,bg⟩:=ZcK (z:=[C.lit (.string .empty),C.sl [],C.lit (.bool false),C.lit (.bool false),C.lit (.int .i64 0)]) hr;generalize rows.take x++List.replicate (rows.length - x) [C.lit (.string .empty),C.sl [],C.lit (.bool false),C.lit (.bool false),C.lit (.int .i64 0)]=R at bl bs bg ⊢
  have hbr:=Zck hr;have fe:=aj13 bg bl bs hr hlt Zal hrb q1 okc ln tk dr (@Za3 C);refine fB @fe ?_;refine fC @fe (ZCB hq om) ?_;refine fR @fe ?_;have F:=ai @wi @bs;refine gG ?_;exact ⟨x+1,hlt,gw,gw,om⟩
 ·obtain rfl:x=rows.length:=by omega
  have q1:=lF rows.length rows.length;rw [Nat.sub_self,List.replicate_zero,List.append_nil,Tap];have F:=@q1;refine gG ?_;exact gTz [2]
theorem Zp2 (hok:Zai (Zac .str) rows) (h0:0<=left) (h1:left<=1048576):Con e0 112 [.one (.sl rows),.one (.lit (.int .i64 left))] [.one (.lit (.int .i64 (sub left (rows.length+bulkRows rows))))]:=by
 refine Zb9 (by kernel_rfl) fun hm=>?_;unfold maxLen at hm;have w:IntKind.i64.wrap (left - (rows.length:Int))=left - (rows.length:Int):=IntWalk.i64_in _ om;have hrb:Zav 1 rows=true:=ZaO.2 hok.rowsLen;refine gI 67143731 Tryz.func112 ?_;by_cases q:left < (rows.length:Int)
 ·rw [Zar om];have q':(left - (rows.length:Int) < 0)=True:=eq_true om;exact fT (ai @w @q')
 have q':(left - (rows.length:Int) < 0)=False:=eq_false om;refine fG (ai @w @q') ?_;have F:=aj4 @tk0 @ZdW @Int.natCast_zero @Int.sub_zero;refine gL (ι:=Nat) [1,4,5,15,26] [] (fun x=>[(5,.d (.one (.lit (.int .i64 (x:Int))))),(1,.d (.one (.lit (.int .i64 (left - (rows.length:Int) - (bulkRows (rows.take x):Int))))))]) (fun x=>[]) (fun x=>x<=rows.length∧0<=left - (rows.length:Int) - (bulkRows (rows.take x):Int)) (fun x=>rows.length - x) (0) (⟨Taj _,by simp [bulkRows];omega⟩) (fun x hx=>?_);clear F
 obtain ⟨hx,hl⟩:=hx;by_cases hlt:x < rows.length
 ·obtain ⟨r,hr⟩:∃ r,rows[x]?=some r:=⟨_,Taa hlt⟩;obtain ⟨x0,rfl,g0⟩:=ZfA (hok.get hr);have q1:=lT x rows.length;have wi:=Zan (k:=x) om;have hbt:=Zdo hr;have hbl:=Zcy rows (x+1);have hbe:bulkRow [.lit (.string x0)]=x0.size:=by simp [bulkRow,ZaS]
  have fe:=aj5 hr hlt Zal hrb q1;obtain ⟨l,hle⟩:∃ l,l=left - (rows.length:Int) - (bulkRows (rows.take x):Int):=⟨_,rfl⟩;rw [<- hle];have hs:=g0;unfold maxLen at hs;have w:IntKind.i64.wrap (l - (x0.size:Int))=l - (x0.size:Int):=IntWalk.i64_in _ om;by_cases q:l < (x0.size:Int)
  ·rw [Zar om];have q':(l - (x0.size:Int) < 0)=True:=eq_true om;exact fT (aj3 @w @q' @fe)
  have q':(l - (x0.size:Int) < 0)=False:=eq_false om;refine fG (aj3 @w @q' @fe) ?_;have e:left - (rows.length:Int) - (bulkRows (rows.take (x+1)):Int)=l - ((x0.size:Nat):Int):=om;have F:=aj3 @q' @wi @e;refine gG ?_;exact ⟨x+1,⟨hlt,om⟩,gw,gw,om⟩
 ·obtain rfl:x=rows.length:=by omega
  have q1:=lF rows.length rows.length;rw [Tap] at hl ⊢;rw [ZaA om,show left - ((rows.length+bulkRows rows:Nat):Int)=left - (rows.length:Int) - (bulkRows rows:Int) by omega];exact fT @q1
theorem Zp3 (hok:Zai (Zac .str) rows):Con e0 133 [.one (.sl rows),.one (.sl rows)] [.one (.lit (.bool true))]:=by
 refine Zb9 (by kernel_rfl) fun hm=>?_;unfold maxLen at hm;have hrb:Zav 1 rows=true:=ZaO.2 hok.rowsLen;refine gI 33571891 Tryz.func133 ?_;refine fG (@beq_self_eq_true.{0}) ?_;have F:=@e0P;refine gL (ι:=Nat) [4,5,14,25] [] (fun x=>[(5,.d (.one (.lit (.int .i64 (x:Int)))))]) (fun x=>[]) (fun x=>x<=rows.length) (fun x=>rows.length - x) (0) (Taj _) (fun x hx=>?_);clear F;by_cases hlt:x < rows.length
 ·obtain ⟨r,hr⟩:∃ r,rows[x]?=some r:=⟨_,Taa hlt⟩;obtain ⟨x0,rfl,g0⟩:=ZfA (hok.get hr);have q1:=lT x rows.length;have wi:=Zan (k:=x) om;have fe:=aj5 hr hlt Zal hrb q1;have F:=aj3 @beq_self_eq_true.{0} @wi @fe;refine gG ?_;exact ⟨x+1,hlt,gw,gw,om⟩
 ·obtain rfl:x=rows.length:=by omega
  have q1:=lF rows.length rows.length;exact fT @q1
theorem Zp4 (hok:Zai (Zac .str) rows) (hb:rows.length+bulkRows rows<=1048576):Con e0 122 [.one (.sl rows)] [.one (.sl rows)]:=by
 have hrb:Zav 1 rows=true:=ZaO.2 hok.rowsLen;have hmx:((rows.length:Int)<=(maxApp:Int))=True:=eq_true (by unfold maxApp;omega);refine gI (ts:=[.slot 2]) 2077 Tryz.func122 ?_;refine fG (ai @hmx @Tbx) ?_;have F:=aj3 @nla @Nat.sub_zero @tk0;refine gL (ι:=Nat) [3,4,11] [3] (fun x=>[(4,.d (.one (.lit (.int .i64 (x:Int))))),(3,.buf 3)]) (fun x=>[(3,.buf none 9 1 (rows.take x++List.replicate (rows.length - x) [C.lit (.string .empty)]))]) (fun x=>x<=rows.length) (fun x=>rows.length - x) (0) (Taj _) (fun x hx=>?_);clear F
 by_cases hlt:x < rows.length
 ·obtain ⟨r,hr⟩:∃ r,rows[x]?=some r:=⟨_,Taa hlt⟩;obtain ⟨x0,rfl,g0⟩:=ZfA (hok.get hr);have q1:=lT x rows.length;have wi:=Zan (k:=x) om;obtain ⟨bl,bs,bg⟩:=ZcK (z:=[C.lit (.string .empty)]) hr;generalize rows.take x++List.replicate (rows.length - x) [C.lit (.string .empty)]=R at bl bs bg ⊢;have F:=aj9 @hr @hlt @Zal @hrb @q1 @bl @bs @bg @wi;refine gG ?_;exact ⟨x+1,hlt,gw,gw,om⟩
 ·obtain rfl:x=rows.length:=by omega
  have q1:=lF rows.length rows.length;rw [Nat.sub_self,List.replicate_zero,List.append_nil,Tap];have F:=@q1;refine gG ?_;exact gTz [2]
theorem ZA8 (hok:Zaj (Zac .sub) row):Con e0 214 [.agg row,.agg row] [.one (.lit (.bool true))]:=by
 obtain ⟨i0,i1,rfl,g0,g1⟩:=ZjX hok;refine gI 16927 Tryz.func214 ?_;exact fT (@beq_self_eq_true.{0})
theorem ZA9 (hok:Zaj (Zac .sub) row) (hb:bulkRow row<=1048576):Con e0 202 [.agg row] [.agg row]:=by
 obtain ⟨i0,i1,rfl,g0,g1⟩:=ZjX hok;simp only [bulkRow,ZaS] at hb;refine gI (ts:=[.cell 2 252]) 15 Tryz.func202 ?_;exact fD @e0P
theorem Zw6 (hok:Zai (Zac .sub) rows) (h0:0<=left) (h1:left<=1048576):Con e0 113 [.one (.sl rows),.one (.lit (.int .i64 left))] [.one (.lit (.int .i64 (sub left (rows.length+bulkRows rows))))]:=by
 refine Zb9 (by kernel_rfl) fun hm=>?_;unfold maxLen at hm;have w:IntKind.i64.wrap (left - (rows.length:Int))=left - (rows.length:Int):=IntWalk.i64_in _ om;rw [Zw2 (fs:=Zac .sub) (by rfl) hok,Nat.add_zero];refine gI 1043 Tryz.func113 ?_;by_cases q:left < (rows.length:Int)
 ·rw [Zar om];have q':(left - (rows.length:Int) < 0)=True:=eq_true om;exact fT (ai @w @q')
 have q':(left - (rows.length:Int) < 0)=False:=eq_false om;rw [ZaA om];exact fT (ai @w @q')
theorem Zw7 (hok:Zai (Zac .sub) rows):Con e0 134 [.one (.sl rows),.one (.sl rows)] [.one (.lit (.bool true))]:=by
 refine Zb9 (by kernel_rfl) fun hm=>?_;unfold maxLen at hm;have hrb:Zav 2 rows=true:=ZaO.2 hok.rowsLen;refine gI 67126323 Tryz.func134 ?_;refine fG (@beq_self_eq_true.{0}) ?_;have F:=@e0P;refine gL (ι:=Nat) [4,5,14,26] [] (fun x=>[(5,.d (.one (.lit (.int .i64 (x:Int)))))]) (fun x=>[]) (fun x=>x<=rows.length) (fun x=>rows.length - x) (0) (Taj _) (fun x hx=>?_);clear F;by_cases hlt:x < rows.length
 ·obtain ⟨r,hr⟩:∃ r,rows[x]?=some r:=⟨_,Taa hlt⟩;have hq:=hok.get hr;obtain ⟨ln,tk,dr⟩:=hq.take (n:=2) rfl;have okc:=hq.cells;have q1:=lT x rows.length;have wi:=Zan (k:=x) om;have fe:=aj10 hr hlt Zal hrb q1 okc ln tk dr (@Za3 C);refine fB @fe ?_;refine fC @fe (ZA8 hq) ?_;refine fR @fe ?_;have F:=@wi;refine gG ?_;exact ⟨x+1,hlt,gw,gw,om⟩
 ·obtain rfl:x=rows.length:=by omega
  have q1:=lF rows.length rows.length;exact fT @q1
theorem Zw8 (hok:Zai (Zac .sub) rows) (hb:rows.length+bulkRows rows<=1048576):Con e0 123 [.one (.sl rows)] [.one (.sl rows)]:=by
 have hrb:Zav 2 rows=true:=ZaO.2 hok.rowsLen;have hmx:((rows.length:Int)<=(maxApp:Int))=True:=eq_true (by unfold maxApp;omega);refine gI (ts:=[.slot 2]) 2077 Tryz.func123 ?_;refine fG (ai @hmx @Tbx) ?_;have F:=aj3 @nla @Nat.sub_zero @tk0;refine gL (ι:=Nat) [3,4,11] [3] (fun x=>[(4,.d (.one (.lit (.int .i64 (x:Int))))),(3,.buf 3)]) (fun x=>[(3,.buf none 252 2 (rows.take x++List.replicate (rows.length - x) [C.lit (.int .i64 0),C.lit (.int .i64 0)]))]) (fun x=>x<=rows.length) (fun x=>rows.length - x) (0) (Taj _) (fun x hx=>?_);clear F
 by_cases hlt:x < rows.length
 ·obtain ⟨r,hr⟩:∃ r,rows[x]?=some r:=⟨_,Taa hlt⟩;have hq:=hok.get hr;obtain ⟨ln,tk,dr⟩:=hq.take (n:=2) rfl;have okc:=hq.cells;have q1:=lT x rows.length;have wi:=Zan (k:=x) om;obtain ⟨bl,bs,bg⟩:=ZcK (z:=[C.lit (.int .i64 0),C.lit (.int .i64 0)]) hr;generalize rows.take x++List.replicate (rows.length - x) [C.lit (.int .i64 0),C.lit (.int .i64 0)]=R at bl bs bg ⊢;have hbr:=Zck hr;have fe:=aj13 bg bl bs hr hlt Zal hrb q1 okc ln tk dr (@Za3 C)
  refine fB @fe ?_;refine fC @fe (ZA9 hq om) ?_;refine fR @fe ?_;have F:=ai @wi @bs;refine gG ?_;exact ⟨x+1,hlt,gw,gw,om⟩
 ·obtain rfl:x=rows.length:=by omega
  have q1:=lF rows.length rows.length;rw [Nat.sub_self,List.replicate_zero,List.append_nil,Tap];have F:=@q1;refine gG ?_;exact gTz [2]
theorem ZtJ (hok:Zaj (Zca) row) (h0:0<=left) (h1:left<=1048576):Con e0 47 [.agg row,.one (.lit (.int .i64 left))] [.one (.lit (.int .i64 (sub left (bulkRow row))))]:=by
 obtain ⟨r0,r1,rfl,g0,g1⟩:=Zh4 hok;rw [show bulkRow [.sl r0,.sl r1]=(r0.length+bulkRows r0)+(r1.length+bulkRows r1) by simp only [bulkRow,ZaS];omega];refine gI 66583 Tryz.func47 ?_;refine fB @e0P ?_;refine fC @e0P (Zp2 g0 (left:=left) om om) ?_;refine fR @e0P ?_;by_cases q:left < (((r0.length+bulkRows r0):Nat):Int)
 ·rw [Zar (b:=(r0.length+bulkRows r0)) q]
  try rw [Zar om]
  have q':=lT (-1) 0;exact fT @q'
 rw [ZaA (b:=(r0.length+bulkRows r0)) om];have q':(left - (((r0.length+bulkRows r0):Nat):Int) < 0)=False:=eq_false om;refine fG @q' ?_;obtain ⟨L0,e0⟩:∃ x,x=left - (((r0.length+bulkRows r0):Nat):Int):=⟨_,rfl⟩;rw [<- e0];clear q';refine fB @e0P ?_;refine fC @e0P (Zw6 g1 (left:=L0) om om) ?_;refine fR @e0P ?_;by_cases q:L0 < (((r1.length+bulkRows r1):Nat):Int)
 ·rw [Zar (b:=(r1.length+bulkRows r1)) q]
  try rw [Zar om]
  have q':=lT (-1) 0;exact fT @q'
 rw [ZaA (b:=(r1.length+bulkRows r1)) om];have q':(L0 - (((r1.length+bulkRows r1):Nat):Int) < 0)=False:=eq_false om;refine fG @q' ?_;obtain ⟨L1,e1⟩:∃ x,x=L0 - (((r1.length+bulkRows r1):Nat):Int):=⟨_,rfl⟩;rw [<- e1];clear q'
 try rw [ZaA om,show left - (((r0.length+bulkRows r0)+(r1.length+bulkRows r1):Nat):Int)=L1 by omega]
 exact fT @e0P
theorem ZtK (hok:Zaj (Zca) row):Con e0 61 [.agg row,.agg row] [.one (.lit (.bool true))]:=by
 obtain ⟨r0,r1,rfl,g0,g1⟩:=Zh4 hok;refine gI 66591 Tryz.func61 ?_;refine fB (@beq_self_eq_true.{0}) ?_;refine fC @e0P (Zp3 g0) ?_;refine fR @e0P ?_;refine fB (@beq_self_eq_true.{0}) ?_;refine fC @e0P (Zw7 g1) ?_;refine fR @e0P ?_;exact fT (@beq_self_eq_true.{0})
theorem ZtL (hok:Zaj (Zca) row) (hb:bulkRow row<=1048576):Con e0 53 [.agg row] [.agg row]:=by
 obtain ⟨r0,r1,rfl,g0,g1⟩:=Zh4 hok;simp only [bulkRow,ZaS] at hb;refine gI (ts:=[.cell 2 38]) 15 Tryz.func53 ?_;refine fB @e0P ?_;refine fC @e0P (Zp4 g0 om) ?_;refine fR @e0P ?_;refine fB @e0P ?_;refine fC @e0P (Zw8 g1 om) ?_;refine fR @e0P ?_;exact fD @e0P
theorem ZnU (hok:Zaj (sigF) row) (h0:0<=left) (h1:left<=1048576):Con e0 8 [.agg row,.one (.lit (.int .i64 left))] [.one (.lit (.int .i64 (sub left (bulkRow row))))]:=by
 obtain ⟨r0,r1,r2,rfl,g0,g1,g2⟩:=Zew hok;rw [show bulkRow [.sl r0,.sl r1,.sl r2]=bulkRow [.sl r0,.sl r1]+(r2.length+bulkRows r2) by simp only [bulkRow,ZaS];omega];refine gI 66583 Tryz.func8 ?_;refine fB @e0P ?_;refine fC @e0P (ZtJ (Zh5 g0 g1) (left:=left) om om) ?_;refine fR @e0P ?_;by_cases q:left < ((bulkRow [.sl r0,.sl r1]:Nat):Int)
 ·rw [Zar (b:=bulkRow [.sl r0,.sl r1]) q]
  try rw [Zar om]
  have q':=lT (-1) 0;exact fT @q'
 rw [ZaA (b:=bulkRow [.sl r0,.sl r1]) om];have q':(left - ((bulkRow [.sl r0,.sl r1]:Nat):Int) < 0)=False:=eq_false om;refine fG @q' ?_;obtain ⟨L0,e0⟩:∃ x,x=left - ((bulkRow [.sl r0,.sl r1]:Nat):Int):=⟨_,rfl⟩;rw [<- e0];clear q';refine fB @e0P ?_;refine fC @e0P (ZA5 g2 (left:=L0) om om) ?_;refine fR @e0P ?_;by_cases q:L0 < (((r2.length+bulkRows r2):Nat):Int)
 ·rw [Zar (b:=(r2.length+bulkRows r2)) q]
  try rw [Zar om]
  have q':=lT (-1) 0;exact fT @q'
 rw [ZaA (b:=(r2.length+bulkRows r2)) om];have q':(L0 - (((r2.length+bulkRows r2):Nat):Int) < 0)=False:=eq_false om;refine fG @q' ?_;obtain ⟨L1,e1⟩:∃ x,x=L0 - (((r2.length+bulkRows r2):Nat):Int):=⟨_,rfl⟩;rw [<- e1];clear q'
 try rw [ZaA om,show left - ((bulkRow [.sl r0,.sl r1]+(r2.length+bulkRows r2):Nat):Int)=L1 by omega]
 exact fT @e0P
theorem ZnV (hok:Zaj (sigF) row):Con e0 15 [.agg row,.agg row] [.one (.lit (.bool true))]:=by
 obtain ⟨r0,r1,r2,rfl,g0,g1,g2⟩:=Zew hok;refine gI 66591 Tryz.func15 ?_;refine fB (@beq_self_eq_true.{0}) ?_;refine fC @e0P (ZtK (Zh5 g0 g1)) ?_;refine fR @e0P ?_;refine fB (@beq_self_eq_true.{0}) ?_;refine fC @e0P (ZA6 g2) ?_;refine fR @e0P ?_;exact fT (@beq_self_eq_true.{0})
theorem ZnW (hok:Zaj (sigF) row) (hb:bulkRow row<=1048576):Con e0 11 [.agg row] [.agg row]:=by
 obtain ⟨r0,r1,r2,rfl,g0,g1,g2⟩:=Zew hok;simp only [bulkRow,ZaS] at hb;refine gI (ts:=[.cell 2 41]) 15 Tryz.func11 ?_;refine fB @e0P ?_;refine fC @e0P (ZtL (Zh5 g0 g1) (by simp only [bulkRow,ZaS];omega)) ?_;refine fR @e0P ?_;refine fB @e0P ?_;refine fC @e0P (ZA7 g2 om) ?_;refine fR @e0P ?_;exact fD @e0P
theorem ZsB (hok:Zaj (ZbQ) row) (h0:0<=left) (h1:left<=1048576):Con e0 26 [.agg row,.one (.lit (.int .i64 left))] [.one (.lit (.int .i64 (sub left (bulkRow row))))]:=by
 obtain ⟨r0,r1,r2,r3,r4,rfl,g0,g1,g2,g3,g4⟩:=ZfK hok;rw [show bulkRow [.sl r0,.sl r1,.sl r2,.sl r3,.sl r4]=bulkRow [.sl r0,.sl r1,.sl r2]+(r3.length+bulkRows r3)+(r4.length+bulkRows r4) by simp only [bulkRow,ZaS];omega];refine gI 4260887 Tryz.func26 ?_;refine fB @e0P ?_;refine fC @e0P (ZnU (Zex g0 g1 g2) (left:=left) om om) ?_;refine fR @e0P ?_;by_cases q:left < ((bulkRow [.sl r0,.sl r1,.sl r2]:Nat):Int)
 ·rw [Zar (b:=bulkRow [.sl r0,.sl r1,.sl r2]) q]
  try rw [Zar om]
  have q':=lT (-1) 0;exact fT @q'
 rw [ZaA (b:=bulkRow [.sl r0,.sl r1,.sl r2]) om];have q':(left - ((bulkRow [.sl r0,.sl r1,.sl r2]:Nat):Int) < 0)=False:=eq_false om;refine fG @q' ?_;obtain ⟨L0,e0⟩:∃ x,x=left - ((bulkRow [.sl r0,.sl r1,.sl r2]:Nat):Int):=⟨_,rfl⟩;rw [<- e0];clear q';refine fB @e0P ?_;refine fC @e0P (ZhZ g3 (left:=L0) om om) ?_;refine fR @e0P ?_;by_cases q:L0 < (((r3.length+bulkRows r3):Nat):Int)
 ·rw [Zar (b:=(r3.length+bulkRows r3)) q]
  try rw [Zar om]
  have q':=lT (-1) 0;exact fT @q'
 rw [ZaA (b:=(r3.length+bulkRows r3)) om];have q':(L0 - (((r3.length+bulkRows r3):Nat):Int) < 0)=False:=eq_false om;refine fG @q' ?_;obtain ⟨L1,e1⟩:∃ x,x=L0 - (((r3.length+bulkRows r3):Nat):Int):=⟨_,rfl⟩;rw [<- e1];clear q';refine fB @e0P ?_;refine fC @e0P (ZhZ g4 (left:=L1) om om) ?_;refine fR @e0P ?_;by_cases q:L1 < (((r4.length+bulkRows r4):Nat):Int)
 ·rw [Zar (b:=(r4.length+bulkRows r4)) q]
  try rw [Zar om]
  have q':=lT (-1) 0;exact fT @q'
 rw [ZaA (b:=(r4.length+bulkRows r4)) om];have q':(L1 - (((r4.length+bulkRows r4):Nat):Int) < 0)=False:=eq_false om;refine fG @q' ?_;obtain ⟨L2,e2⟩:∃ x,x=L1 - (((r4.length+bulkRows r4):Nat):Int):=⟨_,rfl⟩;rw [<- e2];clear q'
 try rw [ZaA om,show left - ((bulkRow [.sl r0,.sl r1,.sl r2]+(r3.length+bulkRows r3)+(r4.length+bulkRows r4):Nat):Int)=L2 by omega]
 exact fT @e0P
theorem ZsC (hok:Zaj (ZbQ) row):Con e0 32 [.agg row,.agg row] [.one (.lit (.bool true))]:=by
 obtain ⟨r0,r1,r2,r3,r4,rfl,g0,g1,g2,g3,g4⟩:=ZfK hok;refine gI 4260895 Tryz.func32 ?_;refine fB (@beq_self_eq_true.{0}) ?_;refine fC @e0P (ZnV (Zex g0 g1 g2)) ?_;refine fR @e0P ?_;refine fB (@beq_self_eq_true.{0}) ?_;refine fC @e0P (Zh0 g3) ?_;refine fR @e0P ?_;refine fB (@beq_self_eq_true.{0}) ?_;refine fC @e0P (Zh0 g4) ?_;refine fR @e0P ?_;exact fT (@beq_self_eq_true.{0})
theorem ZsD (hok:Zaj (ZbQ) row) (hb:bulkRow row<=1048576):Con e0 29 [.agg row] [.agg row]:=by
 obtain ⟨r0,r1,r2,r3,r4,rfl,g0,g1,g2,g3,g4⟩:=ZfK hok;simp only [bulkRow,ZaS] at hb;refine gI (ts:=[.cell 2 77]) 15 Tryz.func29 ?_;refine fB @e0P ?_;refine fC @e0P (ZnW (Zex g0 g1 g2) (by simp only [bulkRow,ZaS];omega)) ?_;refine fR @e0P ?_;refine fB @e0P ?_;refine fC @e0P (Zh1 g3 om) ?_;refine fR @e0P ?_;refine fB @e0P ?_;refine fC @e0P (Zh1 g4 om) ?_;refine fR @e0P ?_;exact fD @e0P
theorem Zp5 (hok:Zaj (Zac .binding) row) (h0:0<=left) (h1:left<=1048576):Con e0 306 [.agg row,.one (.lit (.int .i64 left))] [.one (.lit (.int .i64 (sub left (bulkRow row))))]:=by
 obtain ⟨i0,t1,i2,r3,i4,t5,i6,r7,rfl,g0,g1,g2,g3,g4,g5,g6,g7⟩:=Zfj hok;rw [show bulkRow [.lit (.int .i64 i0),.lit (.string t1),.lit (.int .i64 i2),.sl r3,.lit (.int .i64 i4),.lit (.string t5),.lit (.int .i64 i6),.sl r7]=bulkRow [.lit (.int .i64 i0),.lit (.string t1),.lit (.int .i64 i2),.sl r3]+bulkRow [.lit (.int .i64 i4),.lit (.string t5),.lit (.int .i64 i6),.sl r7] by simp only [bulkRow,ZaS];omega]
 refine gI 66583 Tryz.func306 ?_;refine fB @e0P ?_;refine fC @e0P (ZdQ (Zbd g0 g1 g2 g3) (left:=left) om om) ?_;refine fR @e0P ?_;by_cases q:left < ((bulkRow [.lit (.int .i64 i0),.lit (.string t1),.lit (.int .i64 i2),.sl r3]:Nat):Int)
 ·rw [Zar (b:=bulkRow [.lit (.int .i64 i0),.lit (.string t1),.lit (.int .i64 i2),.sl r3]) q]
  try rw [Zar om]
  have q':=lT (-1) 0;exact fT @q'
 rw [ZaA (b:=bulkRow [.lit (.int .i64 i0),.lit (.string t1),.lit (.int .i64 i2),.sl r3]) om];have q':(left - ((bulkRow [.lit (.int .i64 i0),.lit (.string t1),.lit (.int .i64 i2),.sl r3]:Nat):Int) < 0)=False:=eq_false om;refine fG @q' ?_;obtain ⟨L0,e0⟩:∃ x,x=left - ((bulkRow [.lit (.int .i64 i0),.lit (.string t1),.lit (.int .i64 i2),.sl r3]:Nat):Int):=⟨_,rfl⟩;rw [<- e0];clear q';refine fB @e0P ?_;refine fC @e0P (ZdQ (Zbd g4 g5 g6 g7) (left:=L0) om om) ?_
 refine fR @e0P ?_;by_cases q:L0 < ((bulkRow [.lit (.int .i64 i4),.lit (.string t5),.lit (.int .i64 i6),.sl r7]:Nat):Int)
 ·rw [Zar (b:=bulkRow [.lit (.int .i64 i4),.lit (.string t5),.lit (.int .i64 i6),.sl r7]) q]
  try rw [Zar om]
  have q':=lT (-1) 0;exact fT @q'
 rw [ZaA (b:=bulkRow [.lit (.int .i64 i4),.lit (.string t5),.lit (.int .i64 i6),.sl r7]) om];have q':(L0 - ((bulkRow [.lit (.int .i64 i4),.lit (.string t5),.lit (.int .i64 i6),.sl r7]:Nat):Int) < 0)=False:=eq_false om;refine fG @q' ?_;obtain ⟨L1,e1⟩:∃ x,x=L0 - ((bulkRow [.lit (.int .i64 i4),.lit (.string t5),.lit (.int .i64 i6),.sl r7]:Nat):Int):=⟨_,rfl⟩;rw [<- e1];clear q'
 try rw [ZaA om,show left - ((bulkRow [.lit (.int .i64 i0),.lit (.string t1),.lit (.int .i64 i2),.sl r3]+bulkRow [.lit (.int .i64 i4),.lit (.string t5),.lit (.int .i64 i6),.sl r7]:Nat):Int)=L1 by omega]
 exact fT @e0P
theorem Zp6 (hok:Zaj (Zac .binding) row):Con e0 191 [.agg row,.agg row] [.one (.lit (.bool true))]:=by
 obtain ⟨i0,t1,i2,r3,i4,t5,i6,r7,rfl,g0,g1,g2,g3,g4,g5,g6,g7⟩:=Zfj hok;refine gI 66591 Tryz.func191 ?_;refine fB (@beq_self_eq_true.{0}) ?_;refine fC @e0P (ZdR (Zbd g0 g1 g2 g3)) ?_;refine fR @e0P ?_;refine fB (@beq_self_eq_true.{0}) ?_;refine fC @e0P (ZdR (Zbd g4 g5 g6 g7)) ?_;refine fR @e0P ?_;exact fT (@beq_self_eq_true.{0})
theorem Zp7 (hok:Zaj (Zac .binding) row) (hb:bulkRow row<=1048576):Con e0 307 [.agg row] [.agg row]:=by
 obtain ⟨i0,t1,i2,r3,i4,t5,i6,r7,rfl,g0,g1,g2,g3,g4,g5,g6,g7⟩:=Zfj hok;simp only [bulkRow,ZaS] at hb;refine gI (ts:=[.cell 2 156]) 15 Tryz.func307 ?_;refine fB @e0P ?_;refine fC @e0P (ZdS (Zbd g0 g1 g2 g3) (by simp only [bulkRow,ZaS];omega)) ?_;refine fR @e0P ?_;refine fB @e0P ?_;refine fC @e0P (ZdS (Zbd g4 g5 g6 g7) (by simp only [bulkRow,ZaS];omega)) ?_;refine fR @e0P ?_;exact fD @e0P
theorem Zoz (hok:Zai (Zac .binding) rows) (h0:0<=left) (h1:left<=1048576):Con e0 286 [.one (.sl rows),.one (.lit (.int .i64 left))] [.one (.lit (.int .i64 (sub left (rows.length+bulkRows rows))))]:=by
 refine Zb9 (by kernel_rfl) fun hm=>?_;unfold maxLen at hm;have w:IntKind.i64.wrap (left - (rows.length:Int))=left - (rows.length:Int):=IntWalk.i64_in _ om;have hrb:Zav 8 rows=true:=ZaO.2 hok.rowsLen;refine gI 33589299 Tryz.func286 ?_;by_cases q:left < (rows.length:Int)
 ·rw [Zar om];have q':(left - (rows.length:Int) < 0)=True:=eq_true om;exact fT (ai @w @q')
 have q':(left - (rows.length:Int) < 0)=False:=eq_false om;refine fG (ai @w @q') ?_;have F:=aj4 @tk0 @ZdW @Int.natCast_zero @Int.sub_zero;refine gL (ι:=Nat) [1,4,5,15,25] [] (fun x=>[(5,.d (.one (.lit (.int .i64 (x:Int))))),(1,.d (.one (.lit (.int .i64 (left - (rows.length:Int) - (bulkRows (rows.take x):Int))))))]) (fun x=>[]) (fun x=>x<=rows.length∧0<=left - (rows.length:Int) - (bulkRows (rows.take x):Int)) (fun x=>rows.length - x) (0) (⟨Taj _,by simp [bulkRows];omega⟩) (fun x hx=>?_);clear F
 obtain ⟨hx,hl⟩:=hx;by_cases hlt:x < rows.length
 ·obtain ⟨r,hr⟩:∃ r,rows[x]?=some r:=⟨_,Taa hlt⟩;have hq:=hok.get hr;obtain ⟨ln,tk,dr⟩:=hq.take (n:=8) rfl;have okc:=hq.cells;have q1:=lT x rows.length;have wi:=Zan (k:=x) om;have hbt:=Zdo hr;have hbl:=Zcy rows (x+1)
  skip
  have fe:=aj10 hr hlt Zal hrb q1 okc ln tk dr (@Za3 C);obtain ⟨l,hle⟩:∃ l,l=left - (rows.length:Int) - (bulkRows (rows.take x):Int):=⟨_,rfl⟩;rw [<- hle];refine fB @fe ?_;refine fC @fe (Zp5 hq (left:=l) om om) ?_;refine fR @fe ?_;by_cases q:l < ((bulkRow r:Nat):Int)
  ·rw [Zar (b:=bulkRow r) q,Zar om];have q':=lT (-1) 0;exact fT @q'
  rw [ZaA (b:=bulkRow r) om];have q':(l - ((bulkRow r:Nat):Int) < 0)=False:=eq_false om;have e:left - (rows.length:Int) - (bulkRows (rows.take (x+1)):Int)=l - ((bulkRow r:Nat):Int):=om;have F:=aj3 @q' @wi @e;refine gG ?_;exact ⟨x+1,⟨hlt,om⟩,gw,gw,om⟩
 ·obtain rfl:x=rows.length:=by omega
  have q1:=lF rows.length rows.length;rw [Tap] at hl ⊢;rw [ZaA om,show left - ((rows.length+bulkRows rows:Nat):Int)=left - (rows.length:Int) - (bulkRows rows:Int) by omega];exact fT @q1
theorem ZoA (hok:Zai (Zac .binding) rows):Con e0 109 [.one (.sl rows),.one (.sl rows)] [.one (.lit (.bool true))]:=by
 refine Zb9 (by kernel_rfl) fun hm=>?_;unfold maxLen at hm;have hrb:Zav 8 rows=true:=ZaO.2 hok.rowsLen;refine gI 67126323 Tryz.func109 ?_;refine fG (@beq_self_eq_true.{0}) ?_;have F:=@e0P;refine gL (ι:=Nat) [4,5,14,26] [] (fun x=>[(5,.d (.one (.lit (.int .i64 (x:Int)))))]) (fun x=>[]) (fun x=>x<=rows.length) (fun x=>rows.length - x) (0) (Taj _) (fun x hx=>?_);clear F;by_cases hlt:x < rows.length
 ·obtain ⟨r,hr⟩:∃ r,rows[x]?=some r:=⟨_,Taa hlt⟩;have hq:=hok.get hr;obtain ⟨ln,tk,dr⟩:=hq.take (n:=8) rfl;have okc:=hq.cells;have q1:=lT x rows.length;have wi:=Zan (k:=x) om;have fe:=aj10 hr hlt Zal hrb q1 okc ln tk dr (@Za3 C);refine fB @fe ?_;refine fC @fe (Zp6 hq) ?_;refine fR @fe ?_;have F:=@wi;refine gG ?_;exact ⟨x+1,hlt,gw,gw,om⟩
 ·obtain rfl:x=rows.length:=by omega
  have q1:=lF rows.length rows.length;exact fT @q1
theorem ZoB (hok:Zai (Zac .binding) rows) (hb:rows.length+bulkRows rows<=1048576):Con e0 287 [.one (.sl rows)] [.one (.sl rows)]:=by
 have hrb:Zav 8 rows=true:=ZaO.2 hok.rowsLen;have hmx:((rows.length:Int)<=(maxApp:Int))=True:=eq_true (by unfold maxApp;omega);refine gI (ts:=[.slot 2]) 2077 Tryz.func287 ?_;refine fG (ai @hmx @Tbx) ?_;have F:=aj3 @nla @Nat.sub_zero @tk0;refine gL (ι:=Nat) [3,4,11] [3] (fun x=>[(4,.d (.one (.lit (.int .i64 (x:Int))))),(3,.buf 3)]) (fun x=>[(3,.buf none 156 8 (rows.take x++List.replicate (rows.length - x) [C.lit (.int .i64 0),C.lit (.string .empty),C.lit (.int .i64 0),C.sl [],C.lit (.int .i64 0),C.lit (.string .empty),C.lit (.int .i64 0),C.sl []]))]) (fun x=>x<=rows.length) (fun x=>rows.length - x) (0) (Taj _) (fun x hx=>?_);clear F
 by_cases hlt:x < rows.length
 ·obtain ⟨r,hr⟩:∃ r,rows[x]?=some r:=⟨_,Taa hlt⟩;have hq:=hok.get hr;obtain ⟨ln,tk,dr⟩:=hq.take (n:=8) rfl;have okc:=hq.cells;have q1:=lT x rows.length;have wi:=Zan (k:=x) om;obtain ⟨bl,bs,bg⟩:=ZcK (z:=[C.lit (.int .i64 0),C.lit (.string .empty),C.lit (.int .i64 0),C.sl [],C.lit (.int .i64 0),C.lit (.string .empty),C.lit (.int .i64 0),C.sl []]) hr;generalize rows.take x++List.replicate (rows.length - x) [C.lit (.int .i64 0),C.lit (.string .empty),C.lit (.int .i64 0),C.sl [],C.lit (.int .i64 0),C.lit (.string .empty),C.lit (.int .i64 0),C.sl []]=R at bl bs bg ⊢
  have hbr:=Zck hr;have fe:=aj13 bg bl bs hr hlt Zal hrb q1 okc ln tk dr (@Za3 C);refine fB @fe ?_;refine fC @fe (Zp7 hq om) ?_;refine fR @fe ?_;have F:=ai @wi @bs;refine gG ?_;exact ⟨x+1,hlt,gw,gw,om⟩
 ·obtain rfl:x=rows.length:=by omega
  have q1:=lF rows.length rows.length;rw [Nat.sub_self,List.replicate_zero,List.append_nil,Tap];have F:=@q1;refine gG ?_;exact gTz [2]
theorem Zmr (hok:Zaj (Zac .occ) row) (h0:0<=left) (h1:left<=1048576):Con e0 223 [.agg row,.one (.lit (.int .i64 left))] [.one (.lit (.int .i64 (sub left (bulkRow row))))]:=by
 obtain ⟨r0,r1,r2,r3,rfl,g0,g1,g2,g3⟩:=Zeb hok;rw [show bulkRow [.sl r0,.sl r1,.sl r2,.sl r3]=(r0.length+bulkRows r0)+(r1.length+bulkRows r1)+(r2.length+bulkRows r2)+(r3.length+bulkRows r3) by simp only [bulkRow,ZaS];omega];refine gI 272696343 Tryz.func223 ?_;refine fB @e0P ?_;refine fC @e0P (ZnR g0 (left:=left) om om) ?_;refine fR @e0P ?_;by_cases q:left < (((r0.length+bulkRows r0):Nat):Int)
 ·rw [Zar (b:=(r0.length+bulkRows r0)) q]
  try rw [Zar om]
  have q':=lT (-1) 0;exact fT @q'
 rw [ZaA (b:=(r0.length+bulkRows r0)) om];have q':(left - (((r0.length+bulkRows r0):Nat):Int) < 0)=False:=eq_false om;refine fG @q' ?_;obtain ⟨L0,e0⟩:∃ x,x=left - (((r0.length+bulkRows r0):Nat):Int):=⟨_,rfl⟩;rw [<- e0];clear q';refine fB @e0P ?_;refine fC @e0P (ZlI g1 (left:=L0) om om) ?_;refine fR @e0P ?_;by_cases q:L0 < (((r1.length+bulkRows r1):Nat):Int)
 ·rw [Zar (b:=(r1.length+bulkRows r1)) q]
  try rw [Zar om]
  have q':=lT (-1) 0;exact fT @q'
 rw [ZaA (b:=(r1.length+bulkRows r1)) om];have q':(L0 - (((r1.length+bulkRows r1):Nat):Int) < 0)=False:=eq_false om;refine fG @q' ?_;obtain ⟨L1,e1⟩:∃ x,x=L0 - (((r1.length+bulkRows r1):Nat):Int):=⟨_,rfl⟩;rw [<- e1];clear q';refine fB @e0P ?_;refine fC @e0P (ZlI g2 (left:=L1) om om) ?_;refine fR @e0P ?_;by_cases q:L1 < (((r2.length+bulkRows r2):Nat):Int)
 ·rw [Zar (b:=(r2.length+bulkRows r2)) q]
  try rw [Zar om]
  have q':=lT (-1) 0;exact fT @q'
 rw [ZaA (b:=(r2.length+bulkRows r2)) om];have q':(L1 - (((r2.length+bulkRows r2):Nat):Int) < 0)=False:=eq_false om;refine fG @q' ?_;obtain ⟨L2,e2⟩:∃ x,x=L1 - (((r2.length+bulkRows r2):Nat):Int):=⟨_,rfl⟩;rw [<- e2];clear q';refine fB @e0P ?_;refine fC @e0P (Zoz g3 (left:=L2) om om) ?_;refine fR @e0P ?_;by_cases q:L2 < (((r3.length+bulkRows r3):Nat):Int)
 ·rw [Zar (b:=(r3.length+bulkRows r3)) q]
  try rw [Zar om]
  have q':=lT (-1) 0;exact fT @q'
 rw [ZaA (b:=(r3.length+bulkRows r3)) om];have q':(L2 - (((r3.length+bulkRows r3):Nat):Int) < 0)=False:=eq_false om;refine fG @q' ?_;obtain ⟨L3,e3⟩:∃ x,x=L2 - (((r3.length+bulkRows r3):Nat):Int):=⟨_,rfl⟩;rw [<- e3];clear q'
 try rw [ZaA om,show left - (((r0.length+bulkRows r0)+(r1.length+bulkRows r1)+(r2.length+bulkRows r2)+(r3.length+bulkRows r3):Nat):Int)=L3 by omega]
 exact fT @e0P
theorem Zms (hok:Zaj (Zac .occ) row):Con e0 228 [.agg row,.agg row] [.one (.lit (.bool true))]:=by
 obtain ⟨r0,r1,r2,r3,rfl,g0,g1,g2,g3⟩:=Zeb hok;refine gI 272696351 Tryz.func228 ?_;refine fB (@beq_self_eq_true.{0}) ?_;refine fC @e0P (ZnS g0) ?_;refine fR @e0P ?_;refine fB (@beq_self_eq_true.{0}) ?_;refine fC @e0P (ZlJ g1) ?_;refine fR @e0P ?_;refine fB (@beq_self_eq_true.{0}) ?_;refine fC @e0P (ZlJ g2) ?_;refine fR @e0P ?_;refine fB (@beq_self_eq_true.{0}) ?_;refine fC @e0P (ZoA g3) ?_;refine fR @e0P ?_
 exact fT (@beq_self_eq_true.{0})
theorem Zmt (hok:Zaj (Zac .occ) row) (hb:bulkRow row<=1048576):Con e0 225 [.agg row] [.agg row]:=by
 obtain ⟨r0,r1,r2,r3,rfl,g0,g1,g2,g3⟩:=Zeb hok;simp only [bulkRow,ZaS] at hb;refine gI (ts:=[.cell 2 142]) 15 Tryz.func225 ?_;refine fB @e0P ?_;refine fC @e0P (ZnT g0 om) ?_;refine fR @e0P ?_;refine fB @e0P ?_;refine fC @e0P (ZlK g1 om) ?_;refine fR @e0P ?_;refine fB @e0P ?_;refine fC @e0P (ZlK g2 om) ?_;refine fR @e0P ?_;refine fB @e0P ?_;refine fC @e0P (ZoB g3 om) ?_;refine fR @e0P ?_;exact fD @e0P
theorem ZiG (hok:Zaj (Zac .chain) row) (HLink:∀ (rows:List (List C)),Za6 rows < ZaC row->Zai (Zac .link) rows->∀ {left:Int},0<=left->left<=1048576->Con e0 80 [.one (.sl rows),.one (.lit (.int .i64 left))] [.one (.lit (.int .i64 (sub left (rows.length+bulkRows rows))))]) (h0:0<=left) (h1:left<=1048576):Con e0 27 [.agg row,.one (.lit (.int .i64 left))] [.one (.lit (.int .i64 (sub left (bulkRow row))))]:=by
 obtain ⟨i0,t1,i2,r3,i4,t5,i6,r7,r8,rfl,g0,g1,g2,g3,g4,g5,g6,g7,g8⟩:=Zf4 hok;rw [show bulkRow [.lit (.int .i64 i0),.lit (.string t1),.lit (.int .i64 i2),.sl r3,.lit (.int .i64 i4),.lit (.string t5),.lit (.int .i64 i6),.sl r7,.sl r8]=bulkRow [.lit (.int .i64 i0),.lit (.string t1),.lit (.int .i64 i2),.sl r3]+bulkRow [.lit (.int .i64 i4),.lit (.string t5),.lit (.int .i64 i6),.sl r7]+(r8.length+bulkRows r8) by simp only [bulkRow,ZaS];omega]
 refine gI 4260887 Tryz.func27 ?_;refine fB @e0P ?_;refine fC @e0P (ZdQ (Zbd g0 g1 g2 g3) (left:=left) om om) ?_;refine fR @e0P ?_;by_cases q:left < ((bulkRow [.lit (.int .i64 i0),.lit (.string t1),.lit (.int .i64 i2),.sl r3]:Nat):Int)
 ·rw [Zar (b:=bulkRow [.lit (.int .i64 i0),.lit (.string t1),.lit (.int .i64 i2),.sl r3]) q]
  try rw [Zar om]
  have q':=lT (-1) 0;exact fT @q'
 rw [ZaA (b:=bulkRow [.lit (.int .i64 i0),.lit (.string t1),.lit (.int .i64 i2),.sl r3]) om];have q':(left - ((bulkRow [.lit (.int .i64 i0),.lit (.string t1),.lit (.int .i64 i2),.sl r3]:Nat):Int) < 0)=False:=eq_false om;refine fG @q' ?_;obtain ⟨L0,e0⟩:∃ x,x=left - ((bulkRow [.lit (.int .i64 i0),.lit (.string t1),.lit (.int .i64 i2),.sl r3]:Nat):Int):=⟨_,rfl⟩;rw [<- e0];clear q';refine fB @e0P ?_;refine fC @e0P (ZdQ (Zbd g4 g5 g6 g7) (left:=L0) om om) ?_
 refine fR @e0P ?_;by_cases q:L0 < ((bulkRow [.lit (.int .i64 i4),.lit (.string t5),.lit (.int .i64 i6),.sl r7]:Nat):Int)
 ·rw [Zar (b:=bulkRow [.lit (.int .i64 i4),.lit (.string t5),.lit (.int .i64 i6),.sl r7]) q]
  try rw [Zar om]
  have q':=lT (-1) 0;exact fT @q'
 rw [ZaA (b:=bulkRow [.lit (.int .i64 i4),.lit (.string t5),.lit (.int .i64 i6),.sl r7]) om];have q':(L0 - ((bulkRow [.lit (.int .i64 i4),.lit (.string t5),.lit (.int .i64 i6),.sl r7]:Nat):Int) < 0)=False:=eq_false om;refine fG @q' ?_;obtain ⟨L1,e1⟩:∃ x,x=L0 - ((bulkRow [.lit (.int .i64 i4),.lit (.string t5),.lit (.int .i64 i6),.sl r7]:Nat):Int):=⟨_,rfl⟩;rw [<- e1];clear q';refine fB @e0P ?_;refine fC @e0P (HLink r8 (by simp only [ZaC,Zcz];omega) g8 (left:=L1) om om) ?_
 refine fR @e0P ?_;by_cases q:L1 < (((r8.length+bulkRows r8):Nat):Int)
 ·rw [Zar (b:=(r8.length+bulkRows r8)) q]
  try rw [Zar om]
  have q':=lT (-1) 0;exact fT @q'
 rw [ZaA (b:=(r8.length+bulkRows r8)) om];have q':(L1 - (((r8.length+bulkRows r8):Nat):Int) < 0)=False:=eq_false om;refine fG @q' ?_;obtain ⟨L2,e2⟩:∃ x,x=L1 - (((r8.length+bulkRows r8):Nat):Int):=⟨_,rfl⟩;rw [<- e2];clear q'
 try rw [ZaA om,show left - ((bulkRow [.lit (.int .i64 i0),.lit (.string t1),.lit (.int .i64 i2),.sl r3]+bulkRow [.lit (.int .i64 i4),.lit (.string t5),.lit (.int .i64 i6),.sl r7]+(r8.length+bulkRows r8):Nat):Int)=L2 by omega]
 exact fT @e0P
theorem ZiH (hok:Zaj (Zac .chain) row) (HLink:∀ (rows:List (List C)),Za6 rows < ZaC row->Zai (Zac .link) rows->Con e0 90 [.one (.sl rows),.one (.sl rows)] [.one (.lit (.bool true))]):Con e0 33 [.agg row,.agg row] [.one (.lit (.bool true))]:=by
 obtain ⟨i0,t1,i2,r3,i4,t5,i6,r7,r8,rfl,g0,g1,g2,g3,g4,g5,g6,g7,g8⟩:=Zf4 hok;refine gI 4260895 Tryz.func33 ?_;refine fB (@beq_self_eq_true.{0}) ?_;refine fC @e0P (ZdR (Zbd g0 g1 g2 g3)) ?_;refine fR @e0P ?_;refine fB (@beq_self_eq_true.{0}) ?_;refine fC @e0P (ZdR (Zbd g4 g5 g6 g7)) ?_;refine fR @e0P ?_;refine fB (@beq_self_eq_true.{0}) ?_;refine fC @e0P (HLink r8 (by simp only [ZaC,Zcz];omega) g8) ?_
 refine fR @e0P ?_;exact fT (@beq_self_eq_true.{0})
theorem ZiI (hok:Zaj (Zac .chain) row) (HLink:∀ (rows:List (List C)),Za6 rows < ZaC row->Zai (Zac .link) rows->rows.length+bulkRows rows<=1048576->Con e0 85 [.one (.sl rows)] [.one (.sl rows)]) (hb:bulkRow row<=1048576):Con e0 30 [.agg row] [.agg row]:=by
 obtain ⟨i0,t1,i2,r3,i4,t5,i6,r7,r8,rfl,g0,g1,g2,g3,g4,g5,g6,g7,g8⟩:=Zf4 hok;simp only [bulkRow,ZaS] at hb;refine gI (ts:=[.cell 2 81]) 15 Tryz.func30 ?_;refine fB @e0P ?_;refine fC @e0P (ZdS (Zbd g0 g1 g2 g3) (by simp only [bulkRow,ZaS];omega)) ?_;refine fR @e0P ?_;refine fB @e0P ?_;refine fC @e0P (ZdS (Zbd g4 g5 g6 g7) (by simp only [bulkRow,ZaS];omega)) ?_;refine fR @e0P ?_;refine fB @e0P ?_;refine fC @e0P (HLink r8 (by simp only [ZaC,Zcz];omega) g8 om) ?_
 refine fR @e0P ?_;exact fD @e0P
theorem Zp8 (hok:Zaj (Zac .link) row) (HChain:∀ (rows:List (List C)),Za6 rows < ZaC row->Zai (Zac .chain) rows->∀ {left:Int},0<=left->left<=1048576->Con e0 224 [.one (.sl rows),.one (.lit (.int .i64 left))] [.one (.lit (.int .i64 (sub left (rows.length+bulkRows rows))))]) (h0:0<=left) (h1:left<=1048576):Con e0 154 [.agg row,.one (.lit (.int .i64 left))] [.one (.lit (.int .i64 (sub left (bulkRow row))))]:=by
 obtain ⟨i0,r1,r2,r3,r4,r5,rfl,g0,g1,g2,g3,g4,g5⟩:=ZgO hok;rw [show bulkRow [.lit (.int .i64 i0),.sl r1,.sl r2,.sl r3,.sl r4,.sl r5]=bulkRow [.sl r1,.sl r2,.sl r3,.sl r4]+(r5.length+bulkRows r5) by simp only [bulkRow,ZaS];omega];refine gI 66583 Tryz.func154 ?_;refine fB @e0P ?_;refine fC @e0P (Zmr (Zec g1 g2 g3 g4) (left:=left) om om) ?_;refine fR @e0P ?_;by_cases q:left < ((bulkRow [.sl r1,.sl r2,.sl r3,.sl r4]:Nat):Int)
 ·rw [Zar (b:=bulkRow [.sl r1,.sl r2,.sl r3,.sl r4]) q]
  try rw [Zar om]
  have q':=lT (-1) 0;exact fT @q'
 rw [ZaA (b:=bulkRow [.sl r1,.sl r2,.sl r3,.sl r4]) om];have q':(left - ((bulkRow [.sl r1,.sl r2,.sl r3,.sl r4]:Nat):Int) < 0)=False:=eq_false om;refine fG @q' ?_;obtain ⟨L0,e0⟩:∃ x,x=left - ((bulkRow [.sl r1,.sl r2,.sl r3,.sl r4]:Nat):Int):=⟨_,rfl⟩;rw [<- e0];clear q';refine fB @e0P ?_;refine fC @e0P (HChain r5 (by simp only [ZaC,Zcz];omega) g5 (left:=L0) om om) ?_;refine fR @e0P ?_;by_cases q:L0 < (((r5.length+bulkRows r5):Nat):Int)
 ·rw [Zar (b:=(r5.length+bulkRows r5)) q]
  try rw [Zar om]
  have q':=lT (-1) 0;exact fT @q'
 rw [ZaA (b:=(r5.length+bulkRows r5)) om];have q':(L0 - (((r5.length+bulkRows r5):Nat):Int) < 0)=False:=eq_false om;refine fG @q' ?_;obtain ⟨L1,e1⟩:∃ x,x=L0 - (((r5.length+bulkRows r5):Nat):Int):=⟨_,rfl⟩;rw [<- e1];clear q'
 try rw [ZaA om,show left - ((bulkRow [.sl r1,.sl r2,.sl r3,.sl r4]+(r5.length+bulkRows r5):Nat):Int)=L1 by omega]
 exact fT @e0P
theorem Zp9 (hok:Zaj (Zac .link) row) (HChain:∀ (rows:List (List C)),Za6 rows < ZaC row->Zai (Zac .chain) rows->Con e0 229 [.one (.sl rows),.one (.sl rows)] [.one (.lit (.bool true))]):Con e0 157 [.agg row,.agg row] [.one (.lit (.bool true))]:=by
 obtain ⟨i0,r1,r2,r3,r4,r5,rfl,g0,g1,g2,g3,g4,g5⟩:=ZgO hok;refine gI 2130463 Tryz.func157 ?_;refine fB (@beq_self_eq_true.{0}) ?_;refine fC @e0P (Zms (Zec g1 g2 g3 g4)) ?_;refine fR @e0P ?_;refine fB (@beq_self_eq_true.{0}) ?_;refine fC @e0P (HChain r5 (by simp only [ZaC,Zcz];omega) g5) ?_;refine fR @e0P ?_;exact fT (@beq_self_eq_true.{0})
theorem Zqa (hok:Zaj (Zac .link) row) (HChain:∀ (rows:List (List C)),Za6 rows < ZaC row->Zai (Zac .chain) rows->rows.length+bulkRows rows<=1048576->Con e0 226 [.one (.sl rows)] [.one (.sl rows)]) (hb:bulkRow row<=1048576):Con e0 155 [.agg row] [.agg row]:=by
 obtain ⟨i0,r1,r2,r3,r4,r5,rfl,g0,g1,g2,g3,g4,g5⟩:=ZgO hok;simp only [bulkRow,ZaS] at hb;refine gI (ts:=[.cell 2 145]) 15 Tryz.func155 ?_;refine fB @e0P ?_;refine fC @e0P (Zmt (Zec g1 g2 g3 g4) (by simp only [bulkRow,ZaS];omega)) ?_;refine fR @e0P ?_;refine fB @e0P ?_;refine fC @e0P (HChain r5 (by simp only [ZaC,Zcz];omega) g5 om) ?_;refine fR @e0P ?_;exact fD @e0P
theorem ZnX (hok:Zai (Zac .chain) rows) (h:∀ (i:Nat) r,rows[i]?=some r->∀ {left:Int},0<=left->left<=1048576->Con e0 27 [.agg r,.one (.lit (.int .i64 left))] [.one (.lit (.int .i64 (sub left (bulkRow r))))]) (h0:0<=left) (h1:left<=1048576):Con e0 224 [.one (.sl rows),.one (.lit (.int .i64 left))] [.one (.lit (.int .i64 (sub left (rows.length+bulkRows rows))))]:=by
 refine Zb9 (by kernel_rfl) fun hm=>?_;unfold maxLen at hm;have w:IntKind.i64.wrap (left - (rows.length:Int))=left - (rows.length:Int):=IntWalk.i64_in _ om;have hrb:Zav 9 rows=true:=ZaO.2 hok.rowsLen;refine gI 33589299 Tryz.func224 ?_;by_cases q:left < (rows.length:Int)
 ·rw [Zar om];have q':(left - (rows.length:Int) < 0)=True:=eq_true om;exact fT (ai @w @q')
 have q':(left - (rows.length:Int) < 0)=False:=eq_false om;refine fG (ai @w @q') ?_;have F:=aj4 @tk0 @ZdW @Int.natCast_zero @Int.sub_zero;refine gL (ι:=Nat) [1,4,5,15,25] [] (fun x=>[(5,.d (.one (.lit (.int .i64 (x:Int))))),(1,.d (.one (.lit (.int .i64 (left - (rows.length:Int) - (bulkRows (rows.take x):Int))))))]) (fun x=>[]) (fun x=>x<=rows.length∧0<=left - (rows.length:Int) - (bulkRows (rows.take x):Int)) (fun x=>rows.length - x) (0) (⟨Taj _,by simp [bulkRows];omega⟩) (fun x hx=>?_);clear F
 obtain ⟨hx,hl⟩:=hx;by_cases hlt:x < rows.length
 ·obtain ⟨r,hr⟩:∃ r,rows[x]?=some r:=⟨_,Taa hlt⟩;have hq:=hok.get hr;obtain ⟨ln,tk,dr⟩:=hq.take (n:=9) rfl;have okc:=hq.cells;have q1:=lT x rows.length;have wi:=Zan (k:=x) om;have hbt:=Zdo hr;have hbl:=Zcy rows (x+1)
  skip
  have fe:=aj10 hr hlt Zal hrb q1 okc ln tk dr (@Za3 C);obtain ⟨l,hle⟩:∃ l,l=left - (rows.length:Int) - (bulkRows (rows.take x):Int):=⟨_,rfl⟩;rw [<- hle];refine fB @fe ?_;refine fC @fe (h x _ hr (left:=l) om om) ?_;refine fR @fe ?_;by_cases q:l < ((bulkRow r:Nat):Int)
  ·rw [Zar (b:=bulkRow r) q,Zar om];have q':=lT (-1) 0;exact fT @q'
  rw [ZaA (b:=bulkRow r) om];have q':(l - ((bulkRow r:Nat):Int) < 0)=False:=eq_false om;have e:left - (rows.length:Int) - (bulkRows (rows.take (x+1)):Int)=l - ((bulkRow r:Nat):Int):=om;have F:=aj3 @q' @wi @e;refine gG ?_;exact ⟨x+1,⟨hlt,om⟩,gw,gw,om⟩
 ·obtain rfl:x=rows.length:=by omega
  have q1:=lF rows.length rows.length;rw [Tap] at hl ⊢;rw [ZaA om,show left - ((rows.length+bulkRows rows:Nat):Int)=left - (rows.length:Int) - (bulkRows rows:Int) by omega];exact fT @q1
theorem ZnY (hok:Zai (Zac .chain) rows) (h:∀ (i:Nat) r,rows[i]?=some r->Con e0 33 [.agg r,.agg r] [.one (.lit (.bool true))]):Con e0 229 [.one (.sl rows),.one (.sl rows)] [.one (.lit (.bool true))]:=by
 refine Zb9 (by kernel_rfl) fun hm=>?_;unfold maxLen at hm;have hrb:Zav 9 rows=true:=ZaO.2 hok.rowsLen;refine gI 67126323 Tryz.func229 ?_;refine fG (@beq_self_eq_true.{0}) ?_;have F:=@e0P;refine gL (ι:=Nat) [4,5,14,26] [] (fun x=>[(5,.d (.one (.lit (.int .i64 (x:Int)))))]) (fun x=>[]) (fun x=>x<=rows.length) (fun x=>rows.length - x) (0) (Taj _) (fun x hx=>?_);clear F;by_cases hlt:x < rows.length
 ·obtain ⟨r,hr⟩:∃ r,rows[x]?=some r:=⟨_,Taa hlt⟩;have hq:=hok.get hr;obtain ⟨ln,tk,dr⟩:=hq.take (n:=9) rfl;have okc:=hq.cells;have q1:=lT x rows.length;have wi:=Zan (k:=x) om;have fe:=aj10 hr hlt Zal hrb q1 okc ln tk dr (@Za3 C);refine fB @fe ?_;refine fC @fe (h x _ hr) ?_;refine fR @fe ?_;have F:=@wi;refine gG ?_;exact ⟨x+1,hlt,gw,gw,om⟩
 ·obtain rfl:x=rows.length:=by omega
  have q1:=lF rows.length rows.length;exact fT @q1
theorem ZnZ (hok:Zai (Zac .chain) rows) (h:∀ (i:Nat) r,rows[i]?=some r->bulkRow r<=1048576->Con e0 30 [.agg r] [.agg r]) (hb:rows.length+bulkRows rows<=1048576):Con e0 226 [.one (.sl rows)] [.one (.sl rows)]:=by
 have hrb:Zav 9 rows=true:=ZaO.2 hok.rowsLen;have hmx:((rows.length:Int)<=(maxApp:Int))=True:=eq_true (by unfold maxApp;omega);refine gI (ts:=[.slot 2]) 2077 Tryz.func226 ?_;refine fG (ai @hmx @Tbx) ?_;have F:=aj3 @nla @Nat.sub_zero @tk0;refine gL (ι:=Nat) [3,4,11] [3] (fun x=>[(4,.d (.one (.lit (.int .i64 (x:Int))))),(3,.buf 3)]) (fun x=>[(3,.buf none 81 9 (rows.take x++List.replicate (rows.length - x) [C.lit (.int .i64 0),C.lit (.string .empty),C.lit (.int .i64 0),C.sl [],C.lit (.int .i64 0),C.lit (.string .empty),C.lit (.int .i64 0),C.sl [],C.sl []]))]) (fun x=>x<=rows.length) (fun x=>rows.length - x) (0) (Taj _) (fun x hx=>?_);clear F
 by_cases hlt:x < rows.length
 ·obtain ⟨r,hr⟩:∃ r,rows[x]?=some r:=⟨_,Taa hlt⟩;have hq:=hok.get hr;obtain ⟨ln,tk,dr⟩:=hq.take (n:=9) rfl;have okc:=hq.cells;have q1:=lT x rows.length;have wi:=Zan (k:=x) om;obtain ⟨bl,bs,bg⟩:=ZcK (z:=[C.lit (.int .i64 0),C.lit (.string .empty),C.lit (.int .i64 0),C.sl [],C.lit (.int .i64 0),C.lit (.string .empty),C.lit (.int .i64 0),C.sl [],C.sl []]) hr;generalize rows.take x++List.replicate (rows.length - x) [C.lit (.int .i64 0),C.lit (.string .empty),C.lit (.int .i64 0),C.sl [],C.lit (.int .i64 0),C.lit (.string .empty),C.lit (.int .i64 0),C.sl [],C.sl []]=R at bl bs bg ⊢
  have hbr:=Zck hr;have fe:=aj13 bg bl bs hr hlt Zal hrb q1 okc ln tk dr (@Za3 C);refine fB @fe ?_;refine fC @fe (h x _ hr om) ?_;refine fR @fe ?_;have F:=ai @wi @bs;refine gG ?_;exact ⟨x+1,hlt,gw,gw,om⟩
 ·obtain rfl:x=rows.length:=by omega
  have q1:=lF rows.length rows.length;rw [Nat.sub_self,List.replicate_zero,List.append_nil,Tap];have F:=@q1;refine gG ?_;exact gTz [2]
theorem ZoC (hok:Zai (Zac .link) rows) (h:∀ (i:Nat) r,rows[i]?=some r->∀ {left:Int},0<=left->left<=1048576->Con e0 154 [.agg r,.one (.lit (.int .i64 left))] [.one (.lit (.int .i64 (sub left (bulkRow r))))]) (h0:0<=left) (h1:left<=1048576):Con e0 80 [.one (.sl rows),.one (.lit (.int .i64 left))] [.one (.lit (.int .i64 (sub left (rows.length+bulkRows rows))))]:=by
 refine Zb9 (by kernel_rfl) fun hm=>?_;unfold maxLen at hm;have w:IntKind.i64.wrap (left - (rows.length:Int))=left - (rows.length:Int):=IntWalk.i64_in _ om;have hrb:Zav 6 rows=true:=ZaO.2 hok.rowsLen;refine gI 33589299 Tryz.func80 ?_;by_cases q:left < (rows.length:Int)
 ·rw [Zar om];have q':(left - (rows.length:Int) < 0)=True:=eq_true om;exact fT (ai @w @q')
 have q':(left - (rows.length:Int) < 0)=False:=eq_false om;refine fG (ai @w @q') ?_;have F:=aj4 @tk0 @ZdW @Int.natCast_zero @Int.sub_zero;refine gL (ι:=Nat) [1,4,5,15,25] [] (fun x=>[(5,.d (.one (.lit (.int .i64 (x:Int))))),(1,.d (.one (.lit (.int .i64 (left - (rows.length:Int) - (bulkRows (rows.take x):Int))))))]) (fun x=>[]) (fun x=>x<=rows.length∧0<=left - (rows.length:Int) - (bulkRows (rows.take x):Int)) (fun x=>rows.length - x) (0) (⟨Taj _,by simp [bulkRows];omega⟩) (fun x hx=>?_);clear F
 obtain ⟨hx,hl⟩:=hx;by_cases hlt:x < rows.length
 ·obtain ⟨r,hr⟩:∃ r,rows[x]?=some r:=⟨_,Taa hlt⟩;have hq:=hok.get hr;obtain ⟨ln,tk,dr⟩:=hq.take (n:=6) rfl;have okc:=hq.cells;have q1:=lT x rows.length;have wi:=Zan (k:=x) om;have hbt:=Zdo hr;have hbl:=Zcy rows (x+1)
  skip
  have fe:=aj10 hr hlt Zal hrb q1 okc ln tk dr (@Za3 C);obtain ⟨l,hle⟩:∃ l,l=left - (rows.length:Int) - (bulkRows (rows.take x):Int):=⟨_,rfl⟩;rw [<- hle];refine fB @fe ?_;refine fC @fe (h x _ hr (left:=l) om om) ?_;refine fR @fe ?_;by_cases q:l < ((bulkRow r:Nat):Int)
  ·rw [Zar (b:=bulkRow r) q,Zar om];have q':=lT (-1) 0;exact fT @q'
  rw [ZaA (b:=bulkRow r) om];have q':(l - ((bulkRow r:Nat):Int) < 0)=False:=eq_false om;have e:left - (rows.length:Int) - (bulkRows (rows.take (x+1)):Int)=l - ((bulkRow r:Nat):Int):=om;have F:=aj3 @q' @wi @e;refine gG ?_;exact ⟨x+1,⟨hlt,om⟩,gw,gw,om⟩
 ·obtain rfl:x=rows.length:=by omega
  have q1:=lF rows.length rows.length;rw [Tap] at hl ⊢;rw [ZaA om,show left - ((rows.length+bulkRows rows:Nat):Int)=left - (rows.length:Int) - (bulkRows rows:Int) by omega];exact fT @q1
theorem ZoD (hok:Zai (Zac .link) rows) (h:∀ (i:Nat) r,rows[i]?=some r->Con e0 157 [.agg r,.agg r] [.one (.lit (.bool true))]):Con e0 90 [.one (.sl rows),.one (.sl rows)] [.one (.lit (.bool true))]:=by
 refine Zb9 (by kernel_rfl) fun hm=>?_;unfold maxLen at hm;have hrb:Zav 6 rows=true:=ZaO.2 hok.rowsLen;refine gI 67126323 Tryz.func90 ?_;refine fG (@beq_self_eq_true.{0}) ?_;have F:=@e0P;refine gL (ι:=Nat) [4,5,14,26] [] (fun x=>[(5,.d (.one (.lit (.int .i64 (x:Int)))))]) (fun x=>[]) (fun x=>x<=rows.length) (fun x=>rows.length - x) (0) (Taj _) (fun x hx=>?_);clear F;by_cases hlt:x < rows.length
 ·obtain ⟨r,hr⟩:∃ r,rows[x]?=some r:=⟨_,Taa hlt⟩;have hq:=hok.get hr;obtain ⟨ln,tk,dr⟩:=hq.take (n:=6) rfl;have okc:=hq.cells;have q1:=lT x rows.length;have wi:=Zan (k:=x) om;have fe:=aj10 hr hlt Zal hrb q1 okc ln tk dr (@Za3 C);refine fB @fe ?_;refine fC @fe (h x _ hr) ?_;refine fR @fe ?_;have F:=@wi;refine gG ?_;exact ⟨x+1,hlt,gw,gw,om⟩
 ·obtain rfl:x=rows.length:=by omega
  have q1:=lF rows.length rows.length;exact fT @q1
theorem ZoE (hok:Zai (Zac .link) rows) (h:∀ (i:Nat) r,rows[i]?=some r->bulkRow r<=1048576->Con e0 155 [.agg r] [.agg r]) (hb:rows.length+bulkRows rows<=1048576):Con e0 85 [.one (.sl rows)] [.one (.sl rows)]:=by
 have hrb:Zav 6 rows=true:=ZaO.2 hok.rowsLen;have hmx:((rows.length:Int)<=(maxApp:Int))=True:=eq_true (by unfold maxApp;omega);refine gI (ts:=[.slot 2]) 2077 Tryz.func85 ?_;refine fG (ai @hmx @Tbx) ?_;have F:=aj3 @nla @Nat.sub_zero @tk0;refine gL (ι:=Nat) [3,4,11] [3] (fun x=>[(4,.d (.one (.lit (.int .i64 (x:Int))))),(3,.buf 3)]) (fun x=>[(3,.buf none 145 6 (rows.take x++List.replicate (rows.length - x) [C.lit (.int .i64 0),C.sl [],C.sl [],C.sl [],C.sl [],C.sl []]))]) (fun x=>x<=rows.length) (fun x=>rows.length - x) (0) (Taj _) (fun x hx=>?_);clear F
 by_cases hlt:x < rows.length
 ·obtain ⟨r,hr⟩:∃ r,rows[x]?=some r:=⟨_,Taa hlt⟩;have hq:=hok.get hr;obtain ⟨ln,tk,dr⟩:=hq.take (n:=6) rfl;have okc:=hq.cells;have q1:=lT x rows.length;have wi:=Zan (k:=x) om;obtain ⟨bl,bs,bg⟩:=ZcK (z:=[C.lit (.int .i64 0),C.sl [],C.sl [],C.sl [],C.sl [],C.sl []]) hr;generalize rows.take x++List.replicate (rows.length - x) [C.lit (.int .i64 0),C.sl [],C.sl [],C.sl [],C.sl [],C.sl []]=R at bl bs bg ⊢
  have hbr:=Zck hr;have fe:=aj13 bg bl bs hr hlt Zal hrb q1 okc ln tk dr (@Za3 C);refine fB @fe ?_;refine fC @fe (h x _ hr om) ?_;refine fR @fe ?_;have F:=ai @wi @bs;refine gG ?_;exact ⟨x+1,hlt,gw,gw,om⟩
 ·obtain rfl:x=rows.length:=by omega
  have q1:=lF rows.length rows.length;rw [Nat.sub_self,List.replicate_zero,List.append_nil,Tap];have F:=@q1;refine gG ?_;exact gTz [2]
theorem ZtM (n:Nat):(∀ rows,Za6 rows < n->Zai (Zac .chain) rows->∀ {left:Int},0<=left->left<=1048576->Con e0 224 [.one (.sl rows),.one (.lit (.int .i64 left))] [.one (.lit (.int .i64 (sub left (rows.length+bulkRows rows))))])∧(∀ rows,Za6 rows < n->Zai (Zac .link) rows->∀ {left:Int},0<=left->left<=1048576->Con e0 80 [.one (.sl rows),.one (.lit (.int .i64 left))] [.one (.lit (.int .i64 (sub left (rows.length+bulkRows rows))))]):=by
 induction n with
 | zero=>exact ⟨fun rows h=>absurd h om,fun rows h=>absurd h om⟩
 | succ n ih =>
  exact ⟨fun rows hn hok {left} h0 h1=>ZnX hok (fun i r hr left h0 h1=>ZiG (hok.get hr) (fun rows2 h2 ok2=>ih.2 rows2 (by have:=ZbZ hr;omega) ok2) h0 h1) h0 h1,
   fun rows hn hok {left} h0 h1=>ZoC hok (fun i r hr left h0 h1=>Zp8 (hok.get hr) (fun rows2 h2 ok2=>ih.1 rows2 (by have:=ZbZ hr;omega) ok2) h0 h1) h0 h1⟩
theorem ZtN (hok:Zaj (Zac .chain) row) (h0:0<=left) (h1:left<=1048576):Con e0 27 [.agg row,.one (.lit (.int .i64 left))] [.one (.lit (.int .i64 (sub left (bulkRow row))))]:=ZiG hok (fun rows _ ok=>(ZtM _).2 rows (Tan _) ok) h0 h1
theorem ZtO (n:Nat):(∀ rows,Za6 rows < n->Zai (Zac .chain) rows->Con e0 229 [.one (.sl rows),.one (.sl rows)] [.one (.lit (.bool true))])∧(∀ rows,Za6 rows < n->Zai (Zac .link) rows->Con e0 90 [.one (.sl rows),.one (.sl rows)] [.one (.lit (.bool true))]):=by
 induction n with
 | zero=>exact ⟨fun rows h=>absurd h om,fun rows h=>absurd h om⟩
 | succ n ih =>
  exact ⟨fun rows hn hok=>ZnY hok (fun i r hr=>ZiH (hok.get hr) (fun rows2 h2 ok2=>ih.2 rows2 (by have:=ZbZ hr;omega) ok2)),
   fun rows hn hok=>ZoD hok (fun i r hr=>Zp9 (hok.get hr) (fun rows2 h2 ok2=>ih.1 rows2 (by have:=ZbZ hr;omega) ok2))⟩
theorem ZtP (hok:Zaj (Zac .chain) row):Con e0 33 [.agg row,.agg row] [.one (.lit (.bool true))]:=ZiH hok (fun rows _ ok=>(ZtO _).2 rows (Tan _) ok)
theorem ZtQ (n:Nat):(∀ rows,Za6 rows < n->Zai (Zac .chain) rows->rows.length+bulkRows rows<=1048576->Con e0 226 [.one (.sl rows)] [.one (.sl rows)])∧(∀ rows,Za6 rows < n->Zai (Zac .link) rows->rows.length+bulkRows rows<=1048576->Con e0 85 [.one (.sl rows)] [.one (.sl rows)]):=by
 induction n with
 | zero=>exact ⟨fun rows h=>absurd h om,fun rows h=>absurd h om⟩
 | succ n ih =>
  exact ⟨fun rows hn hok hb=>ZnZ hok (fun i r hr hb=>ZiI (hok.get hr) (fun rows2 h2 ok2=>ih.2 rows2 (by have:=ZbZ hr;omega) ok2) hb) hb,
   fun rows hn hok hb=>ZoE hok (fun i r hr hb=>Zqa (hok.get hr) (fun rows2 h2 ok2=>ih.1 rows2 (by have:=ZbZ hr;omega) ok2) hb) hb⟩
theorem ZtR (hok:Zaj (Zac .chain) row) (hb:bulkRow row<=1048576):Con e0 30 [.agg row] [.agg row]:=ZiI hok (fun rows _ ok=>(ZtQ _).2 rows (Tan _) ok) hb
end Go.Proofs.YtcgacanpeaiabaaGreatDoor
