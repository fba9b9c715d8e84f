/-
  Part of a proof.
-/
import Derived.Test.YtaenibhihgfehaaGreatDoorBUnifyCard0
import Derived.Test.YtaenibhihgfehaaGreatDoorBUnifyCard1
import Derived.Test.YtaenibhihgfehaaGreatDoorBUnifyCard2
import Derived.Test.YtaenibhihgfehaaGreatDoorRows
import Derived.Lib.LazyBuf
set_option linter.unusedSimpArgs false
set_option linter.unusedVariables false
set_option linter.defProp false
set_option maxHeartbeats 400000000
set_option maxRecDepth 100000
namespace Go.Proofs.YtaenibhihgfehaaGreatDoor
open Go.RowKit
variable{G3 G4 G5:Prop}
variable{w':World}{f:FuncId}{args r xs data:AS}{R:AS->GQ->Prop}{ty sz k ety cap il j d:Nat}{rows:sh}{pm q:GQ}{x t:Tm}{σ:St}{s2:d3}{m2:it}{op left:Int}
variable{ts:AI}{ds:By}{g:Sgn}{row:we}{b:Bool}{us:GK}
def Env.plus(e:Env)(E2:GO)(G2:World->Prop):Env:=⟨e.P,λb=>e.E b\/E2 b,λw=>e.G w/\G2 w,e.D⟩
structure Fits(e:Env)(E2:GO)(G2:World->Prop):Prop where
 st:vO E2 G2
 dj:∀w,G2 w->∀b,E2 b->¬e.E b
section
variable{e:Env}{E2:GO}{G2:World->Prop}
def Fits.ok(h:Fits e E2 G2)(he:e.Ok):(e.plus E2 G2).Ok:=⟨λw w' hz hb⟨h1,h2⟩=>⟨he.Ε w w' hz (λb cu=>hb b (.inl cu)) h1,h.st w w' hz (λb cu=>hb b (.inr cu)) h2⟩,he.mixed⟩
def Kept.up{D:Prop}{E E':GO}{B:Nat}{w:World}(h:Kept D E B w w')(hE:∀b,E b->E' b):Kept D E' B w w':=⟨h.os,h.tape,h.output,h.drawn,h.size,λk hk hn=>h.block k hk λq=>hn (hE k q)⟩
def Fits.Ε(h:Fits e E2 G2){E:GO}{w:World}(hk:Kept e.D E w.heap.size w w')(hE:∀b,(e.plus E2 G2).E b->b<w.heap.size)(hG:G2 w)(hn:∀b,E2 b->¬E b):G2 w':=h.st w w' hk.size (λb hb=>hk.block b (hE b (.inr hb)) (hn b hb)) hG
def aI.up(h2:Fits e E2 G2)(h:aI e f args r):aI (e.plus E2 G2) f args r :=
 ⟨h.1,λw S vs hS hE hG d8=>(h.2 w S vs (λb hb=>⟨(hS b hb).1,λq=>(hS b hb).2 (.inl q)⟩) (λb hb=>hE b (.inl hb)) hG.1 d8).mono λen w'⟨v,h1,hk,hg,ha⟩=>⟨v,h1,hk.up λ_=>.inl,⟨hg,h2.Ε hk hE hG.2 (h2.dj w hG.2)⟩,ha⟩⟩
def fX.up(h2:Fits e E2 G2){R:AS->Prop}(h:fX e f args R):fX (e.plus E2 G2) f args R :=
 ⟨h.1,λw S vs hS hE hG d8=>(h.2 w S vs (λb hb=>⟨(hS b hb).1,λq=>(hS b hb).2 (.inl q)⟩) (λb hb=>hE b (.inl hb)) hG.1 d8).mono λen w'⟨v,r,h1,hr,hk,hg,ha⟩=>⟨v,r,h1,hr,hk.up λ_=>.inl,⟨hg,h2.Ε hk hE hG.2 (h2.dj w hG.2)⟩,ha⟩⟩
def sO.up(h2:Fits e E2 G2)(h:sO e f args ty sz rows):sO (e.plus E2 G2) f args ty sz rows :=
 ⟨h.1,λw S vs hS hE hG d8=>(h.2 w S vs (λb hb=>⟨(hS b hb).1,λq=>(hS b hb).2 (.inl q)⟩) (λb hb=>hE b (.inl hb)) hG.1 d8).mono λen w'⟨v,h1,hk,hg,ha⟩=>⟨v,h1,hk.up λ_=>.inl,⟨hg,h2.Ε hk hE hG.2 (h2.dj w hG.2)⟩,ha⟩⟩
def jH.up(h2:Fits e E2 G2){rows':sh}(h:jH e f ty sz rows args rows' r):jH (e.plus E2 G2) f ty sz rows args rows' r :=
 ⟨h.1,λw S v0 vs hS hE h0 hG hb d8=>(h.2 w S v0 vs (λb hb=>⟨(hS b hb).1,λq=>(hS b hb).2 (.inl q)⟩) (λb hb=>hE b (.inl hb)) (λg hg q=>h0 g hg (.inl q)) hG.1 hb d8).mono λen w'⟨v,h1,hk,hg,ha⟩=>⟨v,h1,hk.up λ_ q=>q.elim (λq=>.inl (.inl q)) .inr,⟨hg,h2.Ε hk hE hG.2 λb hb q=>q.elim (h2.dj w hG.2 b hb) λq=>h0 b q (.inr hb)⟩,ha⟩⟩
def sP.up(h2:Fits e E2 G2){rows':sh}(h:sP e f ty sz rows args rows'):sP (e.plus E2 G2) f ty sz rows args rows' :=
 ⟨h.1,λw S v0 vs hS hE h0 hG hb d8=>(h.2 w S v0 vs (λb hb=>⟨(hS b hb).1,λq=>(hS b hb).2 (.inl q)⟩) (λb hb=>hE b (.inl hb)) (λg hg q=>h0 g hg (.inl q)) hG.1 hb d8).mono λen w'⟨v,h1,hk,hg,ha⟩=>⟨v,h1,hk.up λ_ q=>q.elim (λq=>.inl (.inl q)) .inr,⟨hg,h2.Ε hk hE hG.2 λb hb q=>q.elim (h2.dj w hG.2 b hb) λq=>h0 b q (.inr hb)⟩,ha⟩⟩
def aT.up(h2:Fits e E2 G2)(h:aT e f args pm R):aT (e.plus E2 G2) f args pm R :=
 ⟨h.1,λw S vs hS hE hG gV li d8=>(h.2 w S vs (λb hb=>⟨(hS b hb).1,λq=>(hS b hb).2 (.inl q)⟩) (λb hb=>hE b (.inl hb)) hG.1 (λx hx=>⟨(gV x hx).1,λg hg q=>(gV x hx).2 g hg (.inl q)⟩) li d8).mono λen w'⟨v,r,bj,h1,hr,hk,hg,ha⟩=>⟨v,r,bj,h1,hr,hk.up λ_ q=>q.elim (λq=>.inl (.inl q)) .inr,⟨hg,h2.Ε hk hE hG.2 λb hb q=>q.elim (h2.dj w hG.2 b hb) λ⟨x,hx,hxg⟩=>(gV x hx).2 b hxg (.inr hb)⟩,ha⟩⟩
def ZE0{ι:Type}{G:ι->World->Prop}{ok:ι->Prop}(h2:Fits e E2 G2)(aZ:∀i,vO E2 (G i))(ho:∀w,G2 w->∃i,ok i/\G i w)(hi:∀w i,(∀b,E2 b->¬e.E b)->ok i->G i w->G2 w)(hb:qN e.P f)
  (h:∀i,ok i->aT e f xs [.set E2 (G i)] (λr' pm=>r'=r/\∃i',ok i'/\pm=[.set E2 (G i')])):aI (e.plus E2 G2) f xs r:=by
 refine⟨hb,λw S vs hS hE hG d8=>?_⟩;obtain⟨i,hi1,DI⟩:=ho w hG.2;have iI:=h2.dj w hG.2;refine((h i hi1).2 w S vs (λb hb=>⟨(hS b hb).1,λq=>(hS b hb).2 (.inl q)⟩) (λb hb=>hE b (.inl hb)) hG.1 (λx hx=>?_) ⟨λy hy=>(by cases hy),trivial⟩ d8).mono λen w'⟨v,r',pm,h1,⟨hr,i',hi1',gV⟩,hk,hg,hp,_,ha⟩=>?_
 ·obtain rfl:=Tbk.1 hx;exact⟨⟨λb hb=>⟨hE b (.inr hb),λq=>(hS b q).2 (.inr hb)⟩,DI,aZ i⟩,λg hg=>iI g hg⟩
 ·subst hr gV;have hpb:∀(G:World->Prop)(b:Nat),dP [.set E2 G] b↔E2 b:=λG b=>⟨λ⟨x,hx,hg⟩=>by obtain rfl:=Tbk.1 hx;exact hg,λq=>⟨_,Tbk.2 rfl,q⟩⟩;refine⟨v,h1,hk.up λb q=>q.elim .inl λq=>.inr ((hpb _ b).1 q),⟨hg,hi w' i' iI hi1' (hp _ (Tbk.2 rfl)).1.2.1⟩,ha.Ε (Tai _) (λ_ _ _=>rfl) λb hb=>?_⟩;rcases hb.1 with q|q|q
  ·exact .inl q
  ·exact absurd ((hpb _ b).2 ((hpb _ b).1 q)) hb.2
  ·exact .inr q
def ZHR {ay:Nat} {c:Code} {s:d3} {m:it} {Q:PX->St->Prop} {G1:World->Prop} (k:Nat) (aZ:vO E2 G2) (hm:gm m k=some (.set E2 G1)) (h2:(∀b,E2 b->¬e.E b)->Fits e E2 G2/\∀w,G1 w->G2 w) (h:Fits e E2 G2->de (e.plus E2 G2) ay c ⟨s,aA k m⟩ Q):de e ay c ⟨s,m⟩ Q:=by
 intro he U w0 S0 nt a w aq ⟨S,L,hs⟩;have hc:=hs.Ξ;have ho:=hc.own k _ hm;obtain⟨hF,hG⟩:=h2 λb hb=>hc.notE hm (show dh L k (.set E2 G1) b from hb);have am:∀b,e.E b\/E2 b->b<w.heap.size:=λb hb=>hb.elim (λq=>Tbd (hc.ein b q) hc.bsz) λq=>(ho.1 b q).1;have d6:∀k' bk,gm (aA k m) k'=some bk->k'≠k/\gm m k'=some bk:=λk' bk dZ=>by
  rw[gq]at dZ;by_cases e:k'=k
  ·rw[if_pos e]at dZ;cases dZ
  ·rw[if_neg e]at dZ;exact⟨e,dZ⟩
 have po:aS (e.plus E2 G2) (λg=>∃k' bk,gm (aA k m) k'=some bk/\dh L k' bk g) w S nt ⟨s,aA k m⟩ a w:=by
  refine⟨S,L,⟨λb hb=>⟨(hc.sin b hb).1,λq=>q.elim (hc.sin b hb).2 λq=>(ho.1 b q).2 hb⟩,λb hb=>.inl hb,am,?_,Tai _,λk' bk g h1 h2=>.inr ⟨k',bk,h1,h2⟩,λk' bk dZ=>hc.own k' bk (d6 k' bk dZ).2,λk1 k2 x1 x2 g h1 h2=>hc.inj k1 k2 x1 x2 g (d6 k1 x1 h1).2 (d6 k2 x2 h2).2,⟨hc.g,hG w ho.2.1⟩⟩,hs.rel,hs.size,hs.defers,Kept.refl _ _ _ _⟩;rintro b ⟨k',bk,h1,h3⟩ q;obtain⟨aP,h1⟩:=d6 k' bk h1
  rcases q with q|q
  ·exact hc.notE h1 h3 q
  ·exact aP (hc.inj k' k bk _ b h1 hm h3 q)
 refine wp_mono (h hF (hF.ok he) _ _ _ _ _ w aq po) λex a' w' hq=>?_;have back:∀y',aS (e.plus E2 G2) (λg=>∃k' bk,gm (aA k m) k'=some bk/\dh L k' bk g) w S nt y' a' w'->aS e U w0 S0 nt y' a' w':=λy'⟨S1,L1,h1⟩=>by
  have c1:=h1.Ξ;have hU:∀b,(∃k' bk,gm (aA k m) k'=some bk/\dh L k' bk b)->w0.heap.size<=b\/U b:=λb⟨k',bk,q1,q2⟩=>hc.mine k' bk b (d6 k' bk q1).2 q2;refine⟨S1,L1,⟨λb hb=>⟨(c1.sin b hb).1,λq=>(c1.sin b hb).2 (.inl q)⟩,λb hb=>?_,hc.ein,hc.uin,Tbe hc.bsz c1.bsz,λk' bk g q1 q2=>?_,c1.own,c1.inj,c1.g.1⟩,h1.rel,h1.size,h1.defers,⟨h1.kept.os.trans hs.kept.os,h1.kept.tape.trans hs.kept.tape,h1.kept.output.trans hs.kept.output,λd=>Tbe (hs.kept.drawn d) (h1.kept.drawn d),Tbe hs.kept.size h1.kept.size,λb hb hn=>?_⟩⟩
  ·rcases c1.sfr b hb with q|q|q
   ·exact hc.sfr b q
   ·exact .inr (.inl (Tbe hc.bsz q))
   ·exact .inr (hU b q)
  ·rcases c1.mine k' bk g q1 q2 with q|q
   ·exact .inl (Tbe hc.bsz q)
   ·exact hU g q
  ·refine(h1.kept.block b (Tbd hb hs.kept.size) λq=>?_).trans (hs.kept.block b hb hn);rcases q with(q|q)|q
   ·exact hn (.inl q)
   ·rcases hc.mine k _ b hm (show dh L k (.set E2 G1) b from q)with q|q
    ·omega
    ·exact hn (.inr q)
   ·rcases hU b q with q|q
    ·omega
    ·exact hn (.inr q)
 cases ex with
 |normal=>exact hq.elim λy' hq=>⟨y',hq.1,back y' hq.2⟩
 |exit id=>exact hq.elim λy' hq=>⟨y',hq.1,back y' hq.2⟩
 |ret=>exact hq.elim λy' hq=>⟨y',hq.1,back y' hq.2⟩
 |goto l=>exact hq
 |panic ch=>exact hq
 |outgrown=>exact hq
end
def Zp6{M:AI}(h:M[k]?=some x):M.take k++[x]=M.take (k+1):=(Zgp h).symm
def ZE1 (P M Q:AI) {A B N:Nat} (hA:A=P.length) (hB:B=P.length+M.length) (hN:N=P.length+M.length+Q.length) (c8:N<=4000000) (a:BY) (cap:Nat) :
  aT e0 164 [.I (.A (.slice a N cap)),GT A,GT B,.I (.fn 65 [])] [.Υ (some (a,cap)) 46 4 (az (P++M++Q))] (nF a cap (P++fM M++Q)):=by
 have wA:=bW (k:=A) om;obtain⟨A1,hA1⟩:∃A1,A1=A+1:=⟨_,rfl⟩;rw[<- hA1]at wA;have h0:P++M++Q=P++fM (M.take (A1-A))++(M.drop (A1-A)++Q):=by
  have:fM (M.take 1)=M.take 1:=Zm5 (by cases M with|nil=>exact List.Pairwise.nil|cons x M=>simp only[Tbc,List.take_zero];exact List.pairwise_singleton _ _);rw[hA1,Nat.add_sub_cancel_left,this];simp only[Tbg];rw[<- Tbg (M.take 1),Tbn]
 refine dX (ts:=[]) [1000] 17179886351 Tryz.func164 ?_;refine fG (ai @wA @ae) ?_;have F:=@ae;refine gL (ι:=Nat×AI) [8,9,14,34] [1000] (λx=>[(8,GU (x.1:Int))]) (λx=>[(1000,.Υ (some (a,cap)) 46 4 (az x.2))]) (λx=>A1<=x.1/\(x.1<=B\/x.1=A1)/\x.2=P++fM (M.take (x.1-A))++(M.drop (x.1-A)++Q)) (λx=>B+1-x.1) ((A1,P++M++Q)) (⟨Tai _,.inr rfl,h0⟩) (λx hx=>?_);clear F
 obtain⟨i,us⟩:=x;obtain⟨hi1,DI,d7⟩:=hx;simp only at hi1 DI d7;dsimp only;by_cases am:i<B;rotate_left
 ·have q1:=lF i B;have e1:M.take (i-A)=M:=List.take_of_length_le om;have e2:M.drop (i-A)=[]:=List.drop_of_length_le om;rw[e1,e2,Tah]at d7;subst d7;refine fG (ai @q1 @ae) ?_
  first|exact(have F:=@aJ;zT (R:=nF a cap (P++fM M++Q)) [1000] ⟨rfl,rfl⟩)|exact(have F:=@aJ;ee (R:=nF a cap (P++fM M++Q)) [1000] ⟨rfl,rfl⟩)
 have q1:=lT i B;obtain⟨k,hk⟩:∃k,k=i-A:=⟨_,rfl⟩;rw[<- hk]at d7;obtain⟨x,hx⟩:∃t,M[k]?=some t:=⟨_,Taa om⟩;have hL:(fM (M.take k)).length=k:=by rw[Zo1,Taw];omega
 rw[ZlA hx]at d7;have wi:=bW (k:=i) om;have hR:(M.drop (k+1)++Q).length+i+1=N:=by rw[Tae,Tax];omega
 have fJ:∀M1 M2,M1++M2=fM (M.take k)->(∀y∈M2,aU x y<=0)->(∀y,M1.getLast?=some y->aU y x<=0)->P++M1++x::(M2++(M.drop (k+1)++Q))=P++fM (M.take (i+1-A))++(M.drop (i+1-A)++Q):=λM1 M2 e h2 h1=>by
  have:=Ztp e h2 h1;rw[Zp6 hx]at this;rw[show i+1-A=k+1 by omega,<- this];simp
 obtain⟨T,hT⟩:∃T,T=P++fM (M.take (i+1-A))++(M.drop (i+1-A)++Q):=⟨_,rfl⟩;rw[<- hT]at fJ;refine fG (ai @q1 @ae) ?_;have F:=@ae;refine gL (ι:=Nat×AI) [9,34] [1000] (λz=>[(9,GU (z.1:Int))]) (λz=>[(1000,.Υ (some (a,cap)) 46 4 (az z.2))]) (λz=>∃M1 M2,z.2=P++M1++x::(M2++(M.drop (k+1)++Q))/\z.1=A+M1.length/\M1++M2=fM (M.take k)/\∀y∈M2,aU x y<=0) (λz=>z.1) ((i,us)) (⟨fM (M.take k),[],by rw[d7];simp,by rw[hL];omega,List.append_nil _,λy h=>by simp at h⟩) (λz hz=>?_);clear F
 obtain⟨j,vs⟩:=z;obtain⟨M1,M2,d8,hj,he,h2⟩:=hz;simp only at d8 hj;dsimp only;have pU:M1.length+M2.length=k:=by rw[<- Tae,he,hL]
 have jN:vs.length=N:=by rw[d8];simp only[Tae,Tag]at hR⊢;omega
 rcases List.eq_nil_or_concat M1 with h1|⟨M0,y,h1⟩
 ·subst h1;have hn:=fJ [] M2 he h2 (λy h=>by simp at h);obtain rfl:j=A:=by simpa using hj
  have q2:=lF j j;rw[hn]at d8;subst d8;refine fG (ai @q2 @ae) ?_;have F:=@wi;refine gG ?_;exact⟨(i+1,vs),⟨om,.inl am,hT⟩,gw,gw,om⟩
 ·rw[List.concat_eq_append]at h1;subst h1;simp only[Tae,Tag,Tak]at hj pU;obtain⟨p,hp⟩:∃p,p=A+M0.length:=⟨_,rfl⟩;have hjp:j=p+1:=om;have q2:=lT A j;have w1:IntKind.i64.wrap ((j:Int)-1)=(p:Int):=kJ om om om;have Dt:(P++M0).length=p:=by rw[Tae];omega
  have D7:vs=(P++M0)++y::x::(M2++(M.drop (k+1)++Q)):=by rw[d8];simp
  have g1:vs[p]?=some y:=by rw[D7];exact ZCr Dt
  have g2:vs[j]?=some x:=by rw[D7,hjp];exact ZHI Dt
  have l1:p<N:=om;have l2:j<N:=om;refine fB (ai @q2 @ae) ?_;refine fC (aj9 @q2 @ae @g1 @g2 @w1 @l1 @l2 @jN @cc) (Zsd (Fo x y)) ?_;by_cases hc:aU x y<0
  ·have z1:(aU x y<0)=True:=eq_true hc;obtain⟨U,hU⟩:∃U,U=(P++M0)++x::y::(M2++(M.drop (k+1)++Q)):=⟨_,rfl⟩;have g3:(vs.set j y).set p x=U:=by rw[hU,D7,hjp];exact ZHH Dt
   have iJ:∀q(t:Tm),(vs.set q t).length=N:=λq t=>by rw[Taz,jN]
   refine fR (aj3 @z1 @q2 @ae) ?_;have hM2:∀u∈y::M2,aU x u<=0:=λu hu=>by
    rcases Tbh.1 hu with rfl|hu
    ·omega
    ·exact h2 u hu
   obtain⟨z,g4⟩:∃z,(vs.set j y)[p]?=some z:=⟨_,Taa (by rw[Taz];omega)⟩;refine fN 6 (ai @z1 @ae) ?_;refine rE ?_;refine pb 0 ?_;refine pb 1 ?_;refine pb 2 ?_;refine pb 3 ?_;refine(have F:=(aj11 w1 l1 l2 jN g1 g2 g4 iJ @cc @px ae);gFb 4 ?_);refine pb 5 ?_;refine pb 6 ?_;refine(have F:=(aj11 w1 l1 l2 jN g1 g2 g4 iJ @cc @px ae);gFb 7 ?_);refine(have F:=(aj11 w1 l1 l2 jN g1 g2 g4 iJ @cc @px ae);gFi (rows:=az vs) 8 p (by rw[cc];omega) ?_)
   refine pb 10 ?_;refine pb 11 ?_;refine(have F:=(aj11 w1 l1 l2 jN g1 g2 g4 iJ @cc @px ae);gFi (rows:=az vs) 12 j (by rw[cc];omega) ?_);refine gFT ?_;refine gO2 9 13 ?_ ?_
   ·refine(have F:=(aj11 w1 l1 l2 jN g1 g2 g4 iJ @cc @px ae);ip ?_);refine mt 13 ?_;refine(have F:=(aj11 w1 l1 l2 jN g1 g2 g4 iJ @cc @px ae);ip ?_);refine mt 14 ?_;refine(have F:=(aj11 w1 l1 l2 jN g1 g2 g4 iJ @cc @px ae);ip ?_);refine mt 15 ?_;refine(have F:=(aj11 w1 l1 l2 jN g1 g2 g4 iJ @cc @px ae);ip ?_);refine mt 16 ?_;refine(have F:=(aj11 w1 l1 l2 jN g1 g2 g4 iJ @cc @px ae);ip ?_)
    refine mt 17 ?_;refine(have F:=(aj11 w1 l1 l2 jN g1 g2 g4 iJ @cc @px ae);ip ?_);refine(have F:=ae;Dk ?_);refine Exists.intro _ (ai (Wk.refl _) ?_);rw[g3];have F:=@w1;refine gG ?_;exact⟨(p,U),⟨M0,y::M2,by rw[hU];simp,hp,by rw[<- he];simp,hM2⟩,gw,gw,om⟩
   ·refine(have F:=(aj11 w1 l1 l2 jN g1 g2 g4 iJ @cc @px ae);ip ?_);refine mt 9 ?_;refine(have F:=(aj11 w1 l1 l2 jN g1 g2 g4 iJ @cc @px ae);ip ?_);refine mt 14 ?_;refine(have F:=(aj11 w1 l1 l2 jN g1 g2 g4 iJ @cc @px ae);ip ?_);refine mt 15 ?_;refine(have F:=(aj11 w1 l1 l2 jN g1 g2 g4 iJ @cc @px ae);ip ?_);refine mt 16 ?_;refine(have F:=(aj11 w1 l1 l2 jN g1 g2 g4 iJ @cc @px ae);ip ?_)
    refine mt 17 ?_;refine(have F:=(aj11 w1 l1 l2 jN g1 g2 g4 iJ @cc @px ae);ip ?_);refine(have F:=ae;Dk ?_);refine Exists.intro _ (ai (Wk.refl _) ?_);rw[g3];have F:=@w1;refine gG ?_;exact⟨(p,U),⟨M0,y::M2,by rw[hU];simp,hp,by rw[<- he];simp,hM2⟩,gw,gw,om⟩
  ·have z1:(aU x y<0)=False:=eq_false hc;have hn:=fJ (M0++[y]) M2 he h2 (λu h=>by
    simp only[List.getLast?_append,List.getLast?_singleton,Option.some_or,Taq]at h;subst h;exact ZJa hc)
   rw[hn]at d8;subst d8;refine fR (aj3 @z1 @q2 @ae) ?_;refine fG (ai @z1 @ae) ?_;have F:=@wi;refine gG ?_;exact⟨(i+1,vs),⟨om,.inl am,hT⟩,gw,gw,om⟩
def jS:Tm:=.mk 0 ByteArray.empty 0 []
def Zpf:ax jS=[GS 0,.A (.string ByteArray.empty),GS 0,.sl []]:=by simp[jS,ax,az]
def Cr:az []=[]:=by simp[az]
section
variable{g:Sgn}{mc:C}
end
section
variable{w:World}{S:GO}
def ZyQ {l h:Nat} {a:BY} (hb:eO w S ety sz rows (.slice a rows.length cap)) (hl:l<=h/\h<=rows.length):∃(b:BY)(c:Nat)(aG:GK),sliced a l h cap sz=.slice b ((rows.take h).drop l).length c/\aC w S ((rows.take h).drop l).flatten aG/\∀(P:Program)(w':World),(∀p,w'.cell? p=w.cell? p)->(Builtin.firstCells sz ((rows.take h).drop l).length (sliced a l h cap sz)).run P w'=.ok aG.toArray w':=by
 have kj:((rows.take h).drop l).length=h-l:=by rw[Tax,Taw];omega
 obtain⟨h1,c9,h3⟩:=hb;by_cases he:h=l
 ·have e0:((rows.take h).drop l).length=0:=om;have e1:(rows.take h).drop l=[]:=Tao e0;refine⟨_,_,[],by rw[kj];exact rfl,by rw[e1];simp[aC],λP w' _=>?_⟩;rw[e0];simp only[sliced,he,Nat.sub_self];split
  ·cases a<;>simp[Builtin.firstCells,loadCells,loadCellsFrom]
  ·cases a<;>simp[Builtin.firstCells,loadCells,loadCellsFrom]
 ·rcases h3 with⟨h4,p,h5⟩|⟨g,bF,bf,h4,h5,h6,h7,h8,h9,h10,zV,kR⟩
  ·rw[h4]at hl;simp only[Tak]at hl;omega
  ·injection h4 with e1 e2 e3
   subst e1 e3;have u6:¬cap=l:=om;have mW:sliced (some ⟨g,0,none⟩) l h cap sz=.slice (some ⟨g,l*sz,none⟩) (h-l) (cap-l):=by
    simp only[sliced,u6,if_false,Option.map_some,Addr.add_at,Nat.zero_add]
   have hr:=ct.sub c9 kR l h;rw[Nat.zero_add]at hr;obtain⟨aG,q5,q6⟩:=hr.flat.vals;have lS:rowsLen sz ((rows.take h).drop l):=λr hr=>c9 r (List.mem_of_mem_take (List.mem_of_mem_drop hr));rw[mW];refine⟨_,_,aG,by rw[kj],q5,λP w' hw=>?_⟩;exact run_firstCells_some w' sz _ _ _ _ aG (by rw[q5.len,qL lS]) (λj u hj=>by rw[hw,Addr.add_at];exact q6 j u hj)
end
section
variable{e:Env}{K:GR}{ds:By}{os:GL}{s:d3}{m:it}
def Zvr{o:Oper}{x y:Operand}{t tp l h:Nat}{a0:BY}{rj:sh}{oa:Option (BY×Nat)}(ho:o.op=.call ⟨.builtin .append,#[x,y],#[t,t]⟩)(iX:o.dst=some d)(hb:jT e.P t=some (ety,sz,il))
  (hx:aL σ.s x=.Υ k) (hm:gm σ.m k=some (.Υ oa ety sz rows)) (hy:aL σ.s y=GY (.A (sliced a0 l h cap sz))) (hj:gm σ.m j=some (.Υ (some (a0,cap)) tp sz rj)) (hlh:l<=h/\h<=rj.length) (cw:rows.length+rj.length<=al)
  (hK:K ⟨(d,.Υ d)::bX d (bX k σ.s),(d,.Υ none ety sz (rows++(rj.take h).drop l))::aA d (aA k σ.m)⟩):jW e o σ K:=by
 intro he U w0 S0 nt a w Q hd ⟨S,L,h0⟩;have aW:a.eval x=L.v k:=by have:=h0.eval x;rw[hx]at this;exact this
 have km:=h0.eval y;rw[hy]at km;have km:=lf km;have cr:eO w S ety sz rows (L.v k):=(h0.Ξ.own k _ hm).2;obtain⟨kA,hbj⟩:=h0.Ξ.own j _ hj;have hvj:L.v j=.slice a0 rj.length cap:=kA (a0,cap) rfl;rw[hvj]at hbj;obtain⟨yb,yc,aG,y1,y2,y3⟩:=ZyQ hbj hlh;have kj:((rj.take h).drop l).length=h-l:=by rw[Tax,Taw];omega
 have lS:rowsLen sz ((rj.take h).drop l):=λr hr=>hbj.2.1 r (List.mem_of_mem_take (List.mem_of_mem_drop hr));obtain⟨v',w',aF,f9,τ,hk,G9,eX⟩:=Zge (ty:=o.type) (ts:=#[t,t]) (v:=L.v k) (u:=sliced a0 l h cap sz) he h0.Ξ rfl rfl hb (.inl cr) cr.2.1 lS om ⟨yb,yc,aG,y1,y2,y3⟩;unfold Oper.wp;have oF:(execOp a.eval o).run e.P w=.ok (.value v') w':=by
  exact m260
 rw[oF,Oper.upon_value,iX];refine⟨_,hK,h0.born he (hd d iX) (τ:=τ) (b':=0) (v':=v') (s1:=bX k σ.s) (m1:=aA k σ.m) (λ_ h=>h) (λ_ h=>.inl h) (λt=>?_) (λk' x hx=>?_) (λg hg=>?_) (λk' x g cl hx hg cu=>?_) hk ?_ (λg hg=>?_) (by simp[aw])⟩
 ·rcases Bb k t σ.s with⟨h1,_⟩|h1
  ·exact .inl h1
  ·exact .inr h1
 ·rw[gq]at hx;split at hx
  ·cases hx
  ·exact hx
 ·have gh:=(G9 g hg).1;exact⟨(b6.lt (k:=k) (L:=L) (bk:=.Υ none ety sz rows) ⟨by simp,cr⟩ gh).2,h0.Ξ.notE hm gh,h0.Ξ.mine k _ g hm gh⟩
 ·have gh:=(G9 g hg).1;rw[gq]at hx;split at hx
  ·cases hx
  ·rename_i xz;exact xz (h0.Ξ.inj k' k x _ g hx hm cu gh)
 ·simp only[b6,if_true];exact⟨by simp,f9⟩
 ·simp only[dh,if_true]at hg;exact eX g hg
def gAps{t tp l h:Nat}{p:String}{ed:Array Edge}{x y:Operand}{rj:sh}{oa:Option (BY×Nat)}{a0:BY}(k j:Nat)(hlh:l<=h/\h<=rj.length)(cw:rows.length+rj.length<=al)(hK:an e ds 0 os ⟨(d,.Υ d)::s2,(d,.Υ none ety sz (rows++(rj.take h).drop l))::m2⟩ K)
  (hb:jT e.P t=some (ety,sz,il):=by exact iK) (hx:aL s x=.Υ k:=by exact iK) (hm:gm m k=some (.Υ oa ety sz rows):=by exact oJ) (hy:aL s y=GY (.A (sliced a0 l h cap sz)):=by exact oJ) (hj:gm m j=some (.Υ (some (a0,cap)) tp sz rj):=by exact oJ)
  (hs:bX d (bX k s)=s2:=by exact dE) (hr:aA d (aA k m)=m2:=by exact dE):an e ds 0 (⟨some d,.call ⟨.builtin .append,#[x,y],#[t,t]⟩,ty,p,ed,none⟩::os) ⟨s,m⟩ K:=by
 subst hs hr;simp only[an]at hK⊢;exact vG rfl (Zvr rfl rfl hb hx hm hy hj hlh cw hK)
end
def m173(h:G3:=by
 refine gG ?_;exact⟨(i+1,uss++[[u0,u1,u2,u3]],λb=>E b\/E2 b),⟨am,by simp[hn]⟩,gw,gw,om⟩):G3:=h
def m105(h:G3:=by
 obtain⟨i,hi⟩:=Tbl ha;have dR:(az args)[i]?=some (ax a):=by rw[rt,hi];rfl
 have h1:=yk dR;have h2:=A5 dR;exact ih a om om):G3:=h
def m81(h:G3:=by
 exact bH.snoc h1 h2 (λ_ h=>.inl h) (λ_ h=>.inr h) hd):G3:=h
def okc4{u0 u1 u2 u3:Value}(h:(aY [u0,u1,u2,u3]).all bQ):bQ (.A u0)/\bQ (.A u1)/\bQ (.A u2)/\bQ (.A u3):=by
 simpa[aY,Tar,and_assoc]using h
def Zjm(ts:AI){i:Nat}(h:ts[i]?=some t):az (ts.take (i+1))=az (ts.take i)++[ax t]:=by
 simp only[oq,List.take_add_one,h,Option.toList,Tbw,Tbv,List.map_nil]
def zq(u0 u1 u2 u3:Value):aY [u0,u1,u2,u3]=[.A u0,.A u1,.A u2,.A u3]:=rfl
def on(uss:AT):(uss.map aY).length=uss.length:=Tay ..
def me(ts:AI):Prop:=ts.length+ak (az ts)<=1048576
def ZnM(ts:AI)(hB:me ts)(h:∀t∈ts,aT e0 140 [.agg (ax t)] [] (kw (ax t))):aT e0 188 [.I (.sl (az ts))] [] (ZlJ 46 4 (az ts)):=by
 have hl:ts.length<=1048576:=Tbe (Nat.le_add_right _ _) hB;refine dX (ts:=[.slot 2]) [] 1005 Tryz.func188 ?_;refine fG @aJ ?_;refine pE [] [1000] vE ?_;have F:=ai @cc @Cr;refine gL (ι:=Nat×AT×(GO)) [3,5,8,9] [3,1000] (λx=>[(8,GU (x.1:Int)),(3,.Υ 3)]) (λx=>[(3,.Υ none 46 4 (x.2.1.map aY)),(1000,.set x.2.2 (λw=>bH w (az (ts.take x.1)) x.2.2 x.2.1))]) (λx=>x.1<=ts.length/\x.2.1.length=x.1) (λx=>ts.length-x.1) ((0,[],λ_=>False)) (⟨Taj _,rfl⟩) (λx hx=>?_)
 obtain⟨i,uss,E⟩:=x;obtain⟨hi,hn⟩:=hx;simp only at hi hn;by_cases am:i<ts.length
 ·have hg:ts[i]?=some ts[i]:=Taa am;have hc:=h ts[i] (List.getElem_mem am);generalize ts[i]=t at hg hc;refine fB (aj5 @cc @rt (lT i ts.length) @hg @ae) ?_;have F:=@ae;refine cQ [] [1001] (hc) ?_;rintro r pm ⟨us,E2,rfl,hu,aq,rfl⟩;rw[Zjx]at hu;obtain⟨u0,u1,u2,u3,rfl⟩:=len4 hu;obtain⟨k0,k1,k2,k3⟩:=okc4 aq;have q3:IntKind.i64.wrap ((i:Int)+1)=(i:Int)+1:=IntWalk.i64_in _ om
  simp only[zq,aD,aQ,aM,Taf,Tah];refine fR (aj8 @zq @on @hn (by unfold al;omega:i+1<=al) @k0 @k1 @k2 @k3) ?_;refine pE [1000,1001] [1000] (CI (G':=λw=>bH w (az (ts.take (i+1))) (λb=>E b\/E2 b) (uss++[[u0,u1,u2,u3]])) (λw h1 h2 hd=>?_) (bH.Κ _ _ _)) ?_
  ·rw[Zjm ts hg];exact m81
  have F:=aj4 @zq @q3 @cc ((@Tbw.{0,0}));exact m173
 ·obtain rfl:i=ts.length:=by omega
  refine fG (ai @cc (lF ts.length ts.length)) ?_;rw[Tap];refine pS 2 λa cap=>?_;refine ee [2,1000] (ZlJ.mk (by rw[hn,cc]))
def ZIM{w:World}{so:Int}{nm:ByteArray}{args:AI}{E:GO}{v:Value}(h:bp w (.sl (az args)) E v):aV w (ax (.mk op nm so args)) E [.int .i64 op,.string nm,.int .i64 so,v]:=by
 simp only[ax,aV];refine⟨λ_=>False,E,λ_ h=>h.elim,λ_ h=>h,λ_ h _=>h,by simp[bp],λ_=>False,E,λ_ h=>h.elim,λ_ h=>h,λ_ h _=>h,by simp[bp],λ_=>False,E,λ_ h=>h.elim,λ_ h=>h,λ_ h _=>h,by simp[bp],E,λ_=>False,λ_ h=>h,λ_ h=>h.elim,λ_ _ h=>h,h,trivial⟩
def Zpg(t:Tm)(h:aT e0 188 [.I (.sl (az t.Y))] [] (ZlJ 46 4 (az t.Y))):aT e0 140 [.agg (ax t)] [] (kw (ax t)):=by
 obtain⟨op,nm,so,args⟩:=t;have hc:ax (.mk op nm so args)=[GS op,.A (.string nm),GS so,.sl (az args)]:=by simp only[ax]
 simp only[Tm.Y]at h;refine dX (ts:=[.cell 2 46]) [] 7 Tryz.func140 ?_;refine fB @hc ?_;have F:=@hc;refine cQ [] [1000,1001] (h) ?_;rintro r pm ⟨a,cap,uss,E,rfl,hu,rfl⟩;refine m7 ?_;refine ec @hc @hc ?_;refine pE [1000,1001] [1000] (Cl (G':=λw=>aV w (ax (.mk op nm so args)) (λb=>aO (.slice a uss.length cap)=some b\/E b) [.int .i64 op,.string nm,.int .i64 so,.slice a uss.length cap]) (λw h=>ZIM h) (aV.Κ _ _ _)) ?_
 have hm:=kw.mk (row:=ax (.mk op nm so args)) (us:=[.int .i64 op,.string nm,.int .i64 so,.slice a uss.length cap]) (E:=λb=>aO (.slice a uss.length cap)=some b\/E b) (by rw[hc];rfl) rfl;rw[zq]at hm;exact(have F:=hc;ee [1000] hm)
def ZE2(n:Nat):(∀t:Tm,mI (ax t)<n->ag (ax t)<=1048576->aT e0 140 [.agg (ax t)] [] (kw (ax t))):=by
 induction n with
 |zero=>exactλ_ h=>om
 |succ n ih =>
  intro t hn hb;obtain⟨op,nm,so,args⟩:=t;simp only[ax,mI,vM,ag,jE]at hn hb;refine Zpg _ (ZnM args (by unfold me;have:=cc args;omega) λa ha=>?_);exact m105
def ZlS(t:Tm)(hb:ag (ax t)<=1048576):aT e0 140 [.agg (ax t)] [] (kw (ax t)):=ZE2 _ t (Tan _) hb
def CL(pm:GQ):jn pm pm:=λw S h1 h2=>⟨h1,h2,λ_ h=>h⟩
def ZE3{i:Nat}(h:i<=ts.length):(az (ts.take i)).length=i:=by rw[cc,Taw];omega
def ZrN(t:Tm)(hB:me t.Y)(h:∀a∈t.Y,aI e0 55 [.agg (ax a)] [.agg (ax a)]):aI e0 55 [.agg (ax t)] [.agg (ax t)]:=by
 obtain⟨op,nm,so,args⟩:=t;have hc:ax (.mk op nm so args)=[GS op,.A (.string nm),GS so,.sl (az args)]:=by simp only[ax]
 simp only[Tm.Y]at h hB;have hl:args.length<=1048576:=Tbe (Nat.le_add_right _ _) hB;refine gI (ts:=[.cell 2 46]) 65567 Tryz.func55 ?_;refine kQ 1 @hc ?_;refine gP 6 ?_;refine gX ?_;refine fR @hc ?_;refine pN 1000 46 4 ?_;refine fG @hc ?_;have F:=ai @hc @Cr;refine gL (ι:=Nat×BY×Nat) [4,16] [3,1000] (λx=>[(4,GU (x.1:Int))]) (λx=>[(1000,.Υ (some (x.2.1,x.2.2)) 46 4 (az (args.take x.1))),(3,.var none [GS op,.A (.string nm),GS so,.A (.slice x.2.1 x.1 x.2.2)])]) (λx=>x.1<=args.length) (λx=>args.length-x.1) ((0,none,0)) (Taj _) (λx hx=>?_)
 obtain⟨i,p,cap⟩:=x;simp only at hx;by_cases am:i<args.length
 ·have hg:args[i]?=some args[i]:=Taa am;have ca:=h args[i] (List.getElem_mem am);generalize args[i]=a at hg ca;have q4:IntKind.i64.wrap ((i:Int)+1)=(i:Int)+1:=IntWalk.i64_in _ om;have q3:=ZE3 hx;have q5:(args.take i).length=i:=by rw[Taw];omega
  refine eH (aj6 @hc @cc @rt (lT i args.length) @hg @ae) (aj3 @ae @rt @hg) (ca) ?_;have F:=aj4 @ae (by unfold al;omega:i+1<=al) @q3 @q5;refine gP 3 ?_;refine gS 28 λp2 du=>?_;refine fR (aj3 @ae @q3 @q5) ?_;refine pE [28] [1000] (CL _) ?_;rw[<- Zjm args hg];have F:=ai @hc @q4;refine gG ?_;exact⟨(i+1,p2,du),am,gw,gw,om⟩
 ·obtain rfl:i=args.length:=by omega
  rw[Tap];refine fG (aj3 @hc @cc (lF args.length args.length)) ?_;refine pD 1000 [] [2] ?_ (hs:=by exact dE);exact fD (ai @hc @cc)
def ZC1(n:Nat):(∀t:Tm,mI (ax t)<n->ag (ax t)<=1048576->aI e0 55 [.agg (ax t)] [.agg (ax t)]):=by
 induction n with
 |zero=>exactλ_ h=>om
 |succ n ih =>
  intro t hn hb;obtain⟨op,nm,so,args⟩:=t;simp only[ax,mI,vM,ag,jE]at hn hb;refine ZrN _ (by unfold me;simp only[Tm.Y];have:=cc args;omega) λa ha=>?_;simp only[Tm.Y]at ha;exact m105
def Zkk(t:Tm)(hb:ag (ax t)<=1048576):aI e0 55 [.agg (ax t)] [.agg (ax t)]:=ZC1 _ t (Tan _) hb
def ZyR{i:Nat}(h:ts[i]?=some t):az (ts.take i)++[ax t]=az (ts.take (i+1)):=(Zjm ts h).symm
def ZlT(ts:AI)(hB:me ts):aI e0 233 [.I (.sl (az ts))] [.I (.sl (az ts))]:=by
 unfold me at hB;refine gI (ts:=[.slot 2]) 541 Tryz.func233 ?_;refine fG @ae ?_;have F:=@Cr;refine gL (ι:=Nat) [3,4,9] [3] (λi=>[(4,GU i),(3,.Υ 3)]) (λi=>[(3,.Υ none 46 4 (az (ts.take i)))]) (λi=>i<=ts.length) (λi=>ts.length-i) (0) (Taj _) (λi hi=>?_);by_cases am:i<ts.length;rotate_left
 ·obtain rfl:i=ts.length:=by omega
  rw[Tap];refine fG (ai (lF ts.length ts.length) @ae) ?_;have F:=@ae;refine gG ?_;exact xi [2]
 obtain⟨t,ht⟩:∃b,ts[i]?=some b:=⟨_,Taa am⟩;have q2:=lT i ts.length;have qU:=A5 (by rw[rt,ht];rfl:(az ts)[i]?=some (ax t));have l1:ZaD 4 (az (ts.take i)):=uL _;have l3:((ts.take i).length+1<=al)=True:=eq_true (by rw[Taw];unfold al;omega);have l4:min i ts.length+1<=al:=by unfold al;omega
 refine ce (ai @q2 @ae) (aj3 @q2 @ht @ae) ((Zkk t om)) (aj4 @l1 (eq_true (by rw[cc,Taw];unfold al;omega):((az (ts.take i)).length+1<=al)=True) @l3 @ae) ?_;have F:=ai (bW (k:=i) om) (ZyR ht);exact yV
def Ei(h:G3:=by
 induction ts with
 |nil=>simp[dI]
 |cons t ts ih=>simp[dI,ih]):G3:=h
def m123(h:G3:=by
 induction h with
 |nil=>rfl
 |cons x h ih=>simp only[az,ak,ih]
 |swap x y l=>simp only[az,ak];omega
 |trans h1 h2 a b=>rw[a,b]):G3:=h
def ZE4:az (fM [])=[]:=by simp[fM,az]
def ZyS{l:AI}(h:dI l):dI (fM l):=by
 have:∀{ts:AI},dI ts↔∀t∈ts,bc t:=λ{ts}=>by
  exact Ei
 exact this.2 λa ha=>this.1 h a ((vI l).mem_iff.1 ha)
def Zvs{l:AI}(h:dI l)(k:Nat):dI (l.take k):=by
 have:∀{ts:AI},dI ts↔∀t∈ts,bc t:=λ{ts}=>by
  exact Ei
 exact this.2 λa ha=>this.1 h a (List.mem_of_mem_take ha)
def ZtS (ts:AI) (aq:dI ts) (hB:me ts):aI e0 232 [.I (.sl (az ts))] [.I (.sl (az (fM ts)))]:=by
 have Gc:=hB;unfold me at hB
 have hcc:=ZlT (fM ts) (by
  have h1:=(vI ts).length_eq;have h2:ak (az (fM ts))=ak (az ts):=by
   have:∀{l m:AI},l.Perm m->ak (az l)=ak (az m):=λh=>by
    exact m123
   exact this (vI ts)
  unfold me;omega)
 refine gI (ts:=[.slot 2]) 1073743997 Tryz.func232 ?_;refine fG @ae ?_;have F:=ai @ZE4 @ae;refine gL (ι:=Nat) [3,4,5,6,11,30] [3] (λi=>[(4,GU i),(3,.Υ 3)]) (λi=>[(3,.Υ none 46 4 (az (fM (ts.take i))))]) (λi=>i<=ts.length) (λi=>ts.length-i) (0) (Taj _) (λi hi=>?_);by_cases am:i<ts.length;rotate_left
 ·obtain rfl:i=ts.length:=by omega
  rw[Tap];refine fN 10 (ai (lF ts.length ts.length) @ae) ?_;refine pS 3 λa cap=>?_;refine pD 3 [3] [] ?_;refine gB ?_;refine fC @ae (hcc) ?_;exact iF @ae @ae
 obtain⟨x,hx⟩:∃b,ts[i]?=some b:=⟨_,Taa am⟩;have q2:=lT i ts.length;have q4:=bW (k:=i) om;have hxo:=aq.mem (Tac hx);obtain⟨M,hM⟩:∃M,M=fM (ts.take i):=⟨_,rfl⟩;have BB:M.length=i:=by rw[hM,Zo1,Taw];omega
 have hMo:dI M:=by rw[hM];exact ZyS (Zvs aq i)
 have hMr:ts.take (i+1)=ts.take i++[x]:=Zgp hx;rw[<- hM];refine eQ 5 (aj3 @q2 @BB @ae) (ai @BB @ae) ?_;refine Zh7 ?_;refine gM (ι:=Nat) [5] [] (λk=>[(5,GU k)]) (λk=>[]) (λk=>k<=i/\(∀y∈M.drop k,aU x y<=0)/\(0<k->∃y,M[k-1]?=some y/\aU y x<=0)) ?_ (λk hk=>Exists.intro _ (ai (Wk.refl _) ?_))
 ·refine fG @ae ?_;have F:=@ae;refine gL (ι:=Nat) [5,30] [] (λk=>[(5,GU k)]) (λk=>[]) (λk=>k<=i/\∀y∈M.drop k,aU x y<=0) (λk=>k) (i) (⟨Tai _,by rw[<- BB,List.drop_length];intro y hy;cases hy⟩) (λk hk=>?_);obtain⟨hk,h2⟩:=hk;by_cases iY:k=0
  ·have F:=ai (lF 0 k) @ae;refine gG ?_;exact⟨k,⟨hk,h2,λh=>om⟩,gw,gw⟩
  obtain⟨j,rfl⟩:∃j,k=j+1:=⟨k-1,om⟩;obtain⟨y,hy⟩:∃y,M[j]?=some y:=⟨_,Taa om⟩;have q5:=lT 0 (j+1:Nat);have wj:IntKind.i64.wrap (((j+1:Nat):Int)-1)=(j:Int):=kJ om om om;have lj:j<i:=om;have ev:M.drop j=y::M.drop (j+1):=ZlA hy;generalize gU:j+1=k1 at q5 wj h2 hk ev⊢;refine eH @ae (aj8 @q5 @wj @hy @hx @BB @lj @bw @ae) (Cn (hMo.mem (Tac hy)) hxo) ?_;by_cases hc:0<aU y x
  ·have z:=eq_true hc;refine fR @z ?_;have oC:∀u∈M.drop j,aU x u<=0:=λu hu=>by
    rw[ev]at hu;rcases Tbh.1 hu with rfl|hu
    ·rw[sj u x];omega
    ·exact h2 u hu
   have F:=ai @z @wj;refine gG ?_;exact⟨j,⟨om,oC⟩,gw,gw,om⟩
  have z:=eq_false hc;refine fR @z ?_;have F:=ai @z @ae;refine gG ?_;exact⟨k1,⟨hk,h2,λ_=>⟨y,by rw[<- gU,Nat.add_sub_cancel];exact hy,om⟩⟩,gw,gw⟩
 obtain⟨hk,h2,h1⟩:=hk;have hMs:M.take k++x::M.drop k=fM (ts.take (i+1)):=by
  rw[hMr];refine Ztp (by rw[Tbn,hM]) h2 λy hy=>?_;have iY:0<k:=by
   rcases Nat.eq_zero_or_pos k with h|h
   ·subst h;simp at hy
   ·exact h
  obtain⟨z,hz,hc⟩:=h1 iY;rw[List.getLast?_eq_getElem?,Taw,BB,Nat.min_eq_left hk,List.getElem?_take,if_pos om,hz]at hy;injection hy with hy
  subst hy;exact hc
 have jX:((az M).take (az M).length).drop k=az (M.drop k):=by rw[Tap,ZfF]
 refine fN 8 @ae ?_;refine pS 3 λa cap=>?_;refine gB ?_;have F:=@ae;refine gP 3 ?_;have jF:k<=(az M).length:=by rw[cc];omega
 refine(have F:=ai BB ae;zS 3 k (az M).length ⟨jF,Tai _⟩ ?_);refine gO 33 46 4 ?_;refine(have F:=ae;gAps (rows:=[]) (rj:=az M) 33 3 ⟨jF,Tai _⟩ (by rw[cc];simp only[Tak,al];omega) ?_);rw[jX,Tah];refine fR @ae ?_;refine fN 9 @ae ?_;have iH:(az M).take k=az (M.take k):=ZeS _ _;have D4:(M.take k).length=k:=by rw[Taw];omega
 refine rE ?_;refine pb 0 ?_;refine pb 1 ?_;refine(have F:=ai BB ae;gFs 2 3 0 k ⟨Taj _,jF⟩ ?_);rw[Zna];refine pb 3 ?_;refine pb 4 ?_;refine pb 9 ?_;refine gFT ?_;have e1:az (M.take k)++[ax x]=az (M.take k++[x]):=by rw[zj];rfl
 have e2:az (M.take k++[x])++az (M.drop k)=az (fM (ts.take (i+1))):=by rw[<- zj,<- hMs];simp
 refine mt 5 ?_;refine(have F:=aj4 q2 hx bw ae;ip ?_);refine mt 6 ?_;refine(have F:=ai hx ae;ip ?_);refine mt 7 ?_;refine(have F:=ae;ip ?_);refine mt 8 ?_;refine gE [3] [3] (ZCE k jF) ?_;rw[iH];refine(have F:=aj4 D4 (eq_true (by unfold al;omega):(k+1<=al)=True) e1 ae;ip ?_);refine mt 10 ?_;refine(have F:=aj3 (eq_true (by rw[D4,Tax];unfold al;omega):((M.take k).length+1+(M.drop k).length<=al)=True) e2 ae;ip ?_);refine mt 11 ?_;refine(have F:=ae;ip ?_);refine(have F:=ae;Dk ?_);refine Exists.intro _ (ai (Wk.refl _) ?_)
 have F:=@q4;exact yV
def ZlU:dI ts↔∀t∈ts,bc t:=by
 exact Ei
def ZHS(op so:Int)(nm:ByteArray)(args:AI):ag (ax (.mk op nm so args))=nm.size+(args.length+ak (az args)):=by
 simp only[ax,ag,jE,cc];omega
section
variable{g:Sgn}
mutual
theorem zf:∀{t:Tm},e6 g t->ag (ax t)+1<=13*ah t
 | .mk op nm so args,h=>by
  have h1:=Zkl (Zjf.2 (mH.1 h).2.1);simp only[Tm.Y]at h1;rw[ZHS];simp only[ah];rcases h.node with hv|⟨o,d,hA⟩
  ·have h2:jc nm:=hv.2.1;have h3:args=[]:=hv.2.2.2.2;subst h3;have h4:¬12<nm.size:=λh=>by rw[yo (.inr (.inl h))]at h2;cases h2
   simp only[az,ak,au,Tak];omega
  ·have h2:nm=ByteArray.empty:=hA.nm;subst h2;have:ByteArray.empty.size=0:=rfl;omega
theorem Zkl:∀{ts:AI},vK g ts->ak (az ts)+ts.length<=13*au ts
 |[],_=>by simp[az,ak]
 |t::ts,h=>by
  simp only[vK]at h;have h1:=zf h.1;have h2:=Zkl h.2;simp only[az,ak,au,Tag];omega
end
end
def m230(b:G5)(h:Bx G5->G4:=by
 intro B0
 have am:i<l.length:=by have:=(Tbm.1 fU).1;simpa using this
 refine⟨?_,oi,fU,λe he hb=>?_⟩
 ·rw[nG (om:i<aa.size)];simpa using h
 exact B0.o am e he hb):G4:=h ⟨b⟩
def m96(h:G3:=by
 have:some d∈(dx i k l).map (·.dst):=Tbj.2 ⟨o,by simpa using ho,iX⟩;rw[ZnN]at this;obtain⟨o',h1,h2⟩:=Tbj.1 this;exact hd o' (by simpa using h1) d h2):G3:=h
def m29(h:G3:=by
 rw[mem_ready,mem_ready];simp only[List.getElem?_toArray,Zis];by_cases hj:j=k
 ·subst hj;simp only[if_true,true_implies];constructor
  ·rintro⟨q1,o,q2,q3⟩
   cases hl:l[j]? with
   |none=>rw[hl]at q2;cases q2
   |some o' =>
    rw[hl]at q2;injection q2 with q2
    subst q2;exact⟨⟨q1,o',rfl,λe he hb=>q3 e (by simp[he]) hb⟩,q3 ⟨i,.data⟩ (by simp) rfl⟩
  ·rintro⟨⟨q1,o,q2,q3⟩,q4⟩;refine⟨q1,_,by rw[q2];rfl,λe he hb=>?_⟩;rcases Array.mem_push.1 he with he|he
   ·exact q3 e he hb
   ·subst he;exact q4
 ·simp[hj]):G3:=h
def dx(i:Nat):Nat->GL->GL
 |_,[]=>[]
 |0,o::l=>{ o with after:=o.after.push ⟨i,.data⟩ }::l
 |k+1,o::l=>o::dx i k l
def Zis(i:Nat):∀(k:Nat)(l:GL)(j:Nat),(dx i k l)[j]?=if j=k then l[j]?.map λo=>{ o with after:=o.after.push ⟨i,.data⟩ }else l[j]?
 |k,[],j=>by simp[dx]
 |0,o::l,0=>by simp[dx]
 |0,o::l,j+1=>by simp[dx]
 |k+1,o::l,0=>by simp[dx]
 |k+1,o::l,j+1=>by simp[dx,Zis i k l j]
def Zit(i:Nat):∀(k:Nat)(l:GL),(dx i k l).length=l.length
 |k,[]=>by simp[dx]
 |0,o::l=>by simp[dx]
 |k+1,o::l=>by simp[dx,Zit i k l]
def ZnN(i:Nat):∀(k:Nat)(l:GL),(dx i k l).map (·.dst)=l.map (·.dst)
 |k,[]=>by simp[dx]
 |0,o::l=>by simp[dx]
 |k+1,o::l=>by simp[dx,ZnN i k l]
section
variable{P:Program}{l:GL}{i k:Nat}{oi ok:Oper}
def ZiY{Q:Exit->Act->World->Prop}{K:Act->World->Prop}{a:Act}{w:World}:wpOp P (dx i k l).toArray Q j K a w↔wpOp P l.toArray Q j K a w:=by
 have hb:∀g:Nat,((dx i k l)[g]?).bind (λx=>x.dst)=(l[g]?).bind λx=>x.dst:=λg=>by
  rw[Zis];by_cases h:g=k
  ·rw[if_pos h];cases l[g]?<;>rfl
  ·rw[if_neg h]
 have hy:yielded (dx i k l).toArray a.tmps=yielded l.toArray a.tmps:=by
  funext g;unfold yielded;simp only[List.getElem?_toArray,hb]
 unfold wpOp;rw[hy];simp only[List.getElem?_toArray,Zis];by_cases hjk:j=k
 ·rw[if_pos hjk]
  cases hj:l[j]? with
  |none=>exact Iff.rfl
  |some o=>exact Iff.rfl
 ·rw[if_neg hjk]
def ZC2(ops:Array Oper)(i:Nat):Bool:=(List.range ops.size).all λj=>j==i||match ops[i]?,ops[j]? with
 |some oi,some oj=>oi.after.any (λe=>Region.binds .any e&&e.on==j)||(oj.after.any (λe=>Region.binds .any e&&e.on==i)||oi.apart ops oj)
 |_,_=>true
def FI(ops:Array Oper)(i k:Nat):Bool:=C2 ops&&ZC2 ops i&&i != k&&match ops[i]?,ops[k]? with
 |some oi,some ok=>(match oi with
  |⟨some _,.extract _ _,_,_,_,none⟩=>true
  |⟨some _,.move _,_,_,_,none⟩=>true
  |_=>false)&&oi.after.all λe=>!Region.binds .any e||ok.after.any λe'=>Region.binds .any e' && e'.on==e.on
 |_,_=>false
def ZyT {Q:Exit->Act->World->Prop} (hQ:∀ex a w,Q ex a w->ex=.normal) (hB:FI l.toArray i k) :
  ∀(f:Nat)(aa:Array Bool)(a:Act)(w:World),aa.size=l.length->wpAny P .any (dx i k l).toArray Q f aa a w->wpAny P .any l.toArray Q f aa a w:=by
 simp only[FI,Tar,bne_iff_ne,ne_eq]at hB;obtain⟨⟨⟨lR,li⟩,yR⟩,h4⟩:=hB;split at h4;rotate_left
 ·cases h4
 rename_i oi ok fU aq;simp only[Tar]at h4;obtain⟨h5,h6⟩:=h4;have mU:∀e∈oi.after,Region.binds .any e->∃e'∈ok.after,Region.binds .any e'/\e'.on=e.on:=λe he hb=>by
  have:=Array.all_eq_true_iff_forall_mem.1 h6 e he;simp only[hb,Bool.not_true,Bool.false_or,Array.any_eq_true',Tar,beq_iff_eq]at this;obtain⟨e',q1,q2,q3⟩:=this;exact⟨e',q1,q2,q3⟩
 have lQ:∀(aa:Array Bool)(j:Nat),j∈Region.ready .any (dx i k l).toArray aa↔j∈Region.ready .any l.toArray aa/\(j=k->aa.getD i false):=λaa j=>by
  exact m29
 have iZ:∀(aa:Array Bool),aa.size=l.length->k∈Region.ready .any l.toArray aa->i∈Region.ready .any l.toArray aa\/aa.getD i false:=λaa hs hk=>by
  by_cases h:aa.getD i false=true
  ·exact .inr h
  ·left;rw[mem_ready]at hk⊢;obtain⟨_,o,q2,q3⟩:=hk;have:o=ok:=by rw[aq]at q2;injection q2 with q2;exact q2.symm
   subst this;refine m230 λam e he hb=>?_
   ·obtain⟨e',r1,r2,r3⟩:=mU e he hb;rw[<- r3];exact q3 e' r1 r2
 have hap':=li;intro f
 induction f with
 | zero =>
  intro aa a w hs h;refine⟨?_,h.2⟩;by_cases hk:k∈Region.ready .any l.toArray aa
  ·rcases iZ aa hs hk with h1|h1
   ·have:=(lQ aa i).2 ⟨h1,λe=>absurd e yR⟩;rw[h.1]at this
    cases this
   ·have:=(lQ aa k).2 ⟨hk,λ_=>h1⟩;rw[h.1]at this
    cases this
  ·refine List.eq_nil_iff_forall_not_mem.2 λj hj=>?_;have:=(lQ aa j).2 ⟨hj,λe=>absurd (e▸hj) hk⟩;rw[h.1]at this
   cases this
 | succ f ih =>
  intro aa a w hs h;by_cases hi:i∈Region.ready .any l.toArray aa
  ·have h1:=h.2 i ((lQ aa i).2 ⟨hi,λe=>absurd e yR⟩);rw[ZiY]at h1;have pL:∃v,Yields P l.toArray oi v a/\wpAny P .any (dx i k l).toArray Q f (aa.setIfInBounds i true) (a.put oi.dst v) w:=by
    unfold wpOp at h1;simp only[fU]at h1;split at h5;rotate_left
    ·rename_i d x ty i5 af;have hw:Region.wanted ⟨some d,.move x,ty,i5,af,none⟩ (yielded l.toArray a.tmps):=by simp[Region.wanted]
     rw[if_pos hw]at h1;rcases h1 with h1|⟨_,b,w',h1⟩
     rotate_left
     ·have:=hQ _ _ _ h1;cases this
     unfold Oper.wp at h1;have aF:∀w',(execOp a.eval ⟨some d,.move x,ty,i5,af,none⟩).run P w'=.ok (.value (a.eval x)) w':=λw'=>by simp[execOp]
     rw[aF,Oper.upon_value]at h1;exact⟨_,.inl ⟨hw,aF⟩,h1⟩
    ·cases h5
    rename_i d x n ty i5 af;have hw:Region.wanted ⟨some d,.extract x n,ty,i5,af,none⟩ (yielded l.toArray a.tmps):=by simp[Region.wanted]
    rw[if_pos hw]at h1;rcases h1 with h1|⟨_,b,w',h1⟩
    rotate_left
    ·have:=hQ _ _ _ h1;cases this
    unfold Oper.wp at h1
    cases hx:a.eval x with
    | tuple vs =>
     cases hv:vs[n]? with
     | some v =>
      have aF:∀w',(execOp a.eval ⟨some d,.extract x n,ty,i5,af,none⟩).run P w'=.ok (.value v) w':=λw'=>by
       simp[execOp,Instr.extract,hx,hv]
      rw[aF,Oper.upon_value]at h1;exact⟨v,.inl ⟨hw,aF⟩,h1⟩
     |none =>
      simp[execOp,Instr.extract,hx,hv,stuck,Oper.upon]at h1
    |_=>simp[execOp,Instr.extract,hx,stuck,Oper.upon]at h1
   obtain⟨v,hv,h2⟩:=pL;refine wpAny_first (oi:=oi) (v:=v) fU (λj oj cs b hj lS=>?_) (λc a w hq=>?_) f aa a w (λj oj hj aP hl bT=>?_) hi hv (ih _ _ _ (by simpa using hs) h2)
   ·have:=List.all_eq_true.1 lR oj (Tac (by simpa using hj));rw[lS]at this
    cases this
   ·have:=hQ _ _ _ hq;cases this
   ·have DL:=(Tbm.1 hj).1;have:=List.all_eq_true.1 li j (List.mem_range.2 DL);simp only[fU,hj,Bool.or_eq_true,beq_iff_eq,List.any_eq_true,Array.any_eq_true',Tar]at this;rcases this with h1|h1|h1|h1
    ·exact absurd h1 aP
    ·obtain⟨ed,h2,h3,h4⟩:=h1;obtain⟨_,o,q2,q3⟩:=mem_ready.1 hi;rw[fU]at q2;injection q2 with q2
     subst q2;have q4:=q3 ed h2 h3;rw[h4,<- nG (by simpa[hs]using DL)]at q4;rw[hl]at q4
     cases q4
    ·obtain⟨ed,h2,h3,h4⟩:=h1;exact absurd h4 (bT ed h2 h3)
    ·exact h1
  ·refine⟨λh0=>h.1 ?_,λj hj=>?_⟩
   ·refine List.eq_nil_iff_forall_not_mem.2 λj hj=>?_;have:=((lQ aa j).1 hj).1;rw[h0]at this
    cases this
   ·have mQ:j∈Region.ready .any (dx i k l).toArray aa:=(lQ aa j).2 ⟨hj,λe=>by
     subst e;rcases iZ aa hs hj with h1|h1
     ·exact absurd h1 hi
     ·exact h1⟩
    have h1:=h.2 j mQ;rw[ZiY]at h1;exact wpOp_mono (λa w h=>ih _ a w (by simpa using hs) h) h1
end
section
variable{e:Env}{K:GR}{ay:Nat}{Q:PX->St->Prop}{s:d3}{m:it}
def Zkm{l:GL}{i:Nat}(hB:FI l.toArray i k)(h:lg e (dx i k l).toArray K l.length (Array.replicate l.length false) σ):lg e l.toArray K l.length (Array.replicate l.length false) σ:=by
 intro he U w0 S0 nt a w hd hs;refine ZyT (λex a w hq=>hq.1) hB _ _ _ _ (by simp) (h he U w0 S0 nt a w (λo ho d iX=>?_) hs);exact m96
def Zvt{l:GL}{p:Nat}(pd:CA l.toArray p)(hB:eZ l.toArray (p+1))(hp:an e (l.map (·.dst)) (p+1) l σ K):lg e l.toArray K l.length (Array.replicate l.length false) σ:=by
 intro he U w0 S0 nt a w hd hs;have:=Zh6 (ops:=l.toArray) he pd hB (K:=K) (Q:=QN e U w0 S0 nt K) (λa w y' hK mz=>⟨rfl,y',hK,mz⟩) hd hs (by simpa using hp);simpa using this
def Dh{id:Nat}{l l':GL}(p i k:Nat)(hK:an e ds (p+1) l' ⟨s,m⟩ (oP ay Q))(hl:dx i k l=l':=by simp only[dx];exact rfl)(bJ:l'.map (·.dst)=ds:=by simp only[Tbv,List.map_nil];exact rfl)(hc:FI l.toArray i k:=by decide +kernel)(hA:CA l'.toArray p:=by decide +kernel)(hr:eZ l'.toArray (p+1):=by decide +kernel):de e ay (.region id l.toArray true) ⟨s,m⟩ Q:=by
 subst hl bJ;have h1:=Zkm hc (by have:=Zvt hA hr hK;rwa [Zit]at this);exact ZiV (ops:=l.toArray) (by simpa using h1)
end
def ZG0(ops:Array Oper)(ok:Oper):GN:=(ok.after.toList.filter λe=>Region.binds .any e).flatMap λe=>e.on::match ops[e.on]? with
 |some o=>(o.after.toList.filter λe=>Region.binds .any e).map (·.on)
 |none=>[]
def Zsk(ops:Array Oper)(i k:Nat):Bool:=C2 ops&&ZC2 ops i&&i != k&&match ops[i]?,ops[k]? with
 |some oi,some ok=>(match oi with
  |⟨some _,.pick _ _ _,_,_,_,none⟩=>true
  |_=>false)&&oi.after.all λe=>!Region.binds .any e||(ZG0 ops ok).contains e.on
 |_,_=>false
section
variable{P:Program}{l:GL}{i k:Nat}
def ZjE(l:GL)(aa:Array Bool):Prop:=∀(j:Nat)o,aa.getD j false->l[j]?=some o->∀e∈o.after,Region.binds .any e->aa.getD e.on false=true
def ZjE.put {aa:Array Bool} (hc:ZjE l aa) (hj:j∈Region.ready .any l.toArray aa):ZjE l (aa.setIfInBounds j true):=by
 intro q o hq ho e he hb;obtain⟨_,o',h2,h3⟩:=mem_ready.1 hj;have BN:∀t,aa.getD t false->(aa.setIfInBounds j true).getD t false:=λt ht=>by
  by_cases htj:t=j
  ·subst htj;simp only[Array.getD_eq_getD_getElem?,Array.getElem?_setIfInBounds]at ht⊢
   cases hl:aa[t]? with
   |none=>rw[hl]at ht;cases ht
   |some b =>
    have:t<aa.size:=(Tbm.1 hl).1;simp[this]
  ·rw[getD_set_ne false (Ne.symm htj)];exact ht
 by_cases hqj:q=j
 ·subst hqj;have:o'=o:=by
   rw[List.getElem?_toArray,ho]at h2;injection h2 with h2
   exact h2.symm
  subst this;exact BN _ (h3 e he hb)
 ·rw[getD_set_ne false (Ne.symm hqj)]at hq;exact BN _ (hc q o hq ho e he hb)
def Zvu {Q:Exit->Act->World->Prop} (hQ:∀ex a w,Q ex a w->ex=.normal) (hB:Zsk l.toArray i k) :
  ∀(f:Nat)(aa:Array Bool)(a:Act)(w:World),aa.size=l.length->ZjE l aa->wpAny P .any (dx i k l).toArray Q f aa a w->wpAny P .any l.toArray Q f aa a w:=by
 simp only[Zsk,Tar,bne_iff_ne,ne_eq]at hB;obtain⟨⟨⟨lR,li⟩,yR⟩,h4⟩:=hB;split at h4;rotate_left
 ·cases h4
 rename_i oi ok fU aq;simp only[Tar]at h4;obtain⟨h5,h6⟩:=h4;have lQ:∀(aa:Array Bool)(j:Nat),j∈Region.ready .any (dx i k l).toArray aa↔j∈Region.ready .any l.toArray aa/\(j=k->aa.getD i false):=λaa j=>by
  exact m29
 have iZ:∀(aa:Array Bool),aa.size=l.length->ZjE l aa->k∈Region.ready .any l.toArray aa->i∈Region.ready .any l.toArray aa\/aa.getD i false:=λaa hs iH hk=>by
  by_cases h:aa.getD i false=true
  ·exact .inr h
  ·left;rw[mem_ready]at hk⊢;obtain⟨_,o,q2,q3⟩:=hk;have:o=ok:=by rw[aq]at q2;injection q2 with q2;exact q2.symm
   subst this;refine m230 λam e he hb=>?_
   ·have:=Array.all_eq_true_iff_forall_mem.1 h6 e he;simp only[hb,Bool.not_true,Bool.false_or,List.contains_eq_mem,decide_eq_true_eq,ZG0,List.mem_flatMap,List.mem_filter,Tbh]at this;obtain⟨e',⟨r1,r2⟩,r3⟩:=this;have ki:=q3 e' (Array.mem_toList_iff.1 r1) r2;rcases r3 with r3|r3
    ·rw[r3];exact ki
    ·cases cr:l.toArray[e'.on]? with
     |none=>rw[cr]at r3;simp at r3
     |some o' =>
      rw[cr]at r3;simp only[Tbj,List.mem_filter]at r3;obtain⟨e2,⟨r4,r5⟩,r6⟩:=r3;rw[<- r6];exact iH e'.on o' ki (by simpa using cr) e2 (Array.mem_toList_iff.1 r4) r5
 intro f
 induction f with
 | zero =>
  intro aa a w hs iH h;refine⟨?_,h.2⟩;by_cases hk:k∈Region.ready .any l.toArray aa
  ·rcases iZ aa hs iH hk with h1|h1
   ·have:=(lQ aa i).2 ⟨h1,λe=>absurd e yR⟩;rw[h.1]at this
    cases this
   ·have:=(lQ aa k).2 ⟨hk,λ_=>h1⟩;rw[h.1]at this
    cases this
  ·refine List.eq_nil_iff_forall_not_mem.2 λj hj=>?_;have:=(lQ aa j).2 ⟨hj,λe=>absurd (e▸hj) hk⟩;rw[h.1]at this
   cases this
 | succ f ih =>
  intro aa a w hs iH h;by_cases hi:i∈Region.ready .any l.toArray aa
  ·have h1:=h.2 i ((lQ aa i).2 ⟨hi,λe=>absurd e yR⟩);rw[ZiY]at h1;have pL:∃v,Yields P l.toArray oi v a/\wpAny P .any (dx i k l).toArray Q f (aa.setIfInBounds i true) (a.put oi.dst v) w:=by
    unfold wpOp at h1;simp only[fU]at h1;split at h5;rotate_left
    ·cases h5
    rename_i d x y z ty i5 af;have hw:Region.wanted ⟨some d,.pick x y z,ty,i5,af,none⟩ (yielded l.toArray a.tmps):=by simp[Region.wanted]
    rw[if_pos hw]at h1;rcases h1 with h1|⟨_,b,w',h1⟩
    rotate_left
    ·have:=hQ _ _ _ h1;cases this
    unfold Oper.wp at h1
    cases hx:a.eval x with
    | bool b =>
     have aF:∀w',(execOp a.eval ⟨some d,.pick x y z,ty,i5,af,none⟩).run P w'=.ok (.value (if b then a.eval y else a.eval z)) w':=λw'=>by
      cases b<;>simp[execOp,hx,asBool]
     rw[aF,Oper.upon_value]at h1;exact⟨_,.inl ⟨hw,aF⟩,h1⟩
    |_=>simp[execOp,hx,asBool,stuck,Oper.upon,Result.andThen]at h1
   obtain⟨v,hv,h2⟩:=pL;refine wpAny_first (oi:=oi) (v:=v) fU (λj oj cs b hj lS=>?_) (λc a w hq=>?_) f aa a w (λj oj hj aP hl bT=>?_) hi hv (ih _ _ _ (by simpa using hs) (iH.put hi) h2)
   ·have:=List.all_eq_true.1 lR oj (Tac (by simpa using hj));rw[lS]at this
    cases this
   ·have:=hQ _ _ _ hq;cases this
   ·have DL:=(Tbm.1 hj).1;have:=List.all_eq_true.1 li j (List.mem_range.2 DL);simp only[fU,hj,Bool.or_eq_true,beq_iff_eq,List.any_eq_true,Array.any_eq_true',Tar]at this;rcases this with h1|h1|h1|h1
    ·exact absurd h1 aP
    ·obtain⟨ed,h2,h3,h4⟩:=h1;obtain⟨_,o,q2,q3⟩:=mem_ready.1 hi;rw[fU]at q2;injection q2 with q2
     subst q2;have q4:=q3 ed h2 h3;rw[h4,<- nG (by simpa[hs]using DL)]at q4;rw[hl]at q4
     cases q4
    ·obtain⟨ed,h2,h3,h4⟩:=h1;exact absurd h4 (bT ed h2 h3)
    ·exact h1
  ·refine⟨λh0=>h.1 ?_,λj hj=>?_⟩
   ·refine List.eq_nil_iff_forall_not_mem.2 λj hj=>?_;have:=((lQ aa j).1 hj).1;rw[h0]at this
    cases this
   ·have mQ:j∈Region.ready .any (dx i k l).toArray aa:=(lQ aa j).2 ⟨hj,λe=>by
     subst e;rcases iZ aa hs iH hj with h1|h1
     ·exact absurd h1 hi
     ·exact h1⟩
    have h1:=h.2 j mQ;rw[ZiY]at h1;exact wpOp_mono (λa w h=>ih _ a w (by simpa using hs) (iH.put hj) h) h1
end
section
variable{e:Env}{K:GR}{ay:Nat}{Q:PX->St->Prop}{s:d3}{m:it}
def Zvv{l:GL}{i:Nat}(hB:Zsk l.toArray i k)(h:lg e (dx i k l).toArray K l.length (Array.replicate l.length false) σ):lg e l.toArray K l.length (Array.replicate l.length false) σ:=by
 intro he U w0 S0 nt a w hd hs;refine Zvu (λex a w hq=>hq.1) hB _ _ _ _ (by simp) (λj o hj=>by rw[getD_replicate_false]at hj;cases hj) (h he U w0 S0 nt a w (λo ho d iX=>?_) hs);exact m96
def ZiZ(he:e.Ok){U:GO}{w0:World}{S0:GO}{nt:Nat}{ops:Array Oper}{n:Nat}(hB:eZ ops n)(Ao:∀o,(ops.toList.take n).getLast?=some o->jO o=false){Q:Exit->Act->World->Prop}(hQ:∀a w y',K y'->aS e U w0 S0 nt y' a w->Q .normal a w){σ:St}{a:Act}{w:World}
  (hd:∀o∈ops.toList,∀d,o.dst=some d->d<nt) (h:aS e U w0 S0 nt σ a w) (hp:an e (ops.toList.map (·.dst)) n ops.toList σ K):wpAny e.P .any ops Q ops.size (Array.replicate ops.size false) a w:=by
 simp only[eZ,Tar,Bool.or_eq_true,decide_eq_true_eq]at hB;obtain⟨⟨⟨hH,hn⟩,hs⟩,rY⟩:=hB;obtain⟨S,L,h1⟩:=h;have nU:ops.toList=ops.toList.take n++ops.toList.drop n:=(Tbn n _).symm;have bh:(ops.toList.take n).length=n:=by simp;omega
 have et:an e (ops.toList.map (·.dst)) ((ops.toList.take n).length+0) (ops.toList.take n++ops.toList.drop n) σ K:=by rw[<- nU,bh];exact hp
 obtain⟨D',di,nu,jY⟩:=Cv (U:=U) he w0.heap.size S0 ops.toList (ops.toList.drop n) 0 (ops.toList.take n) σ (λ_=>Ao) et;rw[bh]at di
 have nX:InvA e U w0 S0 nt σ.m ops n σ.s D' L (Array.replicate ops.size false) a w S :=
  ⟨⟨by simp,λj oj _ hl=>(by rw[getD_replicate_false]at hl;cases hl),λt _ ht=>getD_in (by simpa using ht) (getD_replicate_false _ _)⟩,h1.size,h1.defers,h1.Ξ,h1.kept,λt _=>h1.rel t,λi o d α _ hl=>(by rw[getD_replicate_false]at hl;cases hl)⟩
 have H:=Cm (e:=e) (L:=L) (Q:=Q) he hH hn (λam=>by
   rcases hs with hs|hs
   ·omega
   ·exact hs) rY (λi o d hi ho iX=>hd o (List.mem_iff_getElem?.2 ⟨i,by simpa using ho⟩) d iX) di nu (Zja hH Q) (λ_ _ _ _ _ _ _ _ _ _ _ _ _ _=>trivial) (λaa a' w' S' hI _ hall=>?_) n _ a _ S nX trivial ?_
 ·rw[show n+(ops.size-n)=ops.size by omega]at H;exact H
 ·have eD:aS e U w0 S0 nt ⟨after σ.s (ops.toList.take n) D',σ.m⟩ a' w':=by
   exact m276
  have:=Zmj he ops.toList hQ (ops.toList.drop n) _ a' w' (λo ho=>hd o (List.mem_of_mem_drop ho)) eD jY;simpa using this
 ·rw[List.countP_eq_length.2]
  ·simp
  ·intro i hi;have dR:=List.mem_range.1 hi;have bP:i<(Array.replicate ops.size false).size:=by simp;omega
   rw[nG bP,getD_replicate_false];rfl
def ZyU{l:GL}{n:Nat}(hB:eZ l.toArray n)(Ao:∀o,(l.take n).getLast?=some o->jO o=false)(hp:an e (l.map (·.dst)) n l σ K):lg e l.toArray K l.length (Array.replicate l.length false) σ:=by
 intro he U w0 S0 nt a w hd hs;have:=ZiZ (ops:=l.toArray) (n:=n) he hB (by simpa using Ao) (K:=K) (Q:=QN e U w0 S0 nt K) (λa w y' hK mz=>⟨rfl,y',hK,mz⟩) hd hs (by simpa using hp);simpa using this
def ZC3(l:GL)(n:Nat):Bool:=match(l.take n).getLast? with
 |some o=>!jO o
 |none=>true
def gLp{id:Nat}{l l':GL}(n i k:Nat)(hK:an e ds n l' ⟨s,m⟩ (oP ay Q))(hl:dx i k l=l':=by simp only[dx];exact rfl)(bJ:l'.map (·.dst)=ds:=by simp only[Tbv,List.map_nil];exact rfl)(hc:Zsk l.toArray i k:=by decide +kernel)(hA:ZC3 l' n:=by decide +kernel)(hr:eZ l'.toArray n:=by decide +kernel):de e ay (.region id l.toArray true) ⟨s,m⟩ Q:=by
 subst hl bJ;have h1:=Zvv hc (by have:=ZyU hr (λo ho=>by unfold ZC3 at hA;rw[ho]at hA;simpa using hA) hK;rwa [Zit]at this);exact ZiV (ops:=l.toArray) (by simpa using h1)
end
open Classical in
noncomputable def GG(g:Sgn)(o:Opr)(d:Dcl)(op:Int)(xs:AI):Tm:=(lX g o d op xs).getD (if¬Cb o d xs.length/\∀(i:Nat)a,xs[i]?=some a->kD g o d i a then b7 op (bC o (cd o op xs))else jS)
def ZE5{o:Opr}{xs:AI}(h:∀a∈xs,TermOk g a):∀b∈cd o op xs,e6 g b:=by
 intro b hb;obtain⟨a,h1,h2⟩:=List.mem_flatMap.1 hb;have hf:=(h a h1).Η;unfold fo at h2;split at h2
 ·exact(mH.1 hf).2.1 b h2
 ·split at h2
  ·cases h2
  ·rw[Tbk.1 h2];exact hf
def Zrc:∀(l m:AI),au (l++m)=au l+au m
 |[],m=>by simp[au]
 |x::l,m=>by simp only[Taf,au,Zrc l m];omega
def ZnO {g:Sgn} {o:Opr} {op:Int}:∀{xs:AI},(∀a∈xs,TermOk g a)->au (cd o op xs)<=60*xs.length
 |[],_=>by simp[cd,au]
 | a::xs,h=>by
  have ih:=ZnO (o:=o) (op:=op) (xs:=xs) λx hx=>h x (Tal _ hx);have ha:=(h a Tas).size;have e:cd o op (a::xs)=fo o op a++cd o op xs:=rfl;have hz:=iB a;have hf:au (fo o op a)<=ah a:=by
   unfold fo;split
   ·omega
   ·split
    ·simp[au]
    ·simp[au]
  rw[e,Zrc,Tag];omega
def ZHT{o:Opr}{xs:AI}(h:∀a∈xs,TermOk g a)(hl:xs.length<=1000):me (cd o op xs):=by
 have h1:=Zkl (Zjf.2 (ZE5 (o:=o) (op:=op) h));have h2:=ZnO (o:=o) (op:=op) h;unfold me;omega
def ZyV{l m:AI}(h:l.Perm m):ak (az l)=ak (az m):=by
 exact m123
section
variable{g:Sgn}
end
def ZtT(ts:AI){N:Nat}(hN:N=ts.length)(c8:N<20)(a:BY)(cap:Nat) :
  aT e0 229 [.I (.A (.slice a N cap)),GT N,.I (.fn 65 [])] [.Υ (some (a,cap)) 46 4 (az ts)] (nF a cap (fM ts)):=by
 have q1:((20:Int)<=N)=False:=eq_false om;have q2:=lF 20 N;have z0:((0:Nat):Int)=0:=rfl;have c:=ZE1 [] ts [] (A:=0) (B:=N) (N:=N) rfl (by simpa using hN) (by simpa using hN) om a cap;rw[List.append_nil,List.append_nil,Tah,Tah,z0]at c;refine dX (ts:=[]) [1000] 18014433942971335 Tryz.func229 ?_;refine fG @ae ?_;have F:=@ae;refine gL (ι:=Unit) [7,8,13] [1000] (λz=>[(7,GU 0),(8,GU 20)]) (λz=>[(1000,.Υ (some (a,cap)) 46 4 (az ts))]) (λz=>True) (λz=>0) (()) (trivial) (λz hz=>?_);clear F
 refine fN 6 (ai @q1 @ae) ?_;refine gB ?_;have F:=@ae;refine cQ [1000] [1000] (c) ?_;clear F;rintro r pm ⟨rfl,rfl⟩;simp only[aD,aQ,aM,Taf,Tah];refine fR @ae ?_;refine fG @ae ?_;have F:=@ae;refine gL (ι:=Unit) [6,7,8,9,30,35,54] [1000] (λz=>[(6,GU 20)]) (λz=>[(1000,.Υ (some (a,cap)) 46 4 (az (fM ts)))]) (λz=>True) (λz=>0) (()) (trivial) (λz hz=>?_);clear F
 refine fG (ai @q2 @ae) ?_
 first|exact(have F:=@aJ;zT (R:=nF a cap (fM ts)) [1000] ⟨rfl,rfl⟩)|exact(have F:=@aJ;ee (R:=nF a cap (fM ts)) [1000] ⟨rfl,rfl⟩)
def ZtU(ts:AI)(c8:ts.length<20)(a:BY)(cap:Nat) :
  aT e0 212 [.I (.A (.slice a ts.length cap)),.I (.fn 65 [])] [.Υ (some (a,cap)) 46 4 (az ts)] (nF a cap (fM ts)):=by
 refine dX (ts:=[]) [1000] 3 Tryz.func212 ?_;refine gB ?_;have F:=@ae;refine cQ [1000] [1000] (ZtT ts rfl c8 a cap) ?_;clear F;rintro r pm ⟨rfl,rfl⟩;simp only[aD,aQ,aM,Taf,Tah];refine fR @ae ?_;refine fG @ae ?_
 first|exact(have F:=@aJ;zT (R:=nF a cap (fM ts)) [1000] ⟨rfl,rfl⟩)|exact(have F:=@aJ;ee (R:=nF a cap (fM ts)) [1000] ⟨rfl,rfl⟩)
def m273(h:G3:=by
 rw[show bC o xs=xs by unfold bC;rw[if_neg (by rw[iv];simp)]];have F:=ai @iv @ae;exact GF):G3:=h
def m243(b:G5)(h:Bx G5->G4:=by
 intro B0
 have zX:Cb o d xs.length↔xs.length≠d.Y.length:=⟨λh=>h.elim (λc=>by rw[iQ]at c;cases c.1) (·.2),λh=>.inr ⟨iQ,h⟩⟩;exact B0.o zX):G4:=h ⟨b⟩
def m193(b:G5)(h:Bx G5->G4:=by
 intro B0
 obtain⟨a,pe⟩:∃a,xs[i]?=some a:=⟨_,Taa am⟩;have hT:=ha a (Tac pe);have q1:=lT i xs.length;have gp:=bW (k:=i) om;obtain⟨k,hk⟩:=ZiS hg ho hd rR am;exact B0.o a pe hT q1 gp k hk):G4:=h ⟨b⟩
def m160(b:G5)(h:Bx G5->G4:=by
 intro B0
 have l3:(i+1<=al)=True:=eq_true (by unfold al;omega);have l4:az (xs.take i)++[ax a]=az (xs.take (i+1)):=by rw[List.take_add_one,pe,Option.toList_some,zj,Zhw]
 exact B0.o l3 l4):G4:=h ⟨b⟩
def m151(b:G5)(h:Bx G5->G4:=by
 intro B0
 have em:ax (b7 op S)=[GS op,.A (.string ByteArray.empty),GS 0,.sl (az S)]:=by simp only[b7,ax]
 have zs:ah (b7 op S)=1+au S:=by rw[iB];rfl
 exact B0.o em zs):G4:=h ⟨b⟩
def ZlV{g:Sgn}:∀{xs:AI},(∀a∈xs,TermOk g a)->au xs<=60*xs.length/\aB xs<=20
 |[],_=>⟨Tai _,Taj _⟩
 |a::xs,h=>by
  have i:=ZlV λx hx=>h x (Tal _ hx);have s1:=(h a Tas).size;have s2:=(h a Tas).depth;simp only[au,aB,Tag];omega
section
variable{g:Sgn}{mc:C}
open Classical in
def ZyW (hg:SgnOk g) {o:Opr} {d:Dcl} (iQ:o.Θ=false) (jt:o.Ω=0) (h0:0<=op) (ho:g.ops[op.toNat]?=some o) (hd:o.Z[0]?=some d) (xs:AI) (ha:∀a∈xs,TermOk g a) (hl:xs.length<=1000):aI e0 181 [.I (.ptr (bx g mc)),GT op,.I (.sl (az xs))] [.agg (ax ((lX g o d op xs).getD jS)),.I (.A (.bool (lX g o d op xs).isSome))]:=by
 have hz:=Zpf;refine gI (ts:=[.cell 6 46,.slot 7]) 85070612101775940130758990405381922759 Tryz.func181 ?_;refine m243 λzX=>?_;by_cases wg:xs.length≠d.Y.length
 ·rw[show lX g o d op xs=none by unfold lX;rw[if_pos (zX.2 wg)]];exact fD (aj10 @lu @h0 @ho @cz @iQ @hd @jD (eq_false om:((xs.length:Int)=d.Y.length)=False) @hz @ae)
 have rR:o.Θ=false->xs.length=d.Y.length:=λ_=>om;have AU:xs.take 0=[]:=rfl;have qu:(o.Ω=0)=True:=eq_true jt;refine fG (aj9 @ae @lu @h0 @ho @cz @iQ @hd @jD (eq_true om:((xs.length:Int)=d.Y.length)=True)) ?_;have F:=aj3 @AU @Cr @ae;refine gL (ι:=Nat) [7,9,10,11,48,49,60,62,75] [9] (λi=>[(48,GU i),(9,.Υ 9)]) (λi=>[(9,.Υ none 46 4 (az (xs.take i)))]) (λi=>i<=xs.length/\∀(j:Nat)a,j<i->xs[j]?=some a->kD g o d j a) (λi=>xs.length-i) (0) (⟨Taj _,λj a h=>absurd h om⟩) (λi hi=>?_)
 obtain⟨hi,hall⟩:=hi;by_cases am:i<xs.length
 ·refine m193 λa pe hT q1 gp k hk=>?_;refine cg 8 (aj3 @q1 @pe @ae) @ae (Zhv hg hT.Η.node) ?_;refine fC @ae (ZmZ hg h0 ho hd hk) ?_;by_cases cl:dS g a=((kd g.V k:Nat):Int);rotate_left
  ·have e:lX g o d op xs=none:=by
    unfold lX;rw[if_neg (λh=>wg (zX.1 h)),if_neg λh=>by
     obtain⟨k',dZ,he⟩:=h i a pe;rw[hk]at dZ;injection dZ with dZ
     subst dZ;exact cl he]
   rw[e];exact iF (ai @ae @cl) (ai @hz @ae)
  have fJ:i+1<=xs.length/\∀(j:Nat)a,j<i+1->xs[j]?=some a->kD g o d j a:=⟨am,λj a' hj eU=>by
   by_cases e:j=i
   ·subst e;rw[pe]at eU;injection eU with eU
    subst eU;exact⟨k,hk,cl⟩
   ·exact hall j a' om eU⟩
  have l1:ZaD 4 (az (xs.take i)):=uL _;have cU:=ZoO (mc:=mc) hg h0 ho a;rw[decide_eq_false (λh=>h.1 jt)]at cU;refine m160 λl3 l4=>?_
  refine fR (ai @ae @cl) ?_;refine cq 12 (aj3 @ae @cz @iQ) @ae (cU) @ae ?_;have F:=aj7 @ae @iQ @l1 (by rw[Taw];omega:(xs.take i).length=i) @l3 @l4 @gp;refine gG ?_;exact⟨i+1,fJ,gw,gw,om⟩
 obtain rfl:i=xs.length:=by omega
 have q1:=lF xs.length xs.length;rw[Tap];have hm:lX g o d op xs=if mD o op (bC o xs)then none else some (b7 op (bC o xs)):=by
  unfold lX qI;rw[if_neg (λh=>wg (zX.1 h)),if_pos λj a h=>hall j a (Tad.1 h).1 h,Zg0 iQ jt,if_neg λh=>h.1 jt]
 rw[hm];clear hm hall rR;obtain⟨b2,b3⟩:=ZlV ha;refine fN 19 (aj4 @q1 @cz @qu @ae) ?_;refine pS 9 λa cap=>?_;refine gB ?_;refine fR (ai @cz @ae) ?_;refine gM (ι:=Unit) [] [9] (λu=>[]) (λu=>[(9,.Υ (some (a,cap)) 46 4 (az (bC o xs)))]) (λu=>True) ?_ (λu hu=>Exists.intro _ (ai (Wk.refl _) ?_))
 ·cases iv:o.comm with
  | true =>
   rw[show bC o xs=fM xs by unfold bC;rw[if_pos iv]];have h2:xs.length<20:=by
    obtain⟨k1,k2,h,_⟩:=Opr.two hg ho hd (.inr (.inl iv));rw[h]at wg;simp at wg;omega
   refine kQ 20 (ai @iv @ae) ?_;have F:=@ae;refine cQ [9] [9] (ZtU xs h2 a cap) ?_;rintro r pm ⟨rfl,rfl⟩;refine m7 ?_;refine fR @ae ?_;exact(have F:=ae;⟨(),trivial,gw,gw⟩)
  |false =>
   exact m273
 have hSl:=Zil o xs;have sz1:=Zfd (uF o xs);have dz1:=ZfO (uF o xs);generalize bC o xs=S at hSl sz1 dz1⊢;rw[<- hSl,<- cc S];refine pD 9 [9] [] ?_;refine m151 λem zs=>?_
 have zd:aH (b7 op S)=1+aB S:=by rw[zh];rfl
 have c1:=Zls (t:=b7 op S) (by unfold iD;omega);have c2:=ZkS (t:=b7 op S) (by unfold iD;omega);rw[em]at c1 c2;refine cg 22 @ae (aj3 @cz @iQ @ae) (c1) ?_;by_cases hs:60<ah (b7 op S)
 ·rw[if_pos (show mD o op S from .inr (.inl hs))];exact iF (ai (lT 60 (ah (b7 op S))) @ae) (ai @hz @ae)
 refine fC (ai (lF 60 (ah (b7 op S))) @ae) (c2) ?_;by_cases lH:20<aH (b7 op S)
 ·rw[if_pos (show mD o op S from .inr (.inr lH))];exact iF (ai (lT 20 (aH (b7 op S))) @ae) (ai @hz @ae)
 have z2:=lF 20 (aH (b7 op S));rw[if_neg (show¬mD o op S fromλh=>h.elim (λc=>by rw[iQ]at c;cases c.1) (λh=>h.elim hs lH))];exact iF (ai @z2 @ae) (ai @em @ae)
end
section
variable{g:Sgn}
open Classical in
def Zvw (cZ:kL g) (hg:SgnOk g) {o:Opr} {d:Dcl} (iQ:o.Θ=false) (jt:o.Ω=0) (h0:0<=op) (ho:g.ops[op.toNat]?=some o) (hd:o.Z[0]?=some d) (xs:AI) (ha:∀a∈xs,TermOk g a) (hl:xs.length<=1000):aI e0 223 [.agg (ck g),GT op,.I (.sl (az xs))] [.agg (ax (GG g o d op xs)),.I (.A (.bool (lX g o d op xs).isSome))]:=by
 have hz:=Zpf;have hff:=Zg0 (op:=op) iQ jt xs;have hfb:=ZHT (o:=o) (op:=op) ha hl;have jM:=ZnO (o:=o) (op:=op) ha;rw[hff]at hfb jM;have mv:dI xs:=ZlU.2 λb hb=>(ha b hb).ok hg;have lG:=hg.axs o (Tac ho);obtain⟨d',dG,rV,tK,bS⟩:=hg.first ho;rw[hd]at dG;injection dG with dG
 subst dG;have cK:=ZfB hg.V;rw[gt]at cK;have cUn:=ZoW hg h0 ho;rw[ck]at cUn;have cA:=ZgV hd;rw[nH]at cA;refine m243 λzX=>?_;have hB:lX g o d op xs=if Cb o d xs.length then none else if∀(i:Nat)a,xs[i]?=some a->kD g o d i a then qI o op (cd o op xs)else none:=rfl
 have hM:GG g o d op xs=(lX g o d op xs).getD (if¬Cb o d xs.length/\∀(i:Nat)a,xs[i]?=some a->kD g o d i a then b7 op (bC o (cd o op xs))else jS):=rfl;rw[hff]at hB hM;have qu:(o.Ω=0)=True:=eq_true jt;refine gI (ts:=[.cell 6 46,.slot 7]) 691281634562849416457226259614436229071 Tryz.func223 ?_;refine cq 2 (aj5 @ae @sT @h0 @ho @cz) @ae (cK) @ae ?_
 refine cg 3 @ae (ai @ae @cz) (cA) ?_;by_cases wg:xs.length≠d.Y.length
 ·rw[if_pos (zX.2 wg)]at hB;rw[hB,if_neg λh=>h.1 (zX.2 wg)]at hM;rw[hM,hB];exact iF (aj3 (eq_false om:((xs.length:Int)=d.Y.length)=False) @iQ @ae) (ai @hz @ae)
 have hAn:¬Cb o d xs.length:=λh=>wg (zX.1 h);rw[if_neg hAn]at hB;have rR:o.Θ=false->xs.length=d.Y.length:=λ_=>om;have AU:xs.take 0=[]:=rfl;refine fR (ai (eq_true om:((xs.length:Int)=d.Y.length)=True) @ae) ?_;refine cg 5 @ae @ae (cUn) ?_;refine ec @ae @ae ?_;have F:=aj3 @AU @Cr @ae;refine gL (ι:=Nat) [7,12,13,14,50,55,73,82,92] [12] (λi=>[(13,GU i),(12,.Υ 12)]) (λi=>[(12,.Υ none 46 4 (az (xs.take i)))]) (λi=>i<=xs.length/\∀(j:Nat)a,j<i->xs[j]?=some a->kD g o d j a) (λi=>xs.length-i) (0) (⟨Taj _,λj a h=>absurd h om⟩) (λi hi=>?_)
 obtain⟨hi,hall⟩:=hi;by_cases am:i<xs.length
 ·refine m193 λa pe hT q1 gp k hk=>?_;obtain⟨iY,gU⟩:=bS k (Tac hk);have cl:=CW hg.V iY gU;have eA:eG o i=i:=by unfold eG;rw[iQ];rfl
  rw[eA]at hk;have xw:d.Y[(i:Nat)]?=some k:=hk;have cKa:=Zj9 cZ hg hT.Η.node;rw[ck]at cKa;have fJ:dS g a=((kd g.V k:Nat):Int)->i+1<=xs.length/\∀(j:Nat)a,j<i+1->xs[j]?=some a->kD g o d j a:=λfv=>⟨am,λj a' hj eU=>by
   by_cases e:j=i
   ·subst e;rw[pe]at eU;injection eU with eU
    subst eU;exact⟨k,by rw[eA];exact hk,fv⟩
   ·exact hall j a' om eU⟩
  refine cg 13 (aj4 @q1 @cz @iQ @ae) (ai @pe @ae) (cKa) ?_;by_cases fv:dS g a=((kd g.V k:Nat):Int);rotate_left
  ·have bT:¬∀(i:Nat)a,xs[i]?=some a->kD g o d i a:=λh=>by
    obtain⟨k',dZ,he⟩:=h i a pe;rw[eA,hk]at dZ;injection dZ with dZ
    subst dZ;exact fv he
   rw[if_neg bT]at hB;rw[hB,if_neg λh=>bT h.2]at hM;rw[hM,hB];exact iF (aj9 @ae @cz @hd @jD @xw @iY @cl @iM @fv) (ai @hz @ae)
  have l1:ZaD 4 (az (xs.take i)):=uL _;refine m160 λl3 l4=>?_
  refine fR (aj9 @ae @cz @hd @jD @xw @iY @cl @iM @fv) ?_;have F:=aj10 @ae @qu @pe @cz @iQ @l1 (by rw[Taw];omega:(xs.take i).length=i) @l3 @l4 @gp;refine gG ?_;exact⟨i+1,(fJ fv),gw,gw,om⟩
 obtain rfl:i=xs.length:=by omega
 have q1:=lF xs.length xs.length;rw[Tap];have Dp:∀(i:Nat)a,xs[i]?=some a->kD g o d i a:=λj a h=>hall j a (Tad.1 h).1 h;rw[if_pos Dp]at hB;rw[hB,if_pos ⟨hAn,Dp⟩]at hM;rw[hM,hB,show qI o op xs=if mD o op (bC o xs)then none else some (b7 op (bC o xs)) by unfold qI;rw[if_neg λh=>h.1 jt]];clear hM hB hall Dp rR;have hSl:=Zil o xs;have hSp:=uF o xs;have sz1:=Zfd hSp
 have cSo:=ZtS xs mv hfb;refine fN 19 (ai @q1 @ae) ?_;refine pS 12 λa cap=>?_;refine pD 12 [12] [] ?_;refine eQ 23 (aj3 @qu @cz @ae) (ai @cz @ae) ?_;refine gM (ι:=Unit) [12] [] (λv=>[(12,GY (.sl (az (bC o xs))))]) (λv=>[]) (λv=>True) ?_ (λv hv=>Exists.intro _ (ai (Wk.refl _) ?_))
 ·cases iv:o.comm with
  |true =>
   rw[show bC o xs=fM xs by unfold bC;rw[if_pos iv]];refine cq 24 (ai @iv @ae) @ae (cSo) @ae ?_;have F:=@ae;exact GF
  |false =>
   exact m273
 have hSB:me (bC o xs):=by
  unfold me at hfb⊢;rw[ZyV hSp,hSl];exact hfb
 generalize bC o xs=S at hSl sz1 hSB⊢;refine m151 λem zs=>?_
 have c1:=Zm8 (t:=b7 op S) (by unfold iD;omega);rw[em]at c1;have DB:mD o op S↔¬(ah (b7 op S)<=60/\aH (b7 op S)<=20):=⟨λh q=>h.elim (λc=>by rw[iQ]at c;cases c.1) λh=>om,λh=>.inr om⟩;have fK:(if mD o op S then none else some (b7 op S)).isSome=decide (ah (b7 op S)<=60/\aH (b7 op S)<=20):=by
  by_cases q:ah (b7 op S)<=60/\aH (b7 op S)<=20
  ·rw[if_neg λh=>DB.1 h q,decide_eq_true q];rfl
  ·rw[if_pos (DB.2 q),decide_eq_false q];rfl
 have hgd:(if mD o op S then none else some (b7 op S)).getD (b7 op S)=b7 op S:=by
  split<;>rfl
 rw[fK,hgd,em];refine cq 25 @ae @ae (ZlT S hSB) @ae ?_;refine fN 26 @ae ?_;refine gLp 13 12 13 ?_;refine fC (ai @iQ @ae) (c1) ?_;exact iF @ae @ae
end
def sU(rows:sh)(r:AS)(pm:GQ):Prop:=∃v E,r=[.I (.A v)]/\bQ (.A v)/\pm=[.set E (λw=>bp w (.sl rows) E v)]
def s7:Bk->Bool
 |.set _ _=>true
 |_=>false
def qH:C->Bool
 |.A _=>true
 |_=>false
def kq:D->Bool
 |.I c=>qH c
 |.agg cs=>cs.all qH
 |_=>false
def Znd{w:World}{S S':GO}:∀{cs:we}{vs:GK},cs.all qH->aC w S cs vs->aC w S' cs vs
 |[],[],_,_=>trivial
 |.A x::cs,v::vs,hl,h=>by
  simp only[List.all_cons,Tar]at hl;exact⟨h.1,Znd hl.2 h.2⟩
 |.sl _::_,_::_,hl,_=>by simp[qH]at hl
 |.ptr _::_,_::_,hl,_=>by simp[qH]at hl
 |.fn _ _::_,_::_,hl,_=>by simp[qH]at hl
 |[],_::_,_,h=>h.elim
 |_::_,[],_,h=>h.elim
def ZtW{w:World}{S S':GO}{x:D}{v:Value}(hl:kq x)(h:aX w S x v):aX w S' x v:=by
 cases x with
 |I c=>cases c with
  |A y=>exact h
  |_=>simp[kq,qH]at hl
 |agg cs=>obtain⟨vs,h1,h2⟩:=h;exact⟨vs,h1,Znd hl h2⟩
 |Ζ _=>simp[kq]at hl
def ZlW{w:World}{S S':GO}:∀{r:AS}{vs:GK},r.all kq->dt w S r vs->dt w S' r vs
 |[],[],_,_=>trivial
 |x::r,v::vs,hl,h=>by
  simp only[List.all_cons,Tar]at hl;exact⟨ZtW hl.1 h.1,ZlW hl.2 h.2⟩
 |[],_::_,_,h=>h.elim
 |_::_,[],_,h=>h.elim
def ZtX{w:World}{S S':GO}{L:Lay}:∀{r:AS}{v:Value},r.all kq->aw w S L (aQ r) v->aw w S' L (aQ r) v
 |[],_,_,h=>by obtain⟨vs,h1,h2⟩:=h;exact⟨vs,h1,ZlW rfl h2⟩
 |[x],v,hl,h=>by
  simp only[List.all_cons,List.all_nil,Bool.and_true]at hl;exact ZtW (x:=x) (v:=v) hl h
 |x::y::z,_,hl,h=>by obtain⟨vs,h1,h2⟩:=h;exact⟨vs,h1,ZlW hl h2⟩
def ZJi{e:Env}(h:aI e f args r):aT e f args [] (λr' pm=>r'=r/\pm=[]):=by
 refine⟨h.1,λw S vs hS hE hG gV ha hv=>(h.2 w S vs hS hE hG hv).mono ?_⟩;rintro en w' ⟨v,h1,h2,h3,h4⟩;refine⟨v,r,[],h1,⟨rfl,rfl⟩,⟨h2.os,h2.tape,h2.output,h2.drawn,h2.size,λk hk hn=>h2.block k hk (λh=>hn (.inl h))⟩,h3,λx hx=>by simp at hx,trivial,?_⟩;exact aw.Ε (Tai _) (λ_ _ _=>rfl) (λb hb=>⟨hb.elim .inl (λh=>.inr (.inr h)),λ⟨x,hx,_⟩=>by simp at hx⟩) h4
def ZC5{w:World}{S:GO}{x:Bk}(hs:s7 x)(h:oT w S x){g:Nat}(hg:eE x g):g<w.heap.size/\¬S g:=by
 cases x with
 |set E G=>exact h.1 g hg
 |_=>simp[s7]at hs
def ZtY{w:World}{S S':GO}{x:Bk}(hs:s7 x)(h:oT w S x)(hz:w.heap.size<=w'.heap.size)(hk:∀b,eE x b->w'.heap[b]?=w.heap[b]?)(hS:∀b,eE x b->¬S' b):oT w' S' x:=by
 cases x with
 |set E G=>exact⟨λb hb=>⟨Tbd (h.1 b hb).1 hz,hS b hb⟩,h.2.2 w w' hz hk h.2.1,h.2.2⟩
 |_=>simp[s7]at hs
def Zre:∀{a b:GQ},oO a->oO b->(∀x∈a,∀y∈b,∀g,eE x g->¬eE y g)->oO (a++b)
 |[],_,_,h,_=>h
 |x::a,b,⟨h1,h2⟩,h,hd=>⟨λy hy g hx hg=>(Tbi.1 hy).elim (λq=>h1 y q g hx hg) (λq=>hd x Tas y q g hx hg),Zre h2 h (λz hz=>hd z (Tal _ hz))⟩
def ZC6{e:Env}{lits:AS}(pm:GQ)(h:aT e f data [] R)(pp:pm.all s7)(hR:∀r q,R r q->r.all kq/\q.all s7)
  (hx:∀(w:World)(S:GO)(vs:GK),(∀x∈pm,oT w S x)->dt w S lits vs->dt w (λb=>S b\/dP pm b) data vs):aT e f lits pm (λr q=>∃q1,R r q1/\q=q1++pm):=by
 refine⟨h.1,λw S vs hS hE hG gV ha hv=>?_⟩;have xF:∀x∈pm,s7 x:=λx hx=>List.all_eq_true.1 pp x hx;have am:∀g,dP pm g->g<w.heap.size/\¬S g/\¬e.E g:=λg⟨x,D9,hg⟩=>⟨(ZC5 (xF x D9) (gV x D9).1 hg).1,(ZC5 (xF x D9) (gV x D9).1 hg).2,(gV x D9).2 g hg⟩;refine(h.2 w (λb=>S b\/dP pm b) vs (λb hb=>hb.elim (hS b) (λq=>⟨(am b q).1,(am b q).2.2⟩)) hE hG (λx hx=>by simp at hx) trivial (hx w S vs (λx hx=>(gV x hx).1) hv)).mono ?_
 rintro en w' ⟨v,r,q1,h1,h2,h3,h4,h5,h6,h7⟩;obtain⟨l1,l2⟩:=hR r q1 h2;have l2':∀x∈q1,s7 x:=λx hx=>List.all_eq_true.1 l2 x hx;have xA:∀x∈q1,∀g,eE x g->w.heap.size<=g:=λx hx g hg=>((h5 x hx).2 g hg).elim (λ⟨y,hy,_⟩=>by simp at hy) id;have Ap:∀b,¬dP [] b:=λb⟨y,hy,_⟩=>by simp at hy
 refine⟨v,r,q1++pm,h1,⟨q1,h2,rfl⟩,⟨h3.os,h3.tape,h3.output,h3.drawn,h3.size,λk hk hn=>h3.block k hk (λq=>q.elim (λq=>hn (.inl q)) (λq=>Ap k q))⟩,h4,λx D9=>?_,Zre h6 ha (λx hx y hy g hg sG=>?_),ZtX l1 h7⟩
 ·rcases Tbi.1 D9 with hq|hq
  ·refine⟨ZtY (l2' x hq) (h5 x hq).1 (Tai _) (λ_ _=>rfl) (λb hb hn=>hn.2 ⟨x,Tbi.2 (.inl hq),hb⟩),λg hg=>.inr (xA x hq g hg)⟩
  ·refine⟨ZtY (xF x hq) (gV x hq).1 h3.size (λb hb=>h3.block b (am b ⟨x,hq,hb⟩).1 (λq=>q.elim (am b ⟨x,hq,hb⟩).2.2 (Ap b))) (λb hb hn=>hn.2 ⟨x,Tbi.2 (.inr hq),hb⟩),λg hg=>.inl ⟨x,hq,hg⟩⟩
 ·have:=xA x hx g hg;have:=(am g ⟨y,hy,sG⟩).1;omega
def Ziu{w:World}{S:GO}:∀{us vs:GK},aC w S (aY us) vs->vs=us
 |[],[],_=>rfl
 |u::us,v::vs,h=>by
  obtain⟨h1,h2⟩:=h;have h1:v=u:=h1;rw[h1,Ziu h2]
 |[],_::_,h=>h.elim
 |_::_,[],h=>h.elim
def Kept.noPin{D:Prop}{E:GO}{B:Nat}{w:World}(h:Kept D (λb=>E b\/dP [] b) B w w'):Kept D E B w w' :=
 ⟨h.os,h.tape,h.output,h.drawn,h.size,λk hk hn=>h.block k hk λh=>h.elim hn λ⟨x,hx,_⟩=>by cases hx⟩
def ZtZ{e:Env}(h:aT e f args [] (kw row)):aI e f args [.agg row]:=by
 refine⟨h.1,λw S vs hS hE hG hv=>(h.2 w S vs hS hE hG (λx hx=>by cases hx) trivial hv).mono ?_⟩;rintro en w' ⟨v,r,bj,h1,⟨us,E,rfl,hl,aq,rfl⟩,h3,h4,h5,h6,h7⟩;obtain⟨⟨q1,q2,q3⟩,p2⟩:=h5 _ Tas;obtain⟨wy,jt,hr⟩:=h7;have e1:=Ziu hr;subst e1;refine⟨v,h1,h3.noPin,h4,wy,jt,aV.rep _ _ _ _ (λg hg=>.inr ⟨?_,(q1 g hg).1⟩) q2⟩;exact(p2 g hg).elim (λ⟨x,hx,_⟩=>by cases hx) id
def ZC7(x:Tm×Bool)(r:AS)(pm:GQ):Prop:=∃us E,r=[.agg (aY us),GW x.2]/\us.length=4/\(aY us).all bQ/\pm=[.set E (λw=>aV w (ax x.1) E us)]
def ZC7.mk{x:Tm×Bool}{u0 u1 u2 u3:Value}{E:GO}(aq:(aY [u0,u1,u2,u3]).all bQ)(hb:b=x.2):ZC7 x [.agg [.A u0,.A u1,.A u2,.A u3],GW b] [.set E (λw=>aV w (ax x.1) E [u0,u1,u2,u3])]:=⟨[u0,u1,u2,u3],E,by rw[hb];rfl,rfl,aq,rfl⟩
def wo:AI->AI->AI×Bool
 |l,[]=>(l,true)
 |[],_::_=>([],false)
 |a::l,o::os=>if aU a o=0 then wo l os else(a::(wo l (o::os)).1,(wo l (o::os)).2)
def ZIN(l:AI):wo l []=(l,true):=by cases l<;>rfl
def AscE(l:AI):Prop:=l.Pairwise λa b=>aU a b<=0
where yg:∀{l os:AI},(wo l os).2->∀s∈os,s∈l
 |l,[],_,s,hs=>by cases hs
 |[],o::os,h,s,hs=>by simp[wo]at h
 | a::l,o::os,h,s,hs=>by
  by_cases hc:aU a o=0
  ·simp only[wo,if_pos hc]at h;have e:=A0 hc;subst e;rcases Tbh.1 hs with rfl|hs
   ·exact Tas
   ·exact Tal _ (yg h s hs)
  ·simp only[wo,if_neg hc]at h;exact Tal _ (yg h s hs)
def m162(b:G5)(h:Bx G5->G4:=by
 intro B0
 rw[Zpi hj];have q3:IntKind.i64.wrap ((j:Int).tdiv 10)=((j / 10:Nat):Int):=by rw[show(j:Int).tdiv 10=((j / 10:Nat):Int)from by rw[Int.ofNat_tdiv];rfl];exact IntWalk.i64_in _ om
 exact B0.o q3):G4:=h ⟨b⟩
def m72(h:G3:=by
 refine fR (ai @q2 (eq_true (by rw[Zkp];omega):((dig j).size+qp.size<=9223372036854775807)=True)) ?_;have hd:=Zkp j;have F:=ai @q2 @q3;refine gG ?_;exact⟨(j / 10,dig j++qp),⟨rfl,by rw[ByteArray.size_append,hd];omega⟩,gw,gw,om⟩):G3:=h
def dig(n:Nat):ByteArray:=ZjD (IntKind.u8.wrap (IntKind.i64.wrap (48+(n:Int).tmod 10)))
def mh(n:Nat)(qp:ByteArray):ByteArray:=if h:n=0 then qp else mh (n / 10) (dig n++qp)
termination_by n
decreasing_by omega
def fW(k:Int):ByteArray:=if k<=0 then⟨#[109,48]⟩else⟨#[109]⟩++mh k.toNat ByteArray.empty
def Zph(qp:ByteArray):mh 0 qp=qp:=by rw[mh];simp
def Zpi{n:Nat}(h:n≠0)(qp:ByteArray):mh n qp=mh (n / 10) (dig n++qp):=by rw[mh];simp[h]
def Zkp(n:Nat):(dig n).size=1:=rfl
def Co(k:Int)(hk:k<=1000000000)(iY:0<=k):aI e0 85 [GT k] [.I (.A (.string (fW k)))]:=by
 by_cases h0:k<=0
 ·rw[(by unfold fW;rw[if_pos h0]:fW k=⟨#[109,48]⟩)];refine gI (ts:=[.slot 2]) 173 Tryz.func85 ?_;exact fD (eq_true h0:(k<=0)=True)
 ·have q1:(k<=0)=False:=eq_false h0;rw[(by unfold fW;rw[if_neg h0]:fW k=⟨#[109]⟩++mh k.toNat ByteArray.empty)];obtain⟨n,rfl⟩:∃n:Nat,k=n:=⟨k.toNat,om⟩;rw[Tbz];refine gI (ts:=[.slot 2]) 173 Tryz.func85 ?_;refine fG @q1 ?_;have F:=@q1;refine gL (ι:=Nat×ByteArray) [0,3,7] [] (λx=>[(0,GU (x.1:Int)),(3,GY (.A (.string x.2)))]) (λx=>[]) (λx=>mh n ByteArray.empty=mh x.1 x.2/\x.2.size+x.1<=n) (λx=>x.1) ((n,⟨#[]⟩)) (⟨rfl,by show 0+n<=n;omega⟩) (λx hx=>?_)
  obtain⟨j,qp⟩:=x;obtain⟨h1,h2⟩:=hx;simp only at h1 h2;rw[h1];clear h1;by_cases hj:j=0
  ·subst hj;rw[Zph];have q5:((ByteArray.mk #[109]).size+qp.size<=9223372036854775807)=True:=eq_true (by show 1+qp.size<=_;omega);exact fD (ai (eq_false om:(((0:Nat):Int)>0)=False) @q5)
  ·have q2:((j:Int)>0)=True:=eq_true om;refine m162 λq3=>?_
   refine dC 5 @q2 5 @q2 ?_;refine gY ?_;change an _ _ _ _ ⟨(13,GY (.A (.string (dig j))))::_,_⟩ _;exact m72
def m240(b:G5)(h:Bx G5->G4:=by
 intro B0
 obtain⟨h1,h2,h3⟩:(∀b,E b->b<w.heap.size/\¬S b)/\bH w (r::rest) E (us::oh)/\_:=h (.set E (λw=>bH w (r::rest) E (us::oh))) (by simp);exact B0.o h1 h2 h3):G4:=h ⟨b⟩
def mkV(k:Int):Value->Value
 |.int i _=>.int i k
 |.string _=>.string (fW k)
 |.bool _=>.bool (k % 3==0)
 |v=>v
mutual
def GH:Int->C->C
 |k,.A v=>.A (mkV k v)
 |k,.sl rows=>.sl (bY k rows)
 |_,.ptr cs=>.ptr cs
 |_,.fn f cs=>.fn f cs
def uJ:Int->we->we
 |_,[]=>[]
 |k,c::cs=>GH k c::uJ (k+kO c) cs
def bY:Int->sh->sh
 |_,[]=>[]
 |k,r::rs=>uJ k r::bY (k+qh r) rs
def kO:C->Nat
 |.A _=>1
 |.sl rows=>ab rows
 |.ptr _=>0
 |.fn _ _=>0
def qh:we->Nat
 |[]=>0
 |c::cs=>kO c+qh cs
def ab:sh->Nat
 |[]=>0
 |r::rs=>qh r+ab rs
end
def Zrf:∀(k:Int)(cs:we),(uJ k cs).length=cs.length
 |_,[]=>by simp[uJ]
 |k,c::cs=>by simp[uJ,Zrf _ cs]
def ZhB:∀(k:Int)(rs:sh),(bY k rs).length=rs.length
 |_,[]=>by simp[bY]
 |k,c::cs=>by simp[bY,ZhB _ cs]
def Zdq:∀(rs:sh)(r:we),ab (rs++[r])=ab rs+qh r
 |[],r=>by simp[ab]
 |q::rs,r=>by simp[ab,Zdq rs r];omega
def Zdf:∀(rs:sh)(r:we)(k:Int),bY k (rs++[r])=bY k rs++[uJ (k+ab rs) r]
 |[],r,k=>by simp[bY,ab]
 |q::rs,r,k=>by simp[bY,ab,Zdf rs r,Int.add_assoc]
def EW{α:Type}{l:List α}{i:Nat}{x:α}(h:l[i]?=some x):l.take (i+1)=l.take i++[x]:=by simp[List.take_add_one,h]
def Zcr{α:Type}{l:List α}{i:Nat}{x:α}(h:l[i]?=some x):l.drop i=x::l.drop (i+1):=by
 exact m201
def Zcm:∀(rs:sh)(i:Nat),ab (rs.take i)<=ab rs
 |[],i=>by simp[ab]
 |r::rs,0=>by simp[ab]
 |r::rs,i+1=>by have:=Zcm rs i;simp only[Tbc,ab];omega
def ZHV{x y:Bk}(h:∀g,eE x g->¬eE y g):oO [x,y]:=⟨λz hz g hg=>by simp at hz;subst hz;exact h g hg,zy _⟩
def Zha{E:GO}{v:Value}:CZ (ι:=BY×Nat) [.set E (λw=>bp w (.sl []) E v)] (λi=>v=.slice i.1 0 i.2) (λ_=>[.set E (λw=>bp w (.sl []) E v)]):=λw S h ha=>by
 obtain⟨h1,h2,h3⟩:_/\bp w (.sl []) E v/\_:=h (.set E (λw=>bp w (.sl []) E v)) (by simp);simp only[bp]at h2;obtain⟨A,n,cap,hv,hn,_⟩:=h2;simp at hn;subst hn;exact⟨(A,cap),hv,h,ha,λ_ h=>h⟩
def Zf8{E:GO}{v:Value}(aP:rows≠[])(c9:rowsLen sz rows):CZ (ι:=BY×Nat×Nat×AT×(GO)) [.set E (λw=>bp w (.sl rows) E v)]
  (λi=>v=.slice i.1 i.2.2.2.1.length i.2.1/\i.2.2.2.1.length=rows.length/\rows.length<=maxLen) (λi=>[.Υ (some (i.1,i.2.1)) i.2.2.1 sz (i.2.2.2.1.map aY),.set i.2.2.2.2 (λw=>bH w rows i.2.2.2.2 i.2.2.2.1)]):=λw S h ha=>by
 obtain⟨h1,h2,h3⟩:(∀b,E b->b<w.heap.size/\¬S b)/\bp w (.sl rows) E v/\_:=h (.set E (λw=>bp w (.sl rows) E v)) (by simp);obtain⟨A,n,cap,rfl,fI,fh,hn3⟩:=(bp.rep _ _ _ h2).Η;obtain⟨uss,ety,E',rfl,k1,k2,k3,k4⟩:=bp.open (T:=S) (λb hb=>(h1 b hb).2) aP c9 h2;refine⟨(A,cap,ety,uss,E'),⟨rfl,k2.len,om⟩,λx hx=>?_,ZHV λg hg sG=>?_,λg⟨x,hx,hg⟩=>⟨_,Tas,?_⟩⟩
 ·simp only[Tbh,List.not_mem_nil,or_false]at hx;rcases hx with rfl|rfl
  ·show eO w S ety sz (uss.map aY) (.slice A (uss.map aY).length cap);rw[Tay];exact k1
  ·exact⟨λb hb=>h1 b (k3 b hb).1,k2,bH.Κ _ _ _⟩
 ·simp only[eE,Tay]at hg sG;exact(k3 g sG).2 hg
 ·simp only[Tbh,List.not_mem_nil,or_false]at hx;rcases hx with rfl|rfl
  ·simp only[eE,Tay]at hg;exact k4 g hg
  ·exact(k3 g hg).1
def lx:we->GK->(Nat->Nat->Prop)->GQ
 |.sl rows::cs,u::us,Es=>.set (Es 0) (λw=>bp w (.sl rows) (Es 0) u)::lx cs us (λk=>Es (k+1))
 |.A _::cs,_::us,Es=>lx cs us Es
 |_,_,_=>[]
def wS:we->GK->Prop
 |[],[]=>True
 |.A x::cs,u::us=>u=x/\wS cs us
 |.sl _::cs,_::us=>wS cs us
 |_,_=>False
def vT:C->Bool
 |.A _=>true
 |.sl _=>true
 |_=>false
def Ziv {w:World} {S:GO}:∀{cs:we}{us:GK}{E:GO},cs.all vT->aV w cs E us->(∀b,E b->b<w.heap.size/\¬S b)->∃Es,wS cs us/\(∀x∈lx cs us Es,oT w S x)/\oO (lx cs us Es)/\∀g,dP (lx cs us Es) g->E g
 |[],[],E,_,_,_=>⟨λ_ _=>False,trivial,by simp[lx],trivial,λg⟨x,hx,_⟩=>by simp[lx]at hx⟩
 | c::cs,u::us,E,hp,h,hE=>by
  simp only[aV]at h;obtain⟨S1,S2,i1,i2,hd,h1,h2⟩:=h;simp only[List.all_cons,Tar]at hp;obtain⟨Es,k1,k2,k3,k4⟩:=Ziv hp.2 h2 (λb hb=>hE b (i2 b hb))
  cases c with
  |A x =>
   simp only[bp]at h1;exact⟨Es,⟨h1,k1⟩,k2,k3,λg hg=>i2 g (k4 g hg)⟩
  | sl rows =>
   refine⟨λk=>match k with|0=>S1|k+1=>Es k,k1,λx hx=>?_,⟨λy hy g hg sG=>hd g hg (k4 g ⟨y,hy,sG⟩),k3⟩,λg⟨x,hx,hg⟩=>?_⟩
   ·simp only[lx,Tbh]at hx;rcases hx with rfl|hx
    ·exact⟨λb hb=>hE b (i1 b hb),h1,bp.Κ _ _ _⟩
    ·exact k2 x hx
   ·simp only[lx,Tbh]at hx;rcases hx with rfl|hx
    ·exact i1 g hg
    ·exact i2 g (k4 g ⟨x,hx,hg⟩)
  |ptr _=>simp[vT]at hp
  |fn _ _=>simp[vT]at hp
 |[],_::_,_,_,h,_=>by simp[aV]at h
 |_::_,[],_,_,h,_=>by simp[aV]at h
def aV.of_cells{w:World}{S:GO}:∀{cs:we}{us:GK}{Es:Nat->Nat->Prop},cs.all vT->wS cs us->(∀x∈lx cs us Es,oT w S x)->oO (lx cs us Es)->aV w cs (dP (lx cs us Es)) us
 |[],[],Es,_,_,_,_=>aV.nil
 |.A x::cs,u::us,Es,hp,hl,h,ha=>by
  obtain⟨rfl,hl⟩:=hl;simp only[List.all_cons,Tar]at hp;simp only[aV];exact⟨λ_=>False,_,λ_ h=>h.elim,λ_ h=>h,λ_ h _=>h,by simp[bp],aV.of_cells (Es:=Es) hp.2 hl h ha⟩
 |.sl rows::cs,u::us,Es,hp,hl,h,ha=>by
  simp only[List.all_cons,Tar]at hp;simp only[aV];obtain⟨a1,a2⟩:=ha;have hE:=h (.set (Es 0) (λw=>bp w (.sl rows) (Es 0) u)) Tas;refine⟨Es 0,dP (lx cs us (λk=>Es (k+1))),λb hb=>⟨_,Tas,hb⟩,λb⟨x,hx,hb⟩=>⟨x,Tal _ hx,hb⟩,λb hb⟨x,hx,iG⟩=>a1 x hx b hb iG,hE.2.1,aV.of_cells hp.2 hl (λx hx=>h x (Tal _ hx)) a2⟩
 |.ptr _::_,_::_,_,hp,_,_,_=>by simp[vT]at hp
 |.fn _ _::_,_::_,_,hp,_,_,_=>by simp[vT]at hp
 |[],_::_,_,_,hl,_,_=>by simp[wS]at hl
 |.A _::_,[],_,_,hl,_,_=>by simp[wS]at hl
 |.sl _::_,[],_,_,hl,_,_=>by simp[wS]at hl
def Zgr:∀{cs:we}{us:GK}{Es:Nat->Nat->Prop}(y:Bk),y∈lx cs us Es->∃E G,y=.set E G
 |.sl rows::cs,u::us,Es,y,h=>by
  rcases Tbh.1 h with rfl|h
  ·exact⟨_,_,rfl⟩
  ·exact Zgr y h
 |.A _::cs,_::us,Es,y,h=>Zgr (cs:=cs) (us:=us) y h
 |.ptr _::_,_,_,y,h=>by simp[lx]at h
 |.fn _ _::_,_,_,y,h=>by simp[lx]at h
 |[],_,_,y,h=>by simp[lx]at h
 |.A _::_,[],_,y,h=>by simp[lx]at h
 |.sl _::_,[],_,y,h=>by simp[lx]at h
def Zf9{E:GO}{r:we}{rest:sh}{oh:AT}(hp:r.all vT):CZ (ι:=Unit) [.set E (λw=>bH w (r::rest) E (us::oh))] (λ_=>wS r us) (λ_=>[.set E (λw=>bH w (r::rest) E (us::oh))]):=λw S h ha=>by
 refine m240 λh1 h2 h3=>?_;obtain⟨S1,S2,i1,i2,hd,k1,k2⟩:=h2;obtain⟨Es,hl,_⟩:=Ziv (S:=S) hp k1 (λb hb=>h1 b (i1 b hb));exact⟨(),hl,h,ha,λ_ h=>h⟩
def Zhb{E:GO}{r:we}{rest:sh}{oh:AT}(hp:r.all vT):CZ (ι:=(GO)×(Nat->Nat->Prop)) [.set E (λw=>bH w (r::rest) E (us::oh))] (λ_=>True) (λi=>.set i.1 (λw=>bH w rest i.1 oh)::lx r us i.2):=λw S h ha=>by
 refine m240 λh1 h2 h3=>?_;obtain⟨S1,S2,i1,i2,hd,k1,k2⟩:=h2;obtain⟨Es,hl,q1,q2,q3⟩:=Ziv (S:=S) hp k1 (λb hb=>h1 b (i1 b hb));refine⟨(S2,Es),trivial,λx hx=>?_,⟨λy hy g hg sG=>hd g (q3 g ⟨y,hy,sG⟩) hg,q2⟩,λg⟨x,hx,hg⟩=>⟨_,Tas,?_⟩⟩
 ·rcases Tbh.1 hx with rfl|hx
  ·exact⟨λb hb=>h1 b (i2 b hb),k2,bH.Κ _ _ _⟩
  ·exact q1 x hx
 ·rcases Tbh.1 hx with rfl|hx
  ·exact i2 g hg
  ·exact i1 g (q3 g ⟨x,hx,hg⟩)
def Bl{E:GO}{done:sh}{ud:AT}{cs:we}{Es:Nat->Nat->Prop}(hp:cs.all vT)(hl:wS cs us):jn (.set E (λw=>bH w done E ud)::lx cs us Es) [.set (λb=>E b\/dP (lx cs us Es) b) (λw=>bH w (done++[cs]) (λb=>E b\/dP (lx cs us Es) b) (ud++[us]))]:=λw S h ha=>by
 have hE:=h (.set E (λw=>bH w done E ud)) Tas;have hv:=aV.of_cells (w:=w) (S:=S) hp hl (λx hx=>h x (Tal _ hx)) ha.2;refine⟨λx hx=>?_,zy _,λg⟨x,hx,hg⟩=>?_⟩
 ·refine AM λhx=>?_;subst hx;refine⟨λb hb=>?_,bH.snoc hE.2.1 hv (λ_ h=>.inl h) (λ_ h=>.inr h) (λb hb⟨y,hy,hg⟩=>ha.1 y hy b hb hg),bH.Κ _ _ _⟩;rcases hb with hb|⟨y,hy,hg⟩
  ·exact hE.1 b hb
  ·obtain⟨E',G',rfl⟩:=Zgr y hy;exact(h _ (Tal _ hy)).1 b hg
 ·refine AM λhx=>?_;subst hx;rcases hg with hg|⟨y,hy,hg⟩
  ·exact⟨_,Tas,hg⟩
  ·exact⟨y,Tal _ hy,hg⟩
def m244(h:G3:=by
 exact aX.Ε (Tai _) (λ_ _ _=>rfl) (λb hb=>.inl hb) hv):G3:=h
def m167(h:G3:=by
 obtain⟨us,E,rfl,_,_,rfl⟩:=h;exact⟨by simp only[List.all_cons,List.all_nil,kq,Zne];rfl,rfl⟩):G3:=h
def C3(pm:GQ)(l d:D):Prop:=l=d\/(∃us row E,l=.agg (aY us)/\d=.agg row/\.set E (λw=>aV w row E us)∈pm)\/(∃v rows E,l=.I (.A v)/\d=.I (.sl rows)/\.set E (λw=>bp w (.sl rows) E v)∈pm)
def FJ(pm:GQ):AS->AS->Prop
 |[],[]=>True
 |l::ls,d::ds=>C3 pm l d/\FJ pm ls ds
 |_,_=>False
def C3.same{d:D}:C3 pm d d:=.inl rfl
def C3.tree{E:GO}(h:.set E (λw=>aV w row E us)∈pm):C3 pm (.agg (aY us)) (.agg row):=.inr (.inl ⟨us,row,E,rfl,rfl,h⟩)
def C3.treeS{v:Value}{E:GO}(h:.set E (λw=>bp w (.sl rows) E v)∈pm):C3 pm (.I (.A v)) (.I (.sl rows)):=.inr (.inr ⟨v,rows,E,rfl,rfl,h⟩)
def FJ.rel{pm:GQ}:∀{lits data:AS},FJ pm lits data->∀(w:World)(S:GO)(vs:GK),(∀x∈pm,oT w S x)->dt w S lits vs->dt w (λb=>S b\/dP pm b) data vs
 |[],[],_,w,S,[],_,_=>trivial
 |[],[],_,w,S,_::_,_,h=>h.elim
 |l::ls,d::ds,hr,w,S,[],_,h=>h.elim
 |l::ls,d::ds,⟨h1,h2⟩,w,S,v::vs,hp,⟨hv,d8⟩=>by
  refine⟨?_,FJ.rel h2 w S vs hp d8⟩;rcases h1 with rfl|⟨us,row,E,rfl,rfl,hm⟩|⟨u,rows,E,rfl,rfl,hm⟩
  ·exact m244
  ·obtain⟨vs',rfl,hr⟩:=hv;rw[Zjj hr];obtain⟨_,h3,_⟩:=hp _ hm;exact⟨us,rfl,aV.rep row E _ us (λb hb=>.inr ⟨_,hm,hb⟩) h3⟩
  ·have hv:v=u:=hv;subst hv;obtain⟨_,h3,_⟩:=hp _ hm;exact(bp.rep _ E v h3).mono λb hb=>.inr ⟨_,hm,hb⟩
 |[],_::_,h,_,_,_,_,_=>h.elim
 |_::_,[],h,_,_,_,_,_=>h.elim
def ZxC{e:Env}{lits:AS}(pm:GQ)(h:aT e f data [] R)(hr:FJ pm lits data)(pp:pm.all s7)(hR:∀r q,R r q->r.all kq/\q.all s7):aT e f lits pm (λr q=>∃q1,R r q1/\q=q1++pm) :=
 ZC6 pm h pp hR hr.rel
def Ziw{e:Env}{lits:AS}(pm:GQ)(h:aI e f data r)(hr:FJ pm lits data)(pp:pm.all s7)(hl:r.all kq):aT e f lits pm (λr' q=>r'=r/\q=pm):=by
 have hc:=ZxC pm (ZJi h) hr pp (λr' q⟨h1,h2⟩=>by rw[h1,h2];exact⟨hl,rfl⟩);refine⟨hc.1,λw S vs h1 h2 h3 h4 h5 h6=>(hc.2 w S vs h1 h2 h3 h4 h5 h6).mono ?_⟩;rintro en w' ⟨v,r',q,k1,⟨q1,⟨rfl,rfl⟩,rfl⟩,k3⟩;exact⟨v,r',_,k1,⟨rfl,rfl⟩,k3⟩
def Zne(us:GK):(aY us).all qH:=by
 induction us with
 |nil=>rfl
 |cons u us ih=>simp only[aY,Tbv,List.all_cons,qH,Bool.true_and];exact ih
def kw.lits(h:kw row r q):r.all kq/\q.all s7:=by
 exact m167
def sU.lits(h:sU rows r q):r.all kq/\q.all s7:=by
 obtain⟨v,E,rfl,_,rfl⟩:=h;exact⟨rfl,rfl⟩
def ZC8(row:we)(b:Bool)(r:AS)(pm:GQ):Prop:=∃us E,r=[.agg (aY us),GW b]/\us.length=row.length/\(aY us).all bQ/\pm=[.set E (λw=>aV w row E us)]
def ZC8.lits(h:ZC8 row b r q):r.all kq/\q.all s7:=by
 exact m167
def su(rows:sh)(b:Bool)(r:AS)(pm:GQ):Prop:=∃v E,r=[.I (.A v),GW b]/\bQ (.A v)/\pm=[.set E (λw=>bp w (.sl rows) E v)]
def su.lits(h:su rows b r q):r.all kq/\q.all s7:=by
 obtain⟨v,E,rfl,_,rfl⟩:=h;exact⟨rfl,rfl⟩
where yh:∀(l os:AI),((wo l os).1).Sublist l
 |l,[]=>by rw[ZIN];exact List.Sublist.refl _
 |[],o::os=>by simp[wo]
 |a::l,o::os=>by
  simp only[wo];split
  ·exact(yh l os).cons _
  ·exact(yh l (o::os)).cons_cons _
def ZxD:∀{l:AI},(∀(j:Nat)p a,l[j]?=some p->l[j+1]?=some a->aU p a<=0)->AscE l
 |[],_=>List.Pairwise.nil
 |[a],_=>List.pairwise_singleton _ _
 |a::b::l,h=>by
  have ih:=ZxD (l:=b::l) λj p x hp hx=>h (j+1) p x (by simpa using hp) (by simpa using hx);have mO:=h 0 a b (by simp) (by simp);refine List.Pairwise.cons (λx hx=>?_) ih;rcases Tbh.1 hx with rfl|hx
  ·exact mO
  ·exact EX mO ((List.pairwise_cons.1 ih).1 x hx)
def ZE7{p:Tm}(hF:e6 g p){x:Opr}{d:Dcl}(hA:AppOk g p x d)(hc:x.comm):AscE p.Y:=by
 have h3:=(mH.1 hF).2.2;have h0:=hA.lo;have hR:=h3.resolve_left om;exact ZxD λj q a hq ha=>(hR x d hA.at' hA.fst (j+1) a ha).ord hc j q rfl hq
def jC(o:Opr)(L M:AI):Prop:=L.Perm M/\(o.comm=false->L=M)
section
variable{o:Opr}{op:Int}{L M N L' M':AI}
def jC.refl(L:AI):jC o L L:=⟨.refl _,λ_=>rfl⟩
def jC.symm(h:jC o L M):jC o M L:=⟨h.1.symm,λc=>(h.2 c).symm⟩
def jC.trans(h:jC o L M)(h':jC o M N):jC o L N:=⟨h.1.trans h'.1,λc=>(h.2 c).trans (h'.2 c)⟩
def jC.app(h:jC o L M)(h':jC o L' M'):jC o (L++L') (M++M'):=⟨h.1.append h'.1,λc=>by rw[h.2 c,h'.2 c]⟩
def jC.map(f:Tm->Tm)(h:jC o L M):jC o (L.map f) (M.map f):=⟨h.1.map f,λc=>by rw[h.2 c]⟩
def jC.fl(h:jC o L M):jC o (cd o op L) (cd o op M):=⟨h.1.flatMap_right _,λc=>by rw[h.2 c]⟩
def jC.srt(h:jC o L M):bC o L=bC o M:=by
 unfold bC
 cases hc:o.comm with
 |true=>rw[if_pos rfl,if_pos rfl];exact Zto h.1
 |false=>rw[if_neg (by decide),if_neg (by decide)];exact h.2 hc
def jC.srtL(L:AI):jC o (bC o L) L:=⟨uF o L,λhc=>by unfold bC;rw[hc];rfl⟩
def Zrg(h:jC o L M):qI o op L=qI o op M:=by
 have hl:=h.1.length_eq;unfold qI;by_cases hu:o.Ω≠0/\L.length<2
 ·rw[if_pos hu,if_pos ⟨hu.1,om⟩];have e:L=M:=by
   match L,M,hl,h.1,hu.2 with
   |[],[],_,_,_=>rfl
   |[a],[b],_,hp,_=>rw[List.perm_singleton.1 hp]
  rw[e]
 ·have D5:¬(o.Ω≠0/\M.length<2):=λq=>hu ⟨q.1,om⟩;rw[if_neg hu,if_neg D5,h.srt]
end
section
variable{g:Sgn}{o:Opr}{d:Dcl}{op:Int}{b:GP}
def Zrh (ht:TermOk g t) (hA:AppOk g t o d):cd o t.op t.Y=t.Y/\b7 t.op (bC o t.Y)=t:=by
 have h0:=hA.lo;have hR:=(mH.1 ht.Η).2.2.resolve_left om;refine⟨?_,?_⟩
 ·have key:∀us:AI,(∀b∈us,(o.Θ->b.op≠t.op)/\(o.Ω≠0->b.op≠o.Ω-1))->cd o t.op us=us:=λus=>by
   induction us with
   |nil=>intro _;rfl
   |cons b us ih =>
    intro h;have h1:=h b Tas;have:=ih λb hb=>h b (Tal _ hb);unfold cd at this⊢;rw[List.flatMap_cons,this,fo,if_neg λe=>h1.1 e.1 e.2,if_neg λe=>h1.2 e.1 e.2];rfl
  refine key _ λa ha=>?_;obtain⟨i,hi⟩:=Tbl ha;have:=hR o d hA.at' hA.fst i a hi;exact⟨this.nest,this.Ω⟩
 ·have hs:bC o t.Y=t.Y:=by
   unfold bC
   cases hc:o.comm with
   |true=>rw[if_pos rfl];exact Zm5 (ZE7 ht.Η hA hc)
   |false=>rfl
  rw[hs];obtain⟨op,nm,so,args⟩:=t;have h1:=hA.nm;have h2:=hA.so;simp only[Tm.name,Tm.sort]at h1 h2;subst h1 h2;rfl
def Zkr(hg:SgnOk g)(ht:TermOk g t)(hA:AppOk g t o d):ww g t.op t.Y=some t:=by
 have h0:=hA.lo;obtain⟨f1,f2⟩:=Zrh ht hA;have hR:=(mH.1 ht.Η).2.2.resolve_left om;have htwo:=(hg.axs o (Tac hA.at')).two;rw[vS hA.at' hA.fst,lX,if_neg,if_pos,f1,qI,if_neg,f2,if_neg]
 ·rintro(⟨h1,h2⟩|h1|h1)
  ·have:=(hA.asc h1).2;rw[Zil]at h2;omega
  ·rw[f2]at h1;have:=ht.size;omega
  ·rw[f2]at h1;have:=ht.depth;omega
 ·rintro⟨hu,hl⟩;have h2:=(htwo (.inr (.inr hu)) d hA.fst).1
  cases ha:o.Θ with
  |true=>have:=(hA.asc ha).1;omega
  |false=>have:=hA.nas ha;omega
 ·intro i a hi;have e7:=(Tad.1 hi).1;have am:eG o i<d.Y.length:=by
   unfold eG
   cases ha:o.Θ with
   |true=>have:=(htwo (.inl ha) d hA.fst).1;simp;omega
   |false=>have:=hA.nas ha;simp;omega
  exact⟨_,Taa am,((hR o d hA.at' hA.fst i a hi).kind) _ (Taa am)⟩
 ·rintro(⟨ha,h⟩|⟨ha,h⟩)
  ·have:=(hA.asc ha).1;omega
  ·exact h (hA.nas ha)
def Zi0(hg:SgnOk g){i:Nat}(ho:g.ops[i]?=some o)(hd:o.Z[0]?=some d)(hu:o.Ω≠0)(ht:TermOk g t)(bE:t.op=o.Ω-1):t=j4 o:=by
 refine xR λlG d4 lm=>?_;obtain⟨k1,k2,hk,_⟩:=Opr.two hg ho hd (.inr (.inr hu));obtain⟨p,u,hA⟩:=ht.Η.node.app om;have hp:=hA.at';rw[bE]at hp;have e:(o.Ω-1).toNat=o.Ω.toNat-1:=om;rw[e]at hp;have h2:=((lG.two (.inr (.inr hu)) d hd).2 k1 k2 (by rw[hk];rfl) (by rw[hk];rfl)).2.2 hu p u hp hA.fst;have iQ:p.Θ=false:=by
  cases hpa:p.Θ with
  |false=>rfl
  |true=>have:=((hg.axs p (Tac hp)).two (.inl hpa) u hA.fst).1;omega
 have hl:=hA.nas iQ;have ha:t.Y=[]:=Tao om;have h3:=hA.nm;have h4:=hA.so;obtain⟨op,nm,so,args⟩:=t;simp only[Tm.name,Tm.sort,Tm.Y,Tm.op]at *;subst h3 h4 ha bE;simp only[j4,if_neg hu]
def Zks(hg:SgnOk g){i:Nat}(ho:g.ops[i]?=some o)(hd:o.Z[0]?=some d)(hu:o.Ω≠0):co g b (j4 o)=some (j4 o):=by
 have hU:=(ZlB hg ho hd hu).1;have lG:=hg.axs o (Tac ho);have e:(j4 o).op=o.Ω-1:=by simp only[j4,Tm.op,if_neg hu]
 have ha:(j4 o).Y=[]:=rfl;have d4:=lG.lo;obtain⟨p,v,hA⟩:=hU.Η.node.app (by rw[e];omega);rw[sS (by rw[e];omega),ha];have:=Zkr hg hU hA;rw[ha]at this;simpa only[bU,Option.bind_some]using this
noncomputable def jo(g:Sgn)(b:GP)(t:Tm):Tm:=(co g b t).getD jS
def Zhd:∀{ts us:AI},bU g b ts=some us->us=ts.map (jo g b)/\∀t∈ts,∃u,co g b t=some u
 |[],us,h=>by simp only[bU,Taq]at h;subst h;exact⟨rfl,λt ht=>(by cases ht)⟩
 | t::ts,us,h=>by
  simp only[bU]at h
  cases h1:co g b t with
  |none=>rw[h1]at h;cases h
  | some v =>
   rw[h1]at h
   cases h2:bU g b ts with
   |none=>rw[h2]at h;cases h
   |some vs =>
    refine AC λh=>?_;subst h;obtain⟨e,hall⟩:=Zhd h2;refine⟨by rw[Tbv,<- e,jo,h1];rfl,λx hx=>?_⟩;rcases Tbh.1 hx with rfl|hx
    ·exact⟨v,h1⟩
    ·exact hall x hx
def Zix:∀{ts:AI},(∀t∈ts,∃u,co g b t=some u)->bU g b ts=some (ts.map (jo g b))
 |[],_=>by simp only[bU,List.map_nil]
 |t::ts,h=>by
  obtain⟨u,hu⟩:=h t Tas;have ih:=Zix (ts:=ts) λx hx=>h x (Tal _ hx);simp only[bU,ih,hu,Option.bind_some,Option.map_some,Tbv,jo,Option.getD_some]
def Zri(hg:SgnOk g)(hb:∀y∈b,TermOk g y.to){us:AI}(ht:∀t∈ts,TermOk g t)(h:bU g b ts=some us):∀u∈us,TermOk g u:=λu hu=>by
 obtain⟨x,hx,D8⟩:=Fe h u hu;exact yE hg hb _ x (Tan _) (ht x hx) D8
def ZyX{m:Tm}(h:FlOk g o op m):fo o op m=[m]:=by
 unfold fo;rw[if_neg λq=>h.nest q.1 q.2,if_neg λq=>h.Ω q.1 q.2]
def Zpj(hg:SgnOk g)(h0:0<=op)(ho:g.ops[op.toNat]?=some o)(hd:o.Z[0]?=some d)(hu:o.Ω≠0):fo o op (j4 o)=[]:=by
 have e:(j4 o).op=o.Ω-1:=by simp only[j4,Tm.op,if_neg hu]
 have d4:=(hg.axs o (Tac ho)).lo;unfold fo;rw[if_neg,if_pos ⟨hu,e⟩];rintro⟨ha,bE⟩;obtain⟨p,v,hA⟩:=(ZlB hg ho hd hu).1.Η.node.app (by rw[bE];omega);have hp:=hA.at';rw[bE,ho]at hp;injection hp with hp
 subst hp;have h1:=(hA.asc ha).1;have h2:(j4 o).Y.length=0:=rfl;omega
def ZJj (hg:SgnOk g) (h0:0<=op) (ho:g.ops[op.toNat]?=some o) (hd:o.Z[0]?=some d) (hb:∀y∈b,TermOk g y.to) {u w:Tm} (hu:TermOk g u) (hw:co g b u=some w):jC o (fo o op w) (cd o op ((fo o op u).map (jo g b))):=by
 by_cases h1:o.Θ/\u.op=op
 ·rw [(by unfold fo;rw[if_pos h1]:fo o op u=u.Y)];rw[sS om,h1.2]at hw
  cases h2:bU g b u.Y with
  |none=>rw[h2]at hw;cases hw
  | some ms =>
   rw[h2,Option.bind_some]at hw;obtain⟨e2,hall⟩:=Zhd h2;rw[<- e2];have nN:=ZlC hg h0 ho hd (Zri hg hb (λa ha=>hu.arg ha) h2);rw[vS ho hd,lX]at hw;split at hw
   ·cases hw
   split at hw;rotate_left
   ·cases hw
   unfold qI at hw;split at hw
   ·rename_i hq;obtain⟨iZ,hl⟩:=hq;injection hw with hw
    cases hf:cd o op ms with
    |nil =>
     rw[hf]at hw;have hw:j4 o=w:=hw;rw[<- hw,Zpj hg h0 ho hd iZ];exact jC.refl _
    |cons m l =>
     rw[hf]at hw hl nN;have hw:m=w:=hw;have:l=[]:=Tao (by simp only[Tag]at hl;omega);rw[this];rw[<- hw,ZyX (nN m Tas)];exact jC.refl _
   ·split at hw
    ·cases hw
    ·injection hw with hw
     have e3:fo o op w=bC o (cd o op ms):=by
      rw[<- hw];unfold fo;rw[if_pos ⟨h1.1,rfl⟩];rfl
     rw[e3];exact jC.srtL _
 ·by_cases h2:o.Ω≠0/\u.op=o.Ω-1
  ·have e1:fo o op u=[]:=by unfold fo;rw[if_neg h1,if_pos h2]
   rw[Zi0 hg ho hd h2.1 hu h2.2,Zks hg ho hd h2.1]at hw;injection hw with hw
   rw[e1,<- hw,Zpj hg h0 ho hd h2.1];exact jC.refl _
  ·have e2:cd o op ([u].map (jo g b))=fo o op w:=by simp[cd,jo,hw]
   rw[(by unfold fo;rw[if_neg h1,if_neg h2]:fo o op u=[u]),e2];exact jC.refl _
def Zt0 (hg:SgnOk g) (h0:0<=op) (ho:g.ops[op.toNat]?=some o) (hd:o.Z[0]?=some d) (hb:∀y∈b,TermOk g y.to):∀{us ws:AI},(∀u∈us,TermOk g u)->bU g b us=some ws->jC o (cd o op ws) (cd o op ((cd o op us).map (jo g b)))
 |[],ws,_,h=>by simp only[bU,Taq]at h;subst h;exact jC.refl _
 | u::us,ws,hu,h=>by
  simp only[bU]at h
  cases h1:co g b u with
  |none=>rw[h1]at h;cases h
  | some w =>
   rw[h1]at h
   cases h2:bU g b us with
   |none=>rw[h2]at h;cases h
   |some vs =>
    refine AC λh=>?_;subst h;have ih:=Zt0 hg h0 ho hd hb (λx hx=>hu x (Tal _ hx)) h2;have e2:cd o op ((cd o op (u::us)).map (jo g b))=cd o op ((fo o op u).map (jo g b))++cd o op ((cd o op us).map (jo g b)):=by simp[cd]
    rw[(by simp[cd]:cd o op (w::vs)=fo o op w++cd o op vs),e2];exact(ZJj hg h0 ho hd hb (hu u Tas) h1).app ih
def Fk{xs:AI}(h:lX g o d op xs=some t):¬Cb o d xs.length/\(∀(i:Nat)a,xs[i]?=some a->kD g o d i a)/\qI o op (cd o op xs)=some t:=by
 unfold lX at h;split at h
 ·cases h
 ·rename_i h1;split at h
  ·rename_i h2;exact⟨h1,h2,h⟩
  ·cases h
def ZE8{X Y R:AI}(h:(X++R).Perm Y)(hY:¬mD o op (bC o Y)):¬mD o op (bC o X):=by
 have e1:∀l:AI,ah (b7 op (bC o l))=1+au l:=λl=>by rw[iB,show(b7 op (bC o l)).Y=bC o l from rfl,Zfd (uF o l)]
 have e2:∀l:AI,aH (b7 op (bC o l))=1+aB l:=λl=>by rw[zh,show(b7 op (bC o l)).Y=bC o l from rfl,ZfO (uF o l)]
 have hl:=h.length_eq;have hs:=Zfd h;have hd:=ZfO h;rw[Tae]at hl;rw[Zjd]at hs;rw[Zlr]at hd;intro hX;refine hY ?_;unfold mD at hX⊢;rw[e1,e2,Zil]at hX⊢;rcases hX with⟨q1,q2⟩|q|q
 ·exact .inl ⟨q1,om⟩
 ·exact .inr (.inl om)
 ·exact .inr (.inr om)
def ZHW (hg:SgnOk g) (h0:0<=op) (ho:g.ops[op.toNat]?=some o) (hd:o.Z[0]?=some d) (hb:∀y∈b,TermOk g y.to) {us:AI} {y:Tm} (d7:∀u∈us,TermOk g u) (hx:ww g op us=some x) (hy:co g b x=some y) :
  (∀u∈us,∃w,co g b u=some w)/\∀ws z,bU g b us=some ws->ww g op ws=some z->y=z:=by
 rw[vS ho hd]at hx;obtain⟨hA1,hK1,hx⟩:=Fk hx;have nN:=ZlC hg h0 ho hd d7;have kX:∀{u:Tm},u∈us->¬(o.Θ/\u.op=op)->¬(o.Ω≠0/\u.op=o.Ω-1)->u∈cd o op us:=λ{u}hu h1 h2=>List.mem_flatMap.2 ⟨u,hu,by unfold fo;rw[if_neg h1,if_neg h2];exact Tbk.2 rfl⟩;have d6:∀{u:Tm},u∈us->o.Θ/\u.op=op->(∀a∈u.Y,a∈cd o op us)/\2<=u.Y.length/\∃s1 s2,cd o op us=cd o op s1++(u.Y++cd o op s2):=λ{u}hu h1=>by
  have e1:fo o op u=u.Y:=by unfold fo;rw[if_pos h1]
  obtain⟨p,v,hA⟩:=(d7 u hu).Η.node.app om;have hp:=hA.at';rw[h1.2,ho]at hp;injection hp with hp
  subst hp;obtain⟨s1,s2,rfl⟩:=List.append_of_mem hu;refine⟨λa ha=>List.mem_flatMap.2 ⟨u,hu,by rw[e1];exact ha⟩,(hA.asc h1.1).1,s1,s2,?_⟩;rw[<- e1];simp[cd]
 unfold qI at hx;split at hx
 ·rename_i hq;obtain⟨iZ,hl⟩:=hq;injection hx with hx
  refine⟨λu hu=>?_,λws z hws hz=>?_⟩
  ·by_cases h1:o.Θ/\u.op=op
   ·obtain⟨_,h2,s1,s2,h3⟩:=d6 hu h1;rw[h3]at hl;simp only[Tae]at hl;omega
   ·by_cases h2:o.Ω≠0/\u.op=o.Ω-1
    ·rw[Zi0 hg ho hd h2.1 (d7 u hu) h2.2];exact⟨_,Zks hg ho hd h2.1⟩
    ·have hm:=kX hu h1 h2
     cases hf:cd o op us with
     |nil=>rw[hf]at hm;cases hm
     |cons m l =>
      rw[hf]at hm hl hx;have:l=[]:=Tao (by simp only[Tag]at hl;omega);subst this;have hx:m=x:=hx;rw[Tbk.1 hm,hx];exact⟨y,hy⟩
  ·have hE:=Zt0 hg h0 ho hd hb d7 hws;rw[vS ho hd]at hz;have hz:=(Fk hz).2.2;rw[Zrg hE]at hz;have tP:∀t:AI,t.length<2->qI o op t=some (t.headD (j4 o)):=λt ht=>by unfold qI;rw[if_pos ⟨iZ,ht⟩]
   cases hf:cd o op us with
   |nil =>
    rw[hf]at hx hz;have hx:j4 o=x:=hx;rw[<- hx,Zks hg ho hd iZ]at hy;injection hy with hy
    rw[show cd o op (([]:AI).map (jo g b))=[]from rfl,tP [] (by decide)]at hz;injection hz with hz
    exact hy.symm.trans hz
   | cons m l =>
    rw[hf]at hx hz hl nN;have:l=[]:=Tao (by simp only[Tag]at hl;omega);subst this;have hx:m=x:=hx;have hm:=nN m Tas;have hmT:TermOk g m:=⟨hm.size,hm.depth,hm.Η⟩;rw[<- hx]at hy;have vi:=yE hg hb _ m (Tan _) hmT hy;have e:cd o op ([m].map (jo g b))=fo o op y:=by simp[cd,jo,hy]
    rw[e]at hz;by_cases h1:o.Θ/\y.op=op
    ·have e1:fo o op y=y.Y:=by unfold fo;rw[if_pos h1]
     obtain⟨p,v,hA⟩:=vi.Η.node.app om;have hp:=hA.at';rw[h1.2,ho]at hp;injection hp with hp
     subst hp;have hv:=hA.fst;rw[hd]at hv;injection hv with hv
     subst hv;have h3:=Zkr hg vi hA;rw[h1.2,vS ho hd]at h3;have h3:=(Fk h3).2.2;have h4:=(Zrh vi hA).1;rw[h1.2]at h4;rw[h4]at h3;rw[e1,h3]at hz;injection hz
    ·by_cases h2:o.Ω≠0/\y.op=o.Ω-1
     ·have e1:fo o op y=[]:=by unfold fo;rw[if_neg h1,if_pos h2]
      rw[e1,tP [] (by decide)]at hz;injection hz with hz
      rw[Zi0 hg ho hd h2.1 vi h2.2];exact hz
     ·have e1:fo o op y=[y]:=by unfold fo;rw[if_neg h1,if_neg h2]
      rw[e1,tP [y] (by show 1<2;decide)]at hz;injection hz
 ·rename_i hnu;split at hx
  ·cases hx
  injection hx with hx
  have bE:x.op=op:=by rw[<- hx];rfl
  have bS:x.Y=bC o (cd o op us):=by rw[<- hx];rfl
  rw[sS om,bE,bS]at hy
  cases h2:bU g b (bC o (cd o op us))with
  |none=>rw[h2]at hy;cases hy
  |some ys =>
  rw[h2,Option.bind_some,vS ho hd]at hy;obtain⟨e,hall⟩:=Zhd h2;have iR:∀a,a∈cd o op us->a∈bC o (cd o op us):=λa ha=>(uF o _).mem_iff.2 ha;obtain⟨_,hK2,hy⟩:=Fk hy;have hE1:jC o (cd o op ys) (cd o op ((cd o op us).map (jo g b))):=by rw[e];exact((jC.srtL _).map _).fl
  refine⟨λu hu=>?_,λws z hws hz=>?_⟩
  ·by_cases h1:o.Θ/\u.op=op
   ·obtain⟨q1,q2,s1,s2,q3⟩:=d6 hu h1;have q4:=Zix (g:=g) (b:=b) (ts:=u.Y) λt ht=>hall t (iR t (q1 t ht));rw[sS om,h1.2,q4,Option.bind_some,vS ho hd,lX,if_neg,if_pos]
    ·rw[qI];by_cases hq:o.Ω≠0/\(cd o op (u.Y.map (jo g b))).length<2
     ·rw[if_pos hq];exact⟨_,rfl⟩
     ·rw[if_neg hq];have hp:(cd o op (u.Y.map (jo g b))++(cd o op ((cd o op s1).map (jo g b))++cd o op ((cd o op s2).map (jo g b)))).Perm (cd o op ys):=by
       refine List.Perm.trans ?_ hE1.1.symm;rw[q3];have e3:cd o op ((cd o op s1++(u.Y++cd o op s2)).map (jo g b))=cd o op ((cd o op s1).map (jo g b))++(cd o op (u.Y.map (jo g b))++cd o op ((cd o op s2).map (jo g b))):=by simp[cd]
       rw[e3,<- Tbg,<- Tbg];exact List.Perm.append_right _ List.perm_append_comm
      have bh:=hp.length_eq;rw[Tae]at bh;unfold qI at hy;split at hy
      ·rename_i hr;exact absurd ⟨hr.1,om⟩ hq
      ·split at hy
       ·cases hy
       ·rename_i hB;rw[if_neg (ZE8 hp hB)];exact⟨_,rfl⟩
    ·intro i a hi;have ha:=Tac hi;obtain⟨l,hl,rfl⟩:=Tbj.1 ha;have:jo g b l∈ys:=by rw[e];exact List.mem_map_of_mem (iR l (q1 l hl))
     obtain⟨j,hj⟩:=Tbl this;have:=hK2 j _ hj;unfold kD eG at this⊢;rw[if_pos h1.1]at this⊢;exact this
    ·rintro(⟨_,q⟩|⟨q,_⟩)
     ·rw[Tay]at q;omega
     ·rw[h1.1]at q;cases q
   ·by_cases h2:o.Ω≠0/\u.op=o.Ω-1
    ·rw[Zi0 hg ho hd h2.1 (d7 u hu) h2.2];exact⟨_,Zks hg ho hd h2.1⟩
    ·exact hall u (iR u (kX hu h1 h2))
  ·rw[vS ho hd]at hz;have hz:=(Fk hz).2.2;rw[Zrg ((Zt0 hg h0 ho hd hb d7 hws).trans hE1.symm),hy]at hz;injection hz
end
def pc{X:Prop}{P:Program}{ts:List RS}{R:AS->Prop}{G7:St}(ks:GN)(hR:R r)(hx:Zr5 P ts R .ret σ->X:=by exactλh=>CO h)(hf:frzs ks σ=G7:=by exact iK)(hr:lY P G7 ts=some r:=by exact iK):X:=hx (ZI2 ks r hR hf (CC hr))
section
variable{e:Env}{ay:Nat}{Q:PX->St->Prop}{ds:By}
def fY(L:GL):Nat->Nat->GN
 |0,_=>[]
 |n+1,j=>mF L j++(mF L j).flatMap (fY L n)
def Zkz{L:GL}{aa:Array Bool}(h:∀j,aa.getD j false->∀q∈mF L j,aa.getD q false):∀(n j:Nat),(∀q∈mF L j,aa.getD q false)->∀q∈fY L n j,aa.getD q false=true
 |0,_,_,q,hq=>by cases hq
 |n+1,j,hj,q,hq=>by
  rcases Tbi.1 hq with hq|hq
  ·exact hj q hq
  ·obtain⟨r,hr,hq⟩:=List.mem_flatMap.1 hq;exact Zkz h n r (h r (hj r hr)) q hq
def zB(e:Env)(ds:By)(L:GL)(cons:Nat->GM)(lp:GN)(B:GR)(P:Nat->St->Prop):Nat->GL->Prop
 |_,[]=>True
 |i,o::os=>(∀s m,B ⟨s,m⟩->(∀j∈mF L i,(cons j=none\/cons j=some i)->P j ⟨s,m⟩)->(∀j∈lp,cons j=some i->P j ⟨s,m⟩)->(∀j∈lp,∀k,cons j=some k->i∈mF L k->P j ⟨s,m⟩)->an e ds 0 [o] ⟨s,m⟩ (λy'=>B y'/\P i y'/\∀j,j≠i->i∉fY L 6 j->cons j≠some i->(∀k,cons j=some k->k∉fY L 6 i)->P j ⟨s,m⟩->P j y'))/\zB e ds L cons lp B P (i+1) os
def zB.get{L:GL}{cons:Nat->GM}{lp:GN}{B:GR}{P:Nat->St->Prop}:∀{l:GL}{k i:Nat}{o:Oper},zB e ds L cons lp B P k l->l[i]?=some o->∀s m,B ⟨s,m⟩->(∀j∈mF L (k+i),(cons j=none\/cons j=some (k+i))->P j ⟨s,m⟩)->(∀j∈lp,cons j=some (k+i)->P j ⟨s,m⟩)->(∀j∈lp,∀k',cons j=some k'->k+i∈mF L k'->P j ⟨s,m⟩)->an e ds 0 [o] ⟨s,m⟩ (λy'=>B y'/\P (k+i) y'/\∀j,j≠k+i->k+i∉fY L 6 j->cons j≠some (k+i)->(∀k',cons j=some k'->k' ∉ fY L 6 (k+i))->P j ⟨s,m⟩->P j y')
 |[],k,i,o,_,h=>by simp at h
 |x::l,k,0,o,h,ho=>by
  exact m215
 |x::l,k,i+1,o,h,ho=>by
  have:=zB.get (l:=l) (k:=k+1) (i:=i) (o:=o) h.2 (by simpa using ho);rw[show k+1+i=k+(i+1) by omega]at this;exact this
def Znf {l:GL} {cons:Nat->GM} {lp:GN} {K B:GR} {P:Nat->St->Prop} (hb:FR l) (tD:lp.all (λj=>decide (l.length<=j))) (rZ:zB e ds l cons lp B P 0 l) (hK:∀s m,B ⟨s,m⟩->(∀i,i<l.length\/i∈lp->(∀k,cons i=some k->l.length<=k)->P i ⟨s,m⟩)->K ⟨s,m⟩) :
  ∀(f:Nat)(aa:Array Bool)(σ:St),aa.size=l.length->(List.range l.length).countP (λi=>!aa.getD i true)=f->B σ->(∀j,aa.getD j false->(P j σ\/∃k,cons j=some k/\aa.getD k false)/\∀q∈mF l j,aa.getD q false)->(∀j∈lp,P j σ\/∃k,cons j=some k/\aa.getD k false)->oV e ds l.toArray K f aa σ:=by
 have jp:∀i o,l[i]?=some o->o.guard=none/\∀e∈o.after,Region.binds .any e->e.on<i:=λi o ho=>by
  exact m47
 have tz:∀(aa:Array Bool),aa.size=l.length->Region.ready .any l.toArray aa=[]->∀i,i<l.length->aa.getD i false:=λaa bP h0 i=>by
  exact m39
 have am:∀(aa:Array Bool)(k:Nat),aa.getD k false->k<aa.size:=λaa k h=>Classical.byContradiction λhn=>by
  rw[Array.getD_eq_getD_getElem?,Array.getElem?_eq_none om]at h
  cases h
 intro f
 induction f with
 | zero =>
  intro aa σ bP hc hB hP hI;have hall:∀i,i<l.length->aa.getD i true:=λi hi=>by
   have:=List.countP_eq_zero.1 hc i (List.mem_range.2 hi);simpa using this
  refine⟨?_,hK σ.s σ.m hB λi hio hk=>?_⟩
  ·cases hr:Region.ready .any l.toArray aa with
   |nil=>rfl
   | cons i r =>
    have hi:i∈Region.ready .any l.toArray aa:=by rw[hr];simp
    obtain⟨iZ,oi,fU,_⟩:=mem_ready.1 hi;have e7:i<l.length:=by
     have:=(Tbm.1 fU).1;simpa using this
    rw[hall i e7]at iZ
    cases iZ
  ·have bT:¬∃k,cons i=some k/\aa.getD k false:=λ⟨k,h1,h2⟩=>by
    have:=am aa k h2;have:=hk k h1;omega
   rcases hio with hi|hi
   ·exact(hP i (by rw[<- nG om];exact hall i hi)).1.resolve_right bT
   ·exact(hI i hi).resolve_right bT
 | succ f ih =>
  intro aa σ bP hc hB hP hI;refine⟨λh0=>hK σ.s σ.m hB λi hio hk=>?_,λi hi=>?_⟩
  ·have bT:¬∃k,cons i=some k/\aa.getD k false:=λ⟨k,h1,h2⟩=>by
    have:=am aa k h2;have:=hk k h1;omega
   rcases hio with hi|hi
   ·exact(hP i (tz aa bP h0 i hi)).1.resolve_right bT
   ·exact(hI i hi).resolve_right bT
  obtain⟨iZ,o,fU,hall⟩:=mem_ready.1 hi;have ho:l[i]?=some o:=by simpa using fU
  have e7:i<l.length:=(Tad.1 ho).1;have iJ:i<aa.size:=om;have ji:mF l i=yz o:=by unfold mF;rw[ho]
  have nW:aa.getD i false=false:=by rw[<- nG iJ];exact iZ
  have hanc:∀q∈fY l 6 i,aa.getD q false:=Zkz (λj hj=>(hP j hj).2) 6 i λq hq=>by
   rw[ji]at hq;simp only[yz,Tbj,List.mem_filter]at hq;obtain⟨e,⟨he,mP⟩,rfl⟩:=hq;exact hall e (Array.mem_toList_iff.1 he) mP
  refine⟨o,fU,(jp i o ho).1,Zeh (jp i o ho).1 ?_⟩;have h1:=zB.get rZ ho σ.s σ.m hB (λj hj Gh=>by
   rw[Nat.zero_add]at hj Gh;have mQ:=hj;rw[ji]at mQ;simp only[yz,Tbj,List.mem_filter]at mQ;obtain⟨e,⟨he,mP⟩,rfl⟩:=mQ;refine(hP e.on (hall e (Array.mem_toList_iff.1 he) mP)).1.resolve_right ?_;rintro⟨k,gU,eK⟩;rcases Gh with Gh|Gh
   ·rw[Gh]at gU;cases gU
   ·rw[Gh]at gU;injection gU with gU
    subst gU;rw[nW]at eK
    cases eK) (λj hj hc=>by
   rw[Nat.zero_add]at hc;refine(hI j hj).resolve_right ?_;rintro⟨k,gU,eK⟩;rw[hc]at gU;injection gU with gU
   subst gU;rw[nW]at eK
   cases eK) (λj hj k' hc hd=>by
   rw[Nat.zero_add]at hd;refine(hI j hj).resolve_right ?_;rintro⟨k,gU,eK⟩;rw[hc]at gU;injection gU with gU
   subst gU;have h2:=(hP _ eK).2 i hd;rw[nW]at h2
   cases h2)
  rw[Nat.zero_add]at h1;refine ZoL h1 λy'⟨k1,k2,k3⟩=>ih _ y' (by simpa using bP) ?_ k1 (λj hj=>?_) λj hj=>?_
  ·have h1:(List.range l.length).countP (λj=>!(aa.setIfInBounds i true).getD j true)+1=(List.range l.length).countP (λj=>!aa.getD j true):=by
    have d5:=List.perm_cons_erase (List.mem_range.2 e7);rw[d5.countP_eq,d5.countP_eq,List.countP_cons,List.countP_cons];have jq:((List.range l.length).erase i).countP (λj=>!(aa.setIfInBounds i true).getD j true)=((List.range l.length).erase i).countP (λj=>!aa.getD j true):=by
     refine List.countP_congr λj hj=>?_;have aP:j≠i:=λe=>by
      subst e;exact List.Nodup.not_mem_erase (List.nodup_range) hj
     rw[getD_set_ne true (Ne.symm aP)]
    rw[jq,iZ];simp[iJ]
   omega
  ·by_cases fu:j=i
   ·subst fu;refine⟨.inl k2,λq hq=>?_⟩;rw[ji]at hq;simp only[yz,Tbj,List.mem_filter]at hq;obtain⟨e,⟨he,mP⟩,rfl⟩:=hq;have am:=(jp j o ho).2 e (Array.mem_toList_iff.1 he) mP;rw[getD_set_ne false om];exact hall e (Array.mem_toList_iff.1 he) mP
   ·rw [getD_set_ne false (Ne.symm fu)]at hj;obtain⟨p1,p2⟩:=hP j hj;have Gn:i∉fY l 6 j:=λhm=>by
     have h2:=Zkz (λj hj=>(hP j hj).2) 6 j p2 i hm;rw[nW]at h2
     cases h2
    refine⟨?_,λq hq=>?_⟩
    ·rcases p1 with p1|⟨k,gU,eK⟩
     ·by_cases hci:cons j=some i
      ·refine .inr ⟨i,hci,?_⟩;rw[<- nG (by simpa using iJ)];simp[Array.getD_eq_getD_getElem?,iJ]
      ·by_cases ph:∃k,cons j=some k/\k∈fY l 6 i
       ·obtain⟨k,gU,eK⟩:=ph;refine .inr ⟨k,gU,?_⟩;have yS:=hanc k eK;have qz:i≠k:=λe=>by subst e;rw[nW]at yS;cases yS
        rw[getD_set_ne false qz];exact yS
       ·exact .inl (k3 j fu Gn hci (λk gU eK=>ph ⟨k,gU,eK⟩) p1)
     ·refine .inr ⟨k,gU,?_⟩;by_cases qz:k=i
      ·subst qz;rw[nW]at eK;cases eK
      ·rw[getD_set_ne false (Ne.symm qz)];exact eK
    ·by_cases hqi:q=i
     ·subst hqi;have h2:=p2 q hq;rw[nW]at h2
      cases h2
     ·rw[getD_set_ne false (Ne.symm hqi)];exact p2 q hq
  ·have lJ:l.length<=j:=by have:=List.all_eq_true.1 tD j hj;simpa using this
   have fu:j≠i:=om;have Gn:i∉fY l 6 j:=λhm=>by
    have hd:mF l j=[]:=by unfold mF;rw[List.getElem?_eq_none lJ]
    simp[fY,hd]at hm
   rcases hI j hj with p1|⟨k,gU,eK⟩
   ·by_cases hci:cons j=some i
    ·refine .inr ⟨i,hci,?_⟩;rw[<- nG (by simpa using iJ)];simp[Array.getD_eq_getD_getElem?,iJ]
    ·by_cases ph:∃k,cons j=some k/\k∈fY l 6 i
     ·obtain⟨k,gU,eK⟩:=ph;refine .inr ⟨k,gU,?_⟩;have yS:=hanc k eK;have qz:i≠k:=λe=>by subst e;rw[nW]at yS;cases yS
      rw[getD_set_ne false qz];exact yS
     ·exact .inl (k3 j fu Gn hci (λk gU eK=>ph ⟨k,gU,eK⟩) p1)
   ·refine .inr ⟨k,gU,?_⟩;by_cases qz:k=i
    ·subst qz;rw[nW]at eK;cases eK
    ·rw[getD_set_ne false (Ne.symm qz)];exact eK
def gF:d3->d3->Prop
 |[],_=>True
 |(t,x)::r,s=>gs s t=x/\gF r s
def gz:it->it->Prop
 |[],_=>True
 |(t,x)::r,m=>gm m t=some x/\gz r m
def ZG4{s:d3}:∀{sb:d3},(∀p∈sb,gs s p.1=p.2)↔gF sb s
 |[]=>by simp[gF]
 |(t,x)::r=>by simp only[List.forall_mem_cons,gF,ZG4 (sb:=r)]
def ZG5{m:it}:∀{mb:it},(∀p∈mb,gm m p.1=some p.2)↔gz mb m
 |[]=>by simp[gz]
 |(t,x)::r=>by simp only[List.forall_mem_cons,gz,ZG5 (mb:=r)]
def wH{sb:d3}{mb:it}{s:d3}{m:it}:dy sb mb ⟨s,m⟩↔gF sb s/\gz mb m:=and_congr ZG4 ZG5
abbrev Tab:=List (d3×it)
def kr(T:Tab)(i:Nat)(σ:St):Prop:=dy (T.getD i ([],[])).1 (T.getD i ([],[])).2 σ
def fO{T:Tab}{i:Nat}{s:d3}{m:it}:kr T i ⟨s,m⟩↔gF (T.getD i ([],[])).1 s/\gz (T.getD i ([],[])).2 m:=wH
def zD(L:GL)(cons:Nat->GM)(T:Tab)(i:Nat)(f:d3->it->Bool):Bool:=(List.range T.length).all λj=>j==i||((fY L 6 j).contains i||(cons j==some i||((match cons j with|some k=>(fY L 6 i).contains k|none=>false)||f (T.getD j ([],[])).1 (T.getD j ([],[])).2)))
def ZjH{L:GL}{cons:Nat->GM}{T:Tab}{i:Nat}{f:d3->it->Bool}{y':St}(h:zD L cons T i f)(hf:∀sb mb,f sb mb->dy sb mb σ->dy sb mb y'):∀j,j≠i->i∉fY L 6 j->cons j≠some i->(∀k,cons j=some k->k∉fY L 6 i)->kr T j σ->kr T j y':=λj h1 h2 h3 h4 hp=>by
 unfold kr at hp⊢;by_cases hj:j<T.length
 ·have:=List.all_eq_true.1 h j (List.mem_range.2 hj);simp only[Bool.or_eq_true,beq_iff_eq,List.contains_eq_mem,decide_eq_true_eq]at this;rcases this with q|q|q|q|q
  ·exact absurd q h1
  ·exact absurd q h2
  ·exact absurd q h3
  ·cases hc:cons j with
   |none=>rw[hc]at q;cases q
   |some k=>rw[hc]at q;exact absurd (by simpa using q) (h4 k hc)
  ·exact hf _ _ q hp
 ·rw[(by rw[List.getD_eq_getElem?_getD,List.getElem?_eq_none om];rfl:T.getD j ([],[])=([],[]))];exact⟨λp hp=>(by cases hp),λp hp=>by cases hp⟩
section
variable{sb:d3}{mb:it}{s:d3}{m:it}{d k:Nat}{α:A}{bk:Bk}
def dy.kill(h:dy sb mb ⟨s,m⟩)(hf:sb.all (λp=>!mX k p.2)):dy sb mb ⟨bX k s,m⟩:=⟨λp hp=>by
 have h1:=List.all_eq_true.1 hf p hp;have h2:=h.1 p hp;show gs (bX k s) p.1=p.2;rw[ZfN _ _ _ (by rw[h2];simpa using h1)];exact h2,h.2⟩
def dy.mrem(h:dy sb mb ⟨s,m⟩)(hf:mb.all (λp=>p.1 != k)):dy sb mb ⟨s,aA k m⟩:=⟨h.1,λp hp=>by
 have h1:=List.all_eq_true.1 hf p hp;simp only[bne_iff_ne,ne_eq]at h1;show gm (aA k m) p.1=some p.2;rw[gq,if_neg h1];exact h.2 p hp⟩
def ZDb{x:A}(h:mX k x=false):im k bk x=x:=by
 cases x<;>simp_all [im,mX]
def dy.frz(h:dy sb mb ⟨s,m⟩)(hf:sb.all (λp=>!mX k p.2))(hm:mb.all (λp=>p.1 != k)):dy sb mb ⟨io k bk s,aA k m⟩:=by
 refine dy.mrem (m:=m) ⟨λp hp=>?_,h.2⟩ hm;have h1:=List.all_eq_true.1 hf p hp;show gs (io k bk s) p.1=p.2;rw[ZpL,(h.1 p hp)];exact ZDb (by simpa using h1)
def Zso(d:Nat)(sb:d3)(_:it):Bool:=sb.all λp=>p.1 != d
def ZG6(d:Nat)(_:d3)(mb:it):Bool:=mb.all λp=>p.1 != d
def FK(d k:Nat)(sb:d3)(mb:it):Bool:=vZ d sb mb&&vZ k sb mb
def dy.ownE(h:dy sb mb ⟨s,m⟩)(hf:FK d k sb mb):dy sb mb ⟨(d,α)::bX d (bX k s),(d,bk)::aA d (aA k m)⟩:=by
 simp only[FK,vZ,Tar,List.all_eq_true,bne_iff_ne,ne_eq,Bool.not_eq_true']at hf;refine dy.born (dy.mrem (dy.kill h ?_) ?_) ?_
 ·simp only[List.all_eq_true,Bool.not_eq_true'];exactλp hp=>(hf.2.1 p hp).2
 ·simp only[List.all_eq_true,bne_iff_ne,ne_eq];exactλp hp=>hf.2.2 p hp
 ·simp only[vZ,Tar,List.all_eq_true,bne_iff_ne,ne_eq,Bool.not_eq_true'];exact hf.1
end
section
variable{L:GL}{cons:Nat->GM}{T:Tab}{i:Nat}{sb:d3}{mb:it}{s s2:d3}{m m2:it}{d k:Nat}{α:A}{bk:Bk}
abbrev Did(L:GL)(cons:Nat->GM)(T:Tab)(i:Nat)(sb:d3)(mb:it)(s:d3)(m:it)(y':St):Prop:=dy sb mb y'/\kr T i y'/\∀j,j≠i->i∉fY L 6 j->cons j≠some i->(∀k,cons j=some k->k∉fY L 6 i)->kr T j ⟨s,m⟩->kr T j y'
def kS(hB:dy sb mb ⟨s,m⟩)(hp:kr T i ⟨(d,α)::s,m⟩)(h1:Zso d sb mb:=by rfl)(h2:zD L cons T i (Zso d):=by rfl):Did L cons T i sb mb s m ⟨(d,α)::s,m⟩:=⟨hB.slot h1,hp,ZjH h2 λ_ _ h hl=>hl.slot h⟩
def kM(hB:dy sb mb ⟨s,m⟩)(hp:kr T i ⟨s,(d,bk)::aA d m⟩)(h1:ZG6 d sb mb:=by rfl)(h2:zD L cons T i (ZG6 d):=by rfl):Did L cons T i sb mb s m ⟨s,(d,bk)::aA d m⟩:=⟨hB.own h1,hp,ZjH h2 λ_ _ h hl=>hl.own h⟩
def kB(hB:dy sb mb ⟨s,m⟩)(hp:kr T i ⟨(d,α)::bX d s,(d,bk)::aA d m⟩)(h1:vZ d sb mb:=by rfl)(h2:zD L cons T i (vZ d):=by rfl):Did L cons T i sb mb s m ⟨(d,α)::bX d s,(d,bk)::aA d m⟩:=⟨hB.born h1,hp,ZjH h2 λ_ _ h hl=>hl.born h⟩
def kE(hB:dy sb mb ⟨s,m⟩)(hp:kr T i ⟨(d,α)::bX d (bX k s),(d,bk)::aA d (aA k m)⟩)(h1:FK d k sb mb:=by rfl)(h2:zD L cons T i (FK d k):=by rfl):Did L cons T i sb mb s m ⟨(d,α)::bX d (bX k s),(d,bk)::aA d (aA k m)⟩:=⟨hB.ownE h1,hp,ZjH h2 λ_ _ h hl=>hl.ownE h⟩
end
def gGk{id:Nat}{l:GL}{s:d3}{m:it}(sb:d3)(mb:it)(T:Tab)(cons:Nat->GM)(lp:GN)(hB:dy sb mb ⟨s,m⟩)(hI:∀j∈lp,kr T j ⟨s,m⟩)(hS:zB e (l.map (·.dst)) l cons lp (dy sb mb) (kr T) 0 l)(hK:∀s' m',dy sb mb ⟨s',m'⟩->(∀i,i<l.length\/i∈lp->(∀k,cons i=some k->l.length<=k)->kr T i ⟨s',m'⟩)->∃sf mf,dy sf mf ⟨s',m'⟩/\Q .normal ⟨sf,mf⟩)
  (hb:FR l:=by decide +kernel) (tD:lp.all (λj=>decide (l.length<=j)):=by decide +kernel) (hT:sd l.toArray 0:=by decide +kernel):de e ay (.region id l.toArray true) ⟨s,m⟩ Q:=λhe U w0 S0 nt a w aq hs=>by
 refine Zj1 he hT (K:=λy'=>∃sf mf,dy sf mf y'/\Q .normal ⟨sf,mf⟩) (λa w y'⟨sf,mf,h1,h2⟩h3=>⟨⟨sf,mf⟩,h2,h3.weak (λt=>ZoJ t h1.1) (λt bk=>ZoK t bk h1.2)⟩) (FQ aq) hs ?_;simp only[List.take_zero,an]
 have:=Znf (K:=λy'=>∃sf mf,dy sf mf y'/\Q .normal ⟨sf,mf⟩) hb tD hS hK l.length (ni l.length 0) ⟨s,m⟩ (by simp[ni]) (by
  rw[List.countP_eq_length.2]
  ·simp
  ·intro i hi;have dR:=List.mem_range.1 hi;simp[ni,dR]) hB (λj hj=>by
   refine Ec λhj=>?_
   cases hj) (λj hj=>.inl (hI j hj))
 simpa using this
end
section
variable{e:Env}{ay:Nat}{Q:PX->St->Prop}{ds:By}{X:Type}
def ma(ok:Nat->X->Prop)(T:X->Tab)(j:Nat)(σ:St):Prop:=∃x,ok j x/\kr (T x) j σ
abbrev DidX(L:GL)(cons:Nat->GM)(ok:Nat->X->Prop)(T:X->Tab)(i:Nat)(sb:d3)(mb:it)(s:d3)(m:it)(y':St):Prop:=dy sb mb y'/\ma ok T i y'/\∀j,j≠i->i∉fY L 6 j->cons j≠some i->(∀k,cons j=some k->k∉fY L 6 i)->ma ok T j ⟨s,m⟩->ma ok T j y'
section
variable{L:GL}{cons:Nat->GM}{ok:Nat->X->Prop}{T:X->Tab}{i:Nat}{sb:d3}{mb:it}{s s2:d3}{m m2:it}{d k:Nat}{α:A}{bk:Bk}
def ZnT{f:d3->it->Bool}{y':St}(h:∀x,zD L cons (T x) i f)(hf:∀sb mb,f sb mb->dy sb mb σ->dy sb mb y'):∀j,j≠i->i∉fY L 6 j->cons j≠some i->(∀k,cons j=some k->k∉fY L 6 i)->ma ok T j σ->ma ok T j y':=λj h1 h2 h3 h4⟨x,hx,hp⟩=>⟨x,hx,ZjH (h x) hf j h1 h2 h3 h4 hp⟩
def xS(hB:dy sb mb ⟨s,m⟩)(hp:ma ok T i ⟨(d,α)::s,m⟩)(h1:Zso d sb mb:=by rfl)(h2:∀x,zD L cons (T x) i (Zso d):=by intro x;rfl):DidX L cons ok T i sb mb s m ⟨(d,α)::s,m⟩:=⟨hB.slot h1,hp,ZnT h2 λ_ _ h hl=>hl.slot h⟩
def xE(hB:dy sb mb ⟨s,m⟩)(hp:ma ok T i ⟨(d,α)::bX d (bX k s),(d,bk)::aA d (aA k m)⟩)(h1:FK d k sb mb:=by rfl)(h2:∀x,zD L cons (T x) i (FK d k):=by intro x;rfl):DidX L cons ok T i sb mb s m ⟨(d,α)::bX d (bX k s),(d,bk)::aA d (aA k m)⟩:=⟨hB.ownE h1,hp,ZnT h2 λ_ _ h hl=>hl.ownE h⟩
def dy.bornC{κ:Nat}(h:dy sb mb ⟨s,m⟩)(hf:(sb.all (λp=>p.1 != d && !mX κ p.2)&&mb.all (λp=>p.1 != κ))):dy sb mb ⟨(d,α)::bX κ s,(κ,bk)::aA κ m⟩:=by
 simp only[Tar,List.all_eq_true,bne_iff_ne,ne_eq,Bool.not_eq_true']at hf;refine dy.slot (dy.own (dy.kill h ?_) ?_) ?_
 ·simp only[List.all_eq_true,Bool.not_eq_true'];exactλp hp=>(hf.1 p hp).2
 ·simp only[List.all_eq_true,bne_iff_ne,ne_eq];exact hf.2
 ·simp only[List.all_eq_true,bne_iff_ne,ne_eq];exactλp hp=>(hf.1 p hp).1
def ZG7(d κ:Nat)(sb:d3)(mb:it):Bool:=sb.all (λp=>p.1 != d && !mX κ p.2)&&mb.all (λp=>p.1 != κ)
def xP{κ:Nat}(hB:dy sb mb ⟨s,m⟩)(hp:ma ok T i ⟨(d,α)::bX κ s,(κ,bk)::aA κ m⟩)(h1:ZG7 d κ sb mb:=by rfl)(h2:∀x,zD L cons (T x) i (ZG7 d κ):=by intro x;rfl):DidX L cons ok T i sb mb s m ⟨(d,α)::bX κ s,(κ,bk)::aA κ m⟩:=⟨hB.bornC h1,hp,ZnT h2 λ_ _ h hl=>hl.bornC h⟩
end
def gGp{id:Nat}{l:GL}{s:d3}{m:it}(sb:d3)(mb:it)(P:Nat->St->Prop)(cons:Nat->GM)(lp:GN)(hB:dy sb mb ⟨s,m⟩)(hI:∀j∈lp,P j ⟨s,m⟩)(hS:zB e (l.map (·.dst)) l cons lp (dy sb mb) P 0 l)(hK:∀s' m',dy sb mb ⟨s',m'⟩->(∀i,i<l.length\/i∈lp->(∀k,cons i=some k->l.length<=k)->P i ⟨s',m'⟩)->∃sf mf,dy sf mf ⟨s',m'⟩/\Q .normal ⟨sf,mf⟩)
  (hb:FR l:=by decide +kernel) (tD:lp.all (λj=>decide (l.length<=j)):=by decide +kernel) (hT:sd l.toArray 0:=by decide +kernel):de e ay (.region id l.toArray true) ⟨s,m⟩ Q:=λhe U w0 S0 nt a w aq hs=>by
 refine Zj1 he hT (K:=λy'=>∃sf mf,dy sf mf y'/\Q .normal ⟨sf,mf⟩) (λa w y'⟨sf,mf,h1,h2⟩h3=>⟨⟨sf,mf⟩,h2,h3.weak (λt=>ZoJ t h1.1) (λt bk=>ZoK t bk h1.2)⟩) (FQ aq) hs ?_;simp only[List.take_zero,an]
 have:=Znf (K:=λy'=>∃sf mf,dy sf mf y'/\Q .normal ⟨sf,mf⟩) hb tD hS hK l.length (ni l.length 0) ⟨s,m⟩ (by simp[ni]) (by
  rw[List.countP_eq_length.2]
  ·simp
  ·intro i hi;have dR:=List.mem_range.1 hi;simp[ni,dR]) hB (λj hj=>by
   refine Ec λhj=>?_
   cases hj) (λj hj=>.inl (hI j hj))
 simpa using this
def gGx{id:Nat}{l:GL}{s:d3}{m:it}(sb:d3)(mb:it)(ok:Nat->X->Prop)(T:X->Tab)(cons:Nat->GM)(lp:GN)(hB:dy sb mb ⟨s,m⟩)(hI:∀j∈lp,ma ok T j ⟨s,m⟩)(hS:zB e (l.map (·.dst)) l cons lp (dy sb mb) (ma ok T) 0 l)(hK:∀s' m',dy sb mb ⟨s',m'⟩->(∀i,i<l.length\/i∈lp->(∀k,cons i=some k->l.length<=k)->ma ok T i ⟨s',m'⟩)->∃sf mf,dy sf mf ⟨s',m'⟩/\Q .normal ⟨sf,mf⟩)
  (hb:FR l:=by decide +kernel) (tD:lp.all (λj=>decide (l.length<=j)):=by decide +kernel) (hT:sd l.toArray 0:=by decide +kernel):de e ay (.region id l.toArray true) ⟨s,m⟩ Q:=gGp sb mb (ma ok T) cons lp hB hI hS hK hb tD hT
def ou{ok:Nat->X->Prop}{T:X->Tab}{i:Nat}{s:d3}{m:it}:ma ok T i ⟨s,m⟩↔∃x,ok i x/\gF ((T x).getD i ([],[])).1 s/\gz ((T x).getD i ([],[])).2 m:=exists_congr λx=>and_congr_right λ_=>fO
end
section
variable{w:World}{S:GO}
def ZxK{b:Nat}{c c':C}(hc:∀u,aR w S c u->aR w S c' u):∀{cs:we}{j off:Nat},cs[j]?=some c->a8 w S b off cs->a8 w S b off (cs.set j c')
 |[],j,_,h,_=>by simp at h
 |d::cs,0,off,h,hr=>by
  simp only[Tat,Taq]at h;subst h;simp only[List.set_cons_zero,a8]at hr⊢;obtain⟨⟨u,h1,h2⟩,h3⟩:=hr;exact⟨⟨u,h1,hc u h2⟩,h3⟩
 |d::cs,j+1,off,h,hr=>by
  simp only[Tau]at h;simp only[List.set_cons_succ,a8]at hr⊢;exact⟨hr.1,ZxK hc h hr.2⟩
end
def ZDd{e:Env}(k κ j:Nat){a:BY}{o:GM}{r:we}(hm:gm σ.m k=some (.Υ (some (a,cap)) ety sz rows))(va:gm σ.m κ=some (.var o r))(aP:κ≠k)(hc:r[j]?=some (.A (.slice a rows.length cap))) :
  kI e σ (λy'=>y'=⟨io k (.Υ (some (a,cap)) ety sz rows) σ.s,(κ,.var o (r.set j (.sl rows)))::aA κ (aA k σ.m)⟩):=by
 intro he U w0 S0 nt ac w ⟨S,L,h⟩;have ho:=h.Ξ.own k _ hm;have hv:L.v k=.slice a rows.length cap:=ho.1 (a,cap) rfl;have kY:=eO.rep ho.2;rw[hv]at kY;obtain⟨S',L',h',ky⟩:=h.freeze2 he hm;have rT:aR w S' (.sl rows) (.slice a rows.length cap):=kY.mono λb hb=>(ky b).2 (hb.imp id (λq=>by show aO (L.v k)=some b;rw[hv];exact q));have hm2':gm (aA k σ.m) κ=some (.var o r):=by rw[gq,if_neg aP];exact va
 have iq:∀u,aR w S' (.A (.slice a rows.length cap)) u->aR w S' (.sl rows) u:=λu hu=>by
  have:u=.slice a rows.length cap:=by simpa[aR]using hu
  rw[this];exact rT
 obtain⟨h0,h1,h2,⟨oX,ty,h3,h4⟩,h5⟩:=h'.Ξ.own κ _ hm2';exact⟨_,rfl,S',L',⟨h'.Ξ.swap hm2' (bk':=.var o (r.set j (.sl rows))) ⟨h0,h1,h2,⟨oX,ty,h3,by rw[Taz];exact h4⟩,ZxK iq hc h5⟩ (λg hg=>hg),h'.rel,h'.size,h'.defers,h'.kept⟩⟩
def vA{e:Env}{ay:Nat}{Q:PX->St->Prop}{c:Code}{s:d3}{m:it}{a:BY}{o:GM}{r:we}(k κ j:Nat)(hK:de e ay c ⟨s2,(κ,.var o (r.set j (.sl rows)))::m2⟩ Q)(hm:gm m k=some (.Υ (some (a,cap)) ety sz rows):=by exact dE)(va:gm m κ=some (.var o r):=by exact dE)(hc:r[j]?=some (.A (.slice a rows.length cap)):=by simp)(aP:κ≠k:=by decide)(hs:io k (.Υ (some (a,cap)) ety sz rows) s=s2:=by exact dE)(hr:aA κ (aA k m)=m2:=by exact dE):de e ay c ⟨s,m⟩ Q :=
 rp (ZDd (σ:=⟨s,m⟩) k κ j hm va aP hc) λy' G6=>by subst G6;simp only[hs,hr];exact hK
def m227(h:G3:=by
 rcases Tbh.1 h with rfl|h
 ·exact⟨_,_,rfl⟩
 ·exact ZkB h):G3:=h
inductive Seg
 |lits (us:GK)
 |sl (E:GO) (rows:sh) (u:Value)
 |st (E:GO) (cs:we) (us:GK)
def nb:List Seg->GQ
 |[]=>[]
 |.lits _::r=>nb r
 |.sl E rows u::r=>.set E (λw=>bp w (.sl rows) E u)::nb r
 |.st E cs us::r=>.set E (λw=>aV w cs E us)::nb r
def xZ:List Seg->we
 |[]=>[]
 |.lits us::r=>aY us++xZ r
 |.sl _ rows _::r=>.sl rows::xZ r
 |.st _ cs _::r=>cs++xZ r
def yd:List Seg->GK
 |[]=>[]
 |.lits us::r=>us++yd r
 |.sl _ _ u::r=>u::yd r
 |.st _ _ us::r=>us++yd r
def aV.app{w:World}{S S1 S2:GO}{ds:we}{vs:GK}(h2:aV w ds S2 vs)(i2:∀x,S2 x->S x):∀{cs:we}{us:GK}{S1:GO},aV w cs S1 us->(∀x,S1 x->S x)->(∀x,S1 x->S2 x->False)->aV w (cs++ds) S (us++vs)
 |[],[],_,_,_,_=>aV.Ε (Tai _) ds S2 S vs (λ_ _=>rfl) i2 h2
 |c::cs,u::us,T,h,i1,hd=>by
  simp only[aV]at h;obtain⟨T1,T2,a1,a2,a3,a4,a5⟩:=h;have h3:aV w (cs++ds) (λx=>T2 x\/S2 x) (us++vs):=aV.app (S:=λx=>T2 x\/S2 x) (S1:=T2) h2 (λ_ h=>.inr h) a5 (λ_ h=>.inl h) λx hx=>hd x (a2 x hx);exact aV.cons T1 (λx=>T2 x\/S2 x) a4 h3 (λx hx=>i1 x (a1 x hx)) (λx hx=>hx.elim (λq=>i1 x (a2 x q)) (i2 x)) λx hx hy=>hy.elim (a3 x hx) (hd x (a1 x hx))
 |[],_::_,_,h,_,_=>by simp[aV]at h
 |_::_,[],_,h,_,_=>by simp[aV]at h
def aV.lits{w:World}:∀{us:GK},aV w (aY us) (λ_=>False) us
 |[]=>aV.nil
 |u::us=>aV.A aV.lits
def ZkA{w:World}{S:GO}:∀{ss:List Seg},(∀x∈nb ss,oT w S x)->oO (nb ss)->aV w (xZ ss) (dP (nb ss)) (yd ss)
 |[],_,_=>aV.nil
 |.lits us::r,h,ha=>aV.app (S1:=λ_=>False) (ZkA (ss:=r) h ha) (λ_ q=>q) aV.lits (λ_ q=>q.elim) λ_ q=>q.elim
 |.sl E rows u::r,h,⟨a1,a2⟩=>aV.cons E (dP (nb r)) (h _ Tas).2.1 (ZkA (λx hx=>h x (Tal _ hx)) a2) (λb q=>⟨_,Tas,q⟩) (λb⟨x,hx,q⟩=>⟨x,Tal _ hx,q⟩) λb q⟨x,hx,q2⟩=>a1 x hx b q q2
 |.st E cs us::r,h,⟨a1,a2⟩=>aV.app (S1:=E) (ZkA (λx hx=>h x (Tal _ hx)) a2) (λb⟨x,hx,q⟩=>⟨x,Tal _ hx,q⟩) (h _ Tas).2.1 (λb q=>⟨_,Tas,q⟩) λb q⟨x,hx,q2⟩=>a1 x hx b q q2
def ZkB:∀{ss:List Seg}{y:Bk},y∈nb ss->∃E G,y=.set E G
 |.lits _::r,y,h=>ZkB (ss:=r) h
 |.sl _ _ _::r,y,h=>by
  exact m227
 |.st _ _ _::r,y,h=>by
  exact m227
 |[],_,h=>by cases h
def CN(ss:List Seg):jn (nb ss) [.set (dP (nb ss)) (λw=>aV w (xZ ss) (dP (nb ss)) (yd ss))]:=λw S h ha=>by
 have hv:=ZkA (w:=w) (S:=S) h ha;refine⟨λx hx=>?_,zy _,λg⟨x,hx,hg⟩=>?_⟩
 ·refine AM λhx=>?_;subst hx;refine⟨λb⟨y,hy,hg⟩=>?_,hv,aV.Κ _ _ _⟩;obtain⟨E',G',rfl⟩:=ZkB hy;exact(h _ hy).1 b hg
 ·refine AM λhx=>?_;subst hx;exact hg
def Fw{α:Type}(A:List α)(z x:α)(k:Nat)(i:Nat)(hi:i=A.length):(A++List.replicate (k+1) z).set i x=(A++[x])++List.replicate k z:=by
 subst hi;rw[List.set_append_right _ _ (Tai _),Nat.sub_self,List.replicate_succ,List.set_cons_zero,Tbg];rfl
def tks{α:Type}{l:List α}{i:Nat}{x:α}(h:l[i]?=some x):l.take (i+1)=l.take i++[x]:=by simp[List.take_add_one,h]
def AU(l:sh):l.take 0=[]:=rfl
def nla(l:sh):[]++l=l:=rfl
def ZG8(u:Value):aY [u]=[.A u]:=rfl
def Zdm{e:Env}{post:AS}(hb:qN e.P f)(h:rows.length<=maxLen->aI e f (.I (.sl rows)::post) r):aI e f (.I (.sl rows)::post) r:=⟨hb,λw S vs hS hE hG hv=>by
 match vs,hv with
 |v::vs,⟨h1,h2⟩ =>
  have pL:aR w S (.sl rows) v:=h1;obtain⟨A,n,cap,rfl,hn,hc,hm⟩:=pL.Η;exact(h om).2 w S _ hS hE hG ⟨h1,h2⟩⟩
def Ziz:ak []=0:=by simp[ak]
def Zsp:F->Bool
 |.int=>true
 |.bool=>true
 |_=>false
def ZIQ{fs:List F}:∀{r:we},fs.all Zsp->bd fs r->ag r=0:=by
 induction fs with
 |nil=>intro r _ h;cases r with
  |nil=>simp[ag]
  |cons _ _=>simp[bd]at h
 | cons f fs ih =>
  intro r hf h
  cases r with
  |nil=>simp[bd]at h
  |cons c cs =>
   simp only[bd]at h;simp only[List.all_cons,Tar]at hf;have h2:=ih hf.2 h.2
   cases f with
   |int=>obtain⟨n,rfl,_⟩:=vJ h.1;simp[ag,jE,h2]
   |bool=>obtain⟨n,rfl⟩:=Znn h.1;simp[ag,jE,h2]
   |str=>simp[Zsp]at hf
   |sl t=>simp[Zsp]at hf
def Zy1{fs:List F}(hf:fs.all Zsp):∀{rows:sh},bu fs rows->ak rows=0
 |[],_=>Ziz
 |r::rs,h=>by
  simp only[bu]at h;simp[ak,ZIQ hf h.1,Zy1 hf h.2]
section
variable{e:Env}{K:GR}{ay:Nat}{Q:PX->St->Prop}{s:d3}{m:it}
def naB(l:GL)(n:Nat):Bool:=match(l.take n).getLast? with
 |some o=>!jO o
 |none=>true
def ZvA{l:GL}{n:Nat}(hN:naB l n)(hB:eZ l.toArray n)(hp:an e (l.map (·.dst)) n l σ K):lg e l.toArray K l.length (Array.replicate l.length false) σ:=by
 intro he U w0 S0 nt a w hd hs;have:=ZiZ (ops:=l.toArray) he hB (λo ho=>by
  unfold naB at hN;have cr:(l.take n).getLast?=some o:=by simpa using ho
  rw[cr]at hN;simpa using hN) (K:=K) (Q:=QN e U w0 S0 nt K) (λa w y' hK mz=>⟨rfl,y',hK,mz⟩) hd hs (by simpa using hp)
 simpa using this
def gLu{id:Nat}{l l':GL}(n i k:Nat)(hK:an e ds n l' ⟨s,m⟩ (oP ay Q))(hl:dx i k l=l':=by simp only[dx];exact rfl)(bJ:l'.map (·.dst)=ds:=by simp only[Tbv,List.map_nil];exact rfl)
  (hc:FI l.toArray i k:=by decide +kernel) (hA:naB l' n:=by decide +kernel) (hr:eZ l'.toArray n:=by decide +kernel):de e ay (.region id l.toArray true) ⟨s,m⟩ Q:=by
 subst hl bJ;have h1:=Zkm hc (by have:=ZvA hA hr hK;rwa [Zit]at this);exact ZiV (ops:=l.toArray) (by simpa using h1)
end
def Zy2{e:Env}(h:aT e f args [] (su rows b)):aI e f args [.I (.sl rows),GW b]:=by
 refine⟨h.1,λw S vs hS hE hG hv=>(h.2 w S vs hS hE hG (λx hx=>by cases hx) trivial hv).mono ?_⟩;rintro en w' ⟨v,r,bj,h1,⟨u,E,rfl,aq,rfl⟩,h3,h4,h5,h6,h7⟩;obtain⟨⟨q1,q2,q3⟩,p2⟩:=h5 _ Tas;obtain⟨vs',d8,hd⟩:=h7
 match vs',hd with
 |[u0,u1],⟨hu,hb,_⟩ =>
  have hu:u0=u:=hu;subst hu;exact⟨v,h1,h3.noPin,h4,[u0,u1],d8,(bp.rep (.sl rows) E u0 q2).mono λg hg=>.inr ⟨(p2 g hg).elim (λ⟨x,hx,_⟩=>by cases hx) id,(q1 g hg).1⟩,hb,trivial⟩
section
variable{e:Env}{σ:St}{o:Oper}{K:GR}
def ZFg{t:TypeId}{n:Nat}{parts:Array (Nat×Operand)}(ho:o.op=.buildSlice t n parts)(bJ:o.dst=some d)(hb:jT e.P t=some (ety,sz,il))(hn:parts.size=n/\n*sz<=16777216)(h0n:0<n)(hp:wM sz 0 (parts.toList.map λp=>(p.1,aL σ.s p.2))=some rows)
  (hK:K ⟨(d,.Υ d)::bX d σ.s,(d,.Υ none ety sz rows)::aA d σ.m⟩):jW e o σ K:=by
 intro he U w0 S0 nt a w Q hd ⟨S,L,h1⟩;obtain⟨i,z,hu,hi,hz,bP,tw,sK,gv,_⟩:=A3 hb;obtain⟨q1,q2,q3,q4,q5⟩:=Zi9 (w:=w) (S:=S) (L:=L) (vs:=parts.toList.map λp=>a.eval p.2) hp (by simp) (mapv (λp hp=>h1.eval p.2));simp only[Tay,Array.length_toList,List.map_map]at q1 q3;generalize d8:(parts.toList.map λp=>a.eval p.2)=vs at q4 q5;have jN:vs.length=n:=by rw[<- d8];simp[hn.1]
 have tJ:(parts.map λ(p:Nat×Operand)=>(p.1,a.eval p.2)).toList=(vs.zipIdx 0).map λx=>(x.2,x.1):=by
  have:=Zk6 (parts.map λ(p:Nat×Operand)=>(p.1,a.eval p.2)).toList 0 (by simpa[Function.comp_def]using q3);rw[this,<- d8];simp[Function.comp_def]
 have sE:(Instr.buildSlice t n (parts.map λ(p:Nat×Operand)=>(p.1,a.eval p.2))).run e.P w=.ok (.slice (some ⟨w.heap.size,0,none⟩) n n) (w.alloc (.cells (vs.flatMap λv=>v.cells.toList).toArray ety)):=by
  have h0:¬n*i.size=0:=λh=>by rw[bP]at h;rcases Nat.mul_eq_zero.1 h with h|h<;>omega
  exact m76
 have bh:(vs.flatMap λv=>v.cells.toList).length=n*sz:=by rw[q5.len,qL q2,q1,hn.1]
 have iq:∀j u,(vs.flatMap λv=>v.cells.toList)[j]?=some u->(w.alloc (.cells (vs.flatMap λv=>v.cells.toList).toArray ety)).cell? ⟨w.heap.size,0+j,none⟩=some u:=λj u hj=>by
  rw[Nat.zero_add];exact ZpG rfl (by simpa using hj)
 have xA:=heap_alloc_new w (.cells (vs.flatMap λv=>v.cells.toList).toArray ety);have pO:Below w.heap.size w (w.alloc (.cells (vs.flatMap λv=>v.cells.toList).toArray ety)):=yF w _;have hzW:(w.alloc (.cells (vs.flatMap λv=>v.cells.toList).toArray ety)).heap.size=w.heap.size+1:=by simp
 have ev:(w.alloc (.cells (vs.flatMap λv=>v.cells.toList).toArray ety)).drawn=w.drawn:=rfl;generalize hW:w.alloc (.cells (vs.flatMap λv=>v.cells.toList).toArray ety)=W at sE iq pO hzW xA ev;have hC:=h1.Ξ;have hg:e.G W:=he.Ε _ _ pO.size (λb hE=>pO.block b (Tbd (hC.ein b hE) hC.bsz)) hC.g;have u5:Kept e.D e.E w.heap.size w W:=Kept.of_below pO (λ_=>by rw[ev];exact Tai _)
 have aF:(execOp a.eval o).run e.P w=.ok (.value (.slice (some ⟨w.heap.size,0,none⟩) n n)) W:=by
  simp only[execOp,ho,Sem.run_bind];have e1:(parts.map λx=>match x with|(i,x)=>(i,a.eval x))=parts.map λ(p:Nat×Operand)=>(p.1,a.eval p.2):=rfl;rw[e1,sE];rfl
 have hS:∀b,S b->b<w.heap.size:=λb hb=>(hC.sin b hb).1;have hgv:gives e.P o a.eval w λv w'=>v=.slice (some ⟨w.heap.size,0,none⟩) n n/\w'=W:=by
  unfold gives;rw[aF];exact⟨rfl,rfl⟩
 refine ym hgv λv w'⟨e1,e2⟩=>⟨_,hK,?_⟩;subst e1 e2;rw[bJ];have hq5:aC w' S rows.flatten (vs.flatMap λv=>v.cells.toList):=aC.keep2 u5.size (hC.cell u5) (λ_ h=>h) q5;refine h1.bornE (hd d bJ) (τ:=none) (b':=0) (v':=.slice (some ⟨w.heap.size,0,none⟩) n n) (S':=S) (λ_ h=>h) (λ_ h=>.inl h) (λt=>.inl rfl) (λk x h=>h) (by simp) (by simp) ⟨u5.os,u5.tape,u5.output,u5.drawn,u5.size,λb hb hE=>u5.block b hb (λh=>hE (.inl h))⟩ hg ?_ (λg hg=>?_) (by simp[aw])
 ·simp only[b6,if_true];refine⟨by simp,gv,q2,.inr ⟨w.heap.size,n,(vs.flatMap λv=>v.cells.toList).toArray,by rw[q1,hn.1],h0n,om,λh=>by have:=hS _ h;omega,xA,om,?_,by simpa using bh,ct.of_flat (a8.of_vals _ _ 0 hq5 iq)⟩⟩;have:n*1<=n*sz:=Nat.mul_le_mul_left n gv;unfold maxLen;omega
 ·simp only[dh,if_true,aO]at hg;rw[if_neg om]at hg;injection hg with hg
  subst hg;exact .inr (Tai _)
end
def Df{e:Env}{K:GR}{os:GL}{t n:Nat}{p:String}{ed:Array Edge}{parts:List (Nat×Operand)}{s:d3}{m:it}(hK:an e ds 0 os ⟨(d,.Υ d)::s2,(d,.Υ none ety sz rows)::m2⟩ K)
  (hb:jT e.P t=some (ety,sz,il):=by exact iK) (hp:wM sz 0 (parts.map λp=>(p.1,aL s p.2))=some rows:=by exact jZ) (hs:bX d s=s2:=by exact dE) (hr:aA d m=m2:=by exact dE) (hn:parts.length=n/\n*sz<=16777216:=by decide) (h0n:0<n:=by decide):an e ds 0 (⟨some d,.buildSlice t n parts.toArray,ty,p,ed,none⟩::os) ⟨s,m⟩ K:=by
 subst hs hr;simp only[an]at hK⊢;exact vG rfl (ZFg (o:=⟨some d,.buildSlice t n parts.toArray,ty,p,ed,none⟩) rfl rfl hb (by simpa using hn) h0n (by simpa using hp) hK)
def Bp(m:it)(L:Lay)(b:Nat):Prop:=∃k bk,gm m k=some bk/\dh L k bk b
def ZIS(e:Env)(U:GO)(w0:World)(S0:GO)(m:it)(o:Oper)(ρ:Operand->A)(Φ:A->it->Prop)(ks:GN):Prop :=
 ∀(w:World)(S:GO)(L:Lay)(C':Operand->Value),Cls e U w0.heap.size S0 m w S L->Kept e.D (λb=>e.E b\/U b) w0.heap.size w0 w->(∀x,x∈o.op.operands->aw w S L (ρ x) (C' x)) ->
  gives e.P o C' w λv w'=>∃α mx,Φ α mx/\∃(S':GO)(L':Lay),(∀b,S' b->S b\/Bp m L b\/w.heap.size<=b)/\Cls e U w0.heap.size S0 mx w' S' L'/\Kept e.D (λb=>e.E b\/Bp m L b) w.heap.size w w'/\aw w' S' L' α v/\(∀x u,(∀k∈ks,¬vQ k x)->aw w S L x u->aw w' S' L' x u)/\∀k bk g,gm mx k=some bk->dh L' k bk g->w.heap.size<=g\/Bp m L g
def Fz(e:Env)(KS:GN)(o:Oper)(σ:St)(K:GR):Prop:=e.Ok->∃(Φ:A->it->Prop)(ks:GN),(∀α mx,Φ α mx->K ⟨aD σ.s o.dst α,mx⟩)/\(∀t,∀k∈ks,¬vQ k (gs σ.s t))/\(∀α mx,Φ α mx->∀k x,k∉KS->gm σ.m k=some x->gm mx k=some x)/\∀(U:GO)(w0:World)(S0:GO),ZIS e U w0 S0 σ.m o (aL σ.s) Φ ks
def iC.ext{e:Env}{U:GO}{base:Nat}{S0:GO}{m m':it}{o:Oper}{ρ:Operand->A}{α:A}(h:iC e U base S0 m o ρ α)(hm:∀k x,gm m k=some x->gm m' k=some x):iC e U base S0 m' o ρ α:=λw S L C' hC hr=>by
 have hC0:Cls e U base S0 m w S L:=⟨hC.sin,hC.sfr,hC.ein,hC.uin,hC.bsz,λk bk g hk=>hC.mine k bk g (hm k bk hk),λk bk hk=>hC.own k bk (hm k bk hk),λk k' x x' g h1 h2=>hC.inj k k' x x' g (hm _ _ h1) (hm _ _ h2),hC.g⟩;have:=h w S L C' hC0 hr;unfold gives at this⊢;revert this;generalize (execOp C' o).run e.P w=r;have hX:∀(v:Value)(w':World),(∃S':GO,((∀b,S b->S' b)/\∀b,S' b->S b\/w.heap.size<=b)/\Cls e U base S0 m w' S' L/\Kept e.D e.E w.heap.size w w'/\aw w' S' L α v)->∃S':GO,((∀b,S b->S' b)/\∀b,S' b->S b\/w.heap.size<=b)/\Cls e U base S0 m' w' S' L/\Kept e.D e.E w.heap.size w w'/\aw w' S' L α v:=λv w'⟨S',hS,h1,hk,ha⟩=>⟨S',hS,hC.later hk h1.g hS.1 (λb hb=>(hS.2 b hb).imp id λq=>⟨q,(h1.sin b hb).1⟩),hk,ha⟩
 intro h
 cases r with
 | ok x w' =>
  cases x<;>first
   |exact hX _ _ h
   |exact Calls.mono h λen w'⟨v,h1,h2⟩=>⟨v,h1,hX _ _ h2⟩
   |exact h.elim
 |halt x w'=>exact h.elim
def Zy3{P:Program}{o:Oper}{ρ:Operand->Value}{w:World}{R R':Value->World->Prop}(h:gives P o ρ w R)(hR:∀v w',R v w'->R' v w'):gives P o ρ w R':=by
 unfold gives at h⊢;revert h;generalize (execOp ρ o).run P w=r;intro h
 cases r with
 | ok x w' =>
  cases x<;>first
   |exact hR _ _ h
   |exact Calls.mono h λen w'⟨v,h1,h2⟩=>⟨v,h1,hR _ _ h2⟩
   |exact h.elim
 |halt x w'=>exact h.elim
def Kept.wide{D:Prop}{E E':GO}{n:Nat}{w:World}(h:Kept D E n w w')(hE:∀b,E b->E' b):Kept D E' n w w':=⟨h.os,h.tape,h.output,h.drawn,h.size,λb hb hn=>h.block b hb λq=>hn (hE b q)⟩
def yq.toN{e:Env}{KS:GN}{o:Oper}{K:GR}(h:yq e o σ K):Fz e KS o σ K:=λhe=>by
 obtain⟨α,h1,h2⟩:=h he;exact⟨λx mx=>x=α/\mx=σ.m,[],λx mx⟨hx,hm⟩=>by rw[hx,hm];exact h1,λt k hk=>(by cases hk),λx mx⟨_,hm⟩k y _ hy=>by rw[hm];exact hy,λU w0 S0 w S L C' hC _ hr=>Zy3 (h2 U w0.heap.size S0 w S L C' hC hr) λv w'⟨S',hS,zY,hk,ha⟩=>⟨α,σ.m,⟨rfl,rfl⟩,S',L,λb hb=>(hS.2 b hb).imp id .inr,zY,hk.wide λ_ q=>.inl q,ha,λx u _ hx=>hx.Ε hk.size (hC.cell hk) hS.1,λk bk g h1 h2=>.inr ⟨k,bk,h1,h2⟩⟩⟩
def cy(e:Env)(KS:GN)(ds:By):GL->St->(GR)->Prop
 |[],σ,K=>K σ
 | o::os,σ,K=>match o.guard with
  |none=>Fz e KS o σ (λy'=>cy e KS ds os y' K)
  |some (j,bN)=>match(ds[j]?.join).map (gs σ.s)with
   |some (.d (.I (.A (.bool b))))=>if b=bN then Fz e KS o σ (λy'=>cy e KS ds os y' K)else cy e KS ds os ⟨aD σ.s o.dst .no,σ.m⟩ K
   |some .no=>cy e KS ds os ⟨aD σ.s o.dst .no,σ.m⟩ K
   |_=>False
def fS:GN->GL->GL
 |[],_=>[]
 |i::D,l=>match l[i]? with
  |some o=>o::fS D l
  |none=>fS D l
def ZlY{l:GL}:∀{D:GN},(∀i∈D,i<l.length)->(fS D l).length=D.length/\∀(q i:Nat),D[q]?=some i->(fS D l)[q]?=l[i]?
 |[],_=>⟨rfl,λq i h=>by simp at h⟩
 |j::D,h=>by
  obtain⟨h1,h2⟩:=ZlY (l:=l) (D:=D) λi hi=>h i (Tal _ hi);have hj:=Taa (h j Tas);simp only[fS,hj];refine⟨by simp[h1],λq i hq=>?_⟩
  cases q with
  |zero=>simp only[Tat,Taq]at hq⊢;subst hq;rw[hj]
  |succ q=>simp only[Tau]at hq⊢;exact h2 q i hq
def zG(ops:Array Oper)(n:Nat)(D N:GN):Bool :=
 (List.range n).all (λi=>D.contains i != N.contains i)&&D.all (λi=>decide (i<n))&&N.all (λi=>decide (i<n))&&decide (D.Pairwise (· < ·))&&decide (N.Pairwise (· < ·)) &&
 D.all (λi=>match ops[i]? with
  |none=>false
  |some o=>o.guard.isNone&&(List.range n).all λj=>match ops[j]? with
   |none=>false
   |some p=>!(rx o).any (λt=>p.dst==some t)||D.contains j) &&
 (List.range N.length).all λq=>match N[q]?,N[q+1]? with
  |some i,some j=>Region.waitsFor .any ops j i
  |_,_=>true
section
variable{e:Env}{U:GO}{w0:World}{S0:GO}{nt:Nat}{ops:Array Oper}{n:Nat}
structure PartAt(ops:Array Oper)(n:Nat)(D N:GN):Prop where
 cov:∀i,i<n->(i∈D/\i∉N)\/(i∉D/\i∈N)
 dlt:∀i∈D,i<n
 nlt:∀i∈N,i<n
 dpw:D.Pairwise (· < ·)
 npw:N.Pairwise (· < ·)
 dg:∀i∈D,∀o,ops[i]?=some o->o.guard=none/\∀j p t,j<n->ops[j]?=some p->t∈rx o->p.dst=some t->j∈D
 nch:∀(q i j:Nat),N[q]?=some i->N[q+1]?=some j->Region.waitsFor .any ops j i=true
def zG.at'{D N:GN}(h:zG ops n D N):PartAt ops n D N:=by
 simp only[zG,Tar]at h;obtain⟨⟨⟨⟨⟨⟨h1,h2⟩,h3⟩,h4⟩,h5⟩,h6⟩,h7⟩:=h;refine⟨λi hi=>?_,λi hi=>?_,λi hi=>?_,of_decide_eq_true h4,of_decide_eq_true h5,λi hi o ho=>?_,λq i j hi hj=>?_⟩
 ·have:=List.all_eq_true.1 h1 i (List.mem_range.2 hi);by_cases hd:i∈D<;>by_cases hn:i∈N<;>simp[hd,hn]at this⊢
 ·simpa using List.all_eq_true.1 h2 i hi
 ·simpa using List.all_eq_true.1 h3 i hi
 ·have:=List.all_eq_true.1 h6 i hi;rw[ho]at this;simp only[Tar,Option.isNone_iff_eq_none]at this;refine⟨this.1,λj p t hj hp ht gn=>?_⟩;have h8:=List.all_eq_true.1 this.2 j (List.mem_range.2 hj);rw[hp]at h8;simp only[Bool.or_eq_true,Bool.not_eq_true']at h8;rcases h8 with h8|h8
  ·have:=List.any_eq_false.1 h8 t ht;simp[gn]at this
  ·simpa using h8
 ·have hq:q<N.length:=(Tad.1 hi).1;have:=List.all_eq_true.1 h7 q (List.mem_range.2 hq);rw[hi,hj]at this;exact this
def DAll(e:Env)(U:GO)(base:Nat)(S0:GO)(m:it)(ops:Array Oper)(D:GN)(s1:d3):Prop:=∀i∈D,∀o d,ops[i]?=some o->o.dst=some d->iC e U base S0 m o (aL s1) (gs s1 d)
def ZH3 {D N:GN} {m:it} {s:d3} {D':List A} (hH:nj ops n) (hP:PartAt ops n D N) (hn:n<=ops.size) (di:D'.length=D.length) (nu:qn e U w0.heap.size S0 m ops.toList (fS D ops.toList) s D') :
  DAll e U w0.heap.size S0 m ops D (after s (fS D ops.toList) D')/\∀t,(∀(i:Nat)(o:Oper),i∈D->ops[i]?=some o->o.dst≠some t)->gs (after s (fS D ops.toList) D') t=gs s t:=by
 have bP:ops.toList.length=ops.size:=by simp
 obtain⟨pl,pg⟩:=ZlY (l:=ops.toList) (D:=D) λi hi=>by have:=hP.dlt i hi;omega
 have lE:∀(q:Nat)(p:Oper),(fS D ops.toList)[q]?=some p->∃j,D[q]?=some j/\ops[j]?=some p:=λq p hq=>by
  have hql:q<D.length:=by have:=(Tad.1 hq).1;omega
  refine⟨D[q],Taa hql,?_⟩;have:=pg q _ (Taa hql);rw[hq]at this;simpa using this.symm
 refine⟨λi hi o d ho hd=>?_,λt ht=>Ck _ _ _ λp hp=>?_⟩
 ·obtain⟨q,hq⟩:=Tbl hi;have hqo:(fS D ops.toList)[q]?=some o:=by rw[pg q i hq];simpa using ho
  obtain⟨α,G8,aZ⟩:=nu.get q o hqo;obtain⟨hg,ph⟩:=hP.dg i hi o ho;unfold yI at aZ;rw[hg]at aZ;obtain⟨o',d',hA⟩:=nj.get hH (hP.dlt i hi);obtain rfl:o'=o:=by have:=hA.op;rw[ho]at this;injection this with this;exact this.symm
  have iX:d'=d:=by have:=hA.dst;rw[hd]at this;injection this with this;exact this.symm
  subst iX;have hgd:gs (after s (fS D ops.toList) D') d'=α:=Zd7 _ D' s q o' α hqo G8 hd λj p hj hp hpd=>by
   obtain⟨i',dR,et⟩:=lE j p hp;have aP:i'≠i:=λe'=>by
    subst e';have h1:=Tad.1 dR;have h2:=Tad.1 hq;have h3:=hP.dpw;rw[List.pairwise_iff_getElem]at h3;rcases Nat.lt_or_gt_of_ne hj with h4|h4
    ·have:=h3 j q h1.1 h2.1 h4;omega
    ·have:=h3 q j h2.1 h1.1 h4;omega
   exact(hA.dep i' p (hP.dlt i' (Tac dR)) et).1 aP hpd
  rw [hgd];have jq:∀x∈o'.op.operands,aL (after s ((fS D ops.toList).take q) (D'.take q)) x=aL (after s (fS D ops.toList) D') x:=λx hx=>by
   cases x with
   | tmp t =>
    simp only[aL];have ve:t∈rx o':=List.mem_filterMap.2 ⟨.tmp t,by simpa using hx,rfl⟩;have e1:after s (fS D ops.toList) D'=after (after s ((fS D ops.toList).take q) (D'.take q)) ((fS D ops.toList).drop q) (D'.drop q):=by
     rw[<- Zlq _ _ _ _ _ (by simp[di,pl]),Tbn,Tbn]
    rw[e1];refine(Ck _ _ _ λp hp gn=>?_).symm;obtain⟨r,hr⟩:=Tbl hp;rw[Tbb]at hr;obtain⟨j,hj,hpj⟩:=lE _ p hr;have hjD:=Tac hj;have hw:=(hA.dep j p (hP.dlt j hjD) hpj).2 t ve gn;obtain⟨ed,h1,h2,h3⟩:=hA.waits hw;have am:=hA.back ed h1 h2;rw[h3]at am;have h4:=Tad.1 hj;have h5:=Tad.1 hq;have h6:=hP.dpw;rw[List.pairwise_iff_getElem]at h6;rcases Nat.eq_zero_or_pos r with h7|h7
    ·subst h7;simp only[Nat.add_zero]at h4;have:=h4.2;have:=h5.2;omega
    ·have:=h6 q (q+r) h5.1 h4.1 om;omega
   |const v=>rfl
   |func f=>rfl
   |global g=>rfl
  intro w S L C' hC hr;exact aZ w S L C' hC λx hx=>by rw[jq x hx];exact hr x hx
 ·obtain⟨q,hq⟩:=Tbl hp;obtain⟨j,hj,hpj⟩:=lE q p hq;exact ht j p (Tac hj) hpj
structure InvN(e:Env)(KS:GN)(U:GO)(w0:World)(S0:GO)(nt:Nat)(m0:it)(ops:Array Oper)(n:Nat)(D N:GN)(s1:d3)(K:GR)(rest:GN)(s:d3)(m:it)(L:Lay)(aa:Array Bool)(a:Act)(w:World)(S:GO):Prop where
 ext:∀k x,gm m0 k=some x->gm m k=some x
 head:HeadInv .any ops n aa
 size:a.tmps.size=nt
 defers:a.defers=[]
 Ξ:Cls e U w0.heap.size S0 m w S L
 kept:Kept e.D (λb=>e.E b\/U b) w0.heap.size w0 w
 rel:∀t,(∀(i:Nat)(o:Oper),i∈D->aa.getD i false=false->ops[i]?=some o->o.dst≠some t)->aw w S L (gs s t) (a.tmps.getD t undef)
 same:∀t,(∀(i:Nat)(o:Oper),i∈N->ops[i]?=some o->o.dst≠some t)->gs s t=gs s1 t
 sub:∃pre,N=pre++rest
 lst:∀i∈N,aa.getD i false=false↔i∈rest
 run:cy e KS (ops.toList.map (·.dst)) (fS rest ops.toList) ⟨s,m⟩ K
section
variable{KS D N:GN}{m0 m m':it}{s1:d3}{K:GR}{L L':Lay}{rest:GN}{s:d3}{aa:Array Bool}{a:Act}{w w':World}{S S':GO}{i d:Nat}{o:Oper}{v:Value}
def InvN.un(hI:InvN e KS U w0 S0 nt m0 ops n D N s1 K rest s m L aa a w S)(hj:∀e'∈o.after,Region.binds .any e'->aa.getD e'.on false)(hA:HeadAt ops n i o d)(hw:Region.waitsFor .any ops i j):aa.getD j false:=by
 obtain⟨ed,h1,h2,h3⟩:=hA.waits hw;rw[<- h3];exact hj ed h1 h2
def InvN.opnd(hI:InvN e KS U w0 S0 nt m0 ops n D N s1 K rest s m L aa a w S)(hP:PartAt ops n D N)(hA:HeadAt ops n i o d)(hj:∀e'∈o.after,Region.binds .any e'->aa.getD e'.on false):∀x∈o.op.operands,aw w S L (aL s x) (a.eval x):=λx hx=>by
 cases x with
 |tmp t =>
  refine hI.rel t λj p hjD hl hp gn=>?_;have:=hI.un hj hA ((hA.dep j p (hP.dlt j hjD) hp).2 t (List.mem_filterMap.2 ⟨.tmp t,by simpa using hx,rfl⟩) gn);rw[hl]at this
  cases this
 |const v =>
  exact m73
 |func f =>
  exact m228
 |global g=>trivial
def InvN.putD (hI:InvN e KS U w0 S0 nt m0 ops n D N s1 K rest s m L aa a w S) (hP:PartAt ops n D N) (hA:HeadAt ops n i o d) (hi:i∈D) (hr:i∈Region.ready .any ops aa) (ep:d<nt)
  (hS:∀b,S b->S' b) (hC:Cls e U w0.heap.size S0 m w' S' L) (hk:Kept e.D e.E w.heap.size w w') (hv:aw w' S' L (gs s1 d) v):InvN e KS U w0 S0 nt m0 ops n D N s1 K rest s m L (aa.setIfInBounds i true) (a.put o.dst v) w' S':=by
 have am:d<a.tmps.size:=by rw[hI.size];exact ep
 have dD:i∉N:=λh=>(hP.cov i (hP.dlt i hi)).elim (λq=>q.2 h) λq=>q.1 hi;rw[hA.dst];refine⟨hI.ext,hI.head.set hr (hP.dlt i hi),by simp[Act.put,hI.size],by simp[Act.put,hI.defers],hC,hI.kept.trans ⟨hk.os,hk.tape,hk.output,hk.drawn,hk.size,λb hb hE=>hk.block b (by have:=hI.Ξ.bsz;omega) (λh1=>hE (.inl h1))⟩,λt ht=>?_,hI.same,hI.sub,λj hj=>?_,hI.run⟩
 ·rw[tY am];by_cases e':t=d
  ·subst e';rw[if_pos rfl,hI.same t λj p hj hp gn=>(hA.dep j p (hP.nlt j hj) hp).1 (λe'=>dD (e' ▸ hj)) gn];exact hv
  ·rw[if_neg e'];refine(hI.rel t λj p hj hl hp gn=>?_).Ε hk.size (hI.Ξ.cell hk) hS;by_cases fu:j=i
   ·subst fu;have:=hA.op;rw[hp]at this;injection this with this
    subst this;rw[hA.dst]at gn;injection gn with gn
    exact e' gn.symm
   ·exact ht j p hj (by rw[getD_set_ne false (Ne.symm fu)];exact hl) hp gn
 ·have fu:i≠j:=λe'=>dD (e' ▸ hj);rw[getD_set_ne false fu];exact hI.lst j hj
def InvN.putN(hI:InvN e KS U w0 S0 nt m0 ops n D N s1 K (i::rest) s m L aa a w S)(hP:PartAt ops n D N)(hA:HeadAt ops n i o d)(hr:i∈Region.ready .any ops aa)(ep:d<nt){α:A}
  (h0:∀k x,gm m0 k=some x->k∉KS) (hm:∀k x,k∉KS->gm m k=some x->gm m' k=some x) (hS:∀t u,aw w S L (gs s t) u->aw w' S' L' (gs s t) u) (hC:Cls e U w0.heap.size S0 m' w' S' L') (hk:Kept e.D (λb=>e.E b\/Bp m L b) w.heap.size w w') (hv:aw w' S' L' α v) (aF:cy e KS (ops.toList.map (·.dst)) (fS rest ops.toList) ⟨(d,α)::s,m'⟩ K):InvN e KS U w0 S0 nt m0 ops n D N s1 K rest ((d,α)::s) m' L' (aa.setIfInBounds i true) (a.put o.dst v) w' S':=by
 have am:d<a.tmps.size:=by rw[hI.size];exact ep
 obtain⟨pre,mU⟩:=hI.sub;have hiN:i∈N:=by rw[mU];simp
 have dD:i∉D:=λh=>(hP.cov i (hP.nlt i hiN)).elim (λq=>q.2 hiN) λq=>q.1 h;have mS:i∉rest:=λh=>by
  have:=hP.npw;rw[mU]at this;have:=(List.pairwise_append.1 this).2.1;have:=(List.pairwise_cons.1 this).1 i h;omega
 rw[hA.dst];refine⟨λk x h=>hm k x (h0 k x h) (hI.ext k x h),hI.head.set hr (hP.nlt i hiN),by simp[Act.put,hI.size],by simp[Act.put,hI.defers],hC,hI.kept.trans ⟨hk.os,hk.tape,hk.output,hk.drawn,hk.size,λb hb hE=>hk.block b (by have:=hI.Ξ.bsz;omega) (λh1=>h1.elim (λq=>hE (.inl q)) λ⟨k,bk,q1,q2⟩=>(hI.Ξ.mine k bk b q1 q2).elim (λq=>om) λq=>hE (.inr q))⟩,λt ht=>?_,λt ht=>?_,⟨pre++[i],by rw[mU];simp⟩,λj hj=>?_,aF⟩
 ·rw[tY am];simp only[gs];by_cases e':t=d
  ·rw[if_pos e',if_pos e'];exact hv
  ·rw[if_neg e',if_neg e'];refine hS t _ (hI.rel t λj p hj hl hp gn=>?_);have fu:i≠j:=λe''=>dD (e'' ▸ hj);exact ht j p hj (by rw[getD_set_ne false fu];exact hl) hp gn
 ·have:t≠d:=λe'=>ht i o hiN hA.op (by rw[hA.dst,e']);simp only[gs,this,if_false];exact hI.same t ht
 ·by_cases fu:j=i
  ·subst fu;have hl:j<aa.size:=by rw[hI.head.size];exact(Tbm.1 hA.op).1
   simp[hl,mS]
  ·rw[getD_set_ne false (Ne.symm fu),hI.lst j hj];simp[fu]
def InvN.next(hI:InvN e KS U w0 S0 nt m0 ops n D N s1 K rest s m L aa a w S)(hP:PartAt ops n D N)(hA:HeadAt ops n i o d)(hi:i∈N)(iZ:aa.getD i false=false)(hj:∀e'∈o.after,Region.binds .any e'->aa.getD e'.on false):∃r,rest=i::r:=by
 have DJ:=(hI.lst i hi).1 iZ;obtain⟨pre,mU⟩:=hI.sub
 cases rest with
 |nil=>cases DJ
 | cons r0 r =>
  by_cases e':r0=i
  ·exact⟨r,by rw[e']⟩
  ·exfalso;obtain⟨q,hq⟩:=Tbl ((Tbh.1 DJ).resolve_left λe''=>e' e''.symm);have h1:N[pre.length+(q+1)]?=some i:=by rw[mU,Tbr om];simpa using hq
   obtain⟨y,hy⟩:∃y,(r0::r)[q]?=some y:=⟨(r0::r)[q]'(by have:=(Tad.1 hq).1;simp;omega),Taa _⟩;have h2:N[pre.length+q]?=some y:=by rw[mU,Tbr om];simpa using hy
   have h4:=hI.un hj hA (hP.nch (pre.length+q) y i h2 h1);have h5:=(hI.lst y (Tac h2)).2 (Tac hy);rw[h5]at h4
   cases h4
end
section
variable{KS D N:GN}{m0:it}{s1:d3}{K:GR}{Q:Exit->Act->World->Prop}{J:it->Lay->Array Bool->Act->World->(GO)->Prop}
def GoD(e:Env)(KS:GN)(U:GO)(w0:World)(S0:GO)(nt:Nat)(m0:it)(ops:Array Oper)(n:Nat)(D N:GN)(s1:d3)(K:GR)(J:it->Lay->Array Bool->Act->World->(GO)->Prop)(Q:Exit->Act->World->Prop):Prop :=
 ∀(rest:GN)(s:d3)(m:it)(L:Lay)(aa:Array Bool)(a:Act)(w:World)(S:GO)(i:Nat)(o:Oper)(d:Nat),InvN e KS U w0 S0 nt m0 ops n D N s1 K rest s m L aa a w S->J m L aa a w S->HeadAt ops n i o d->i∈D->i∈Region.ready .any ops aa->d<nt ->
  (∀x∈o.op.operands,aw w S L (aL s1 x) (a.eval x))->iC e U w0.heap.size S0 m o (aL s1) (gs s1 d)->o.wp e.P a w (λa' w'=>∃S',InvN e KS U w0 S0 nt m0 ops n D N s1 K rest s m L (aa.setIfInBounds i true) a' w' S'/\J m L (aa.setIfInBounds i true) a' w' S') Q
def ZFh(hP:PartAt ops n D N):GoD e KS U w0 S0 nt m0 ops n D N s1 K (λ_ _ _ _ _ _=>True) Q :=
 λrest s m L aa a w S i o d hI _ hA hi hr ep bE hG=>ym (hG w S L a.eval hI.Ξ bE) λv w'⟨S',hS,hC,hk,hv⟩=>⟨S',hI.putD hP hA hi hr ep hS.1 hC hk hv,trivial⟩
def Zni (h0:∀k x,gm m0 k=some x->k∉KS) (he:e.Ok) (hH:nj ops n) (hP:PartAt ops n D N) (hn:n<=ops.size) (hs:n<ops.size->Region.sinkB .any ops n/\Region.chainB .any ops n) (rY:Region.seqB .any ops (ops.size-n) n (ni ops.size n))
  (bP:∀(i:Nat)(o:Oper)(d:Nat),i<n->ops[i]?=some o->o.dst=some d->d<nt) (hDA:DAll e U w0.heap.size S0 m0 ops D s1) (pR:GoD e KS U w0 S0 nt m0 ops n D N s1 K J Q)
  (hJ:∀(m m':it)(L L':Lay)(aa:Array Bool)(a:Act)(w w':World)(S S':GO)(i:Nat)(o:Oper)(d:Nat)(v:Value),J m L aa a w S->HeadAt ops n i o d->i∈N->d<a.tmps.size->Kept e.D (λb=>e.E b\/Bp m L b) w.heap.size w w'->(∀b,S' b->S b\/Bp m L b\/w.heap.size<=b)->(∀b,e.E b->b<w0.heap.size)->(∀k bk g,gm m' k=some bk->dh L' k bk g->w.heap.size<=g\/Bp m L g)->J m' L' (aa.setIfInBounds i true) (a.put o.dst v) w' S')
  (fq:∀s m L aa a w S,InvN e KS U w0 S0 nt m0 ops n D N s1 K [] s m L aa a w S->J m L aa a w S->(∀i,i<n->aa.getD i false)->wpList e.P ops Q (ops.toList.drop n) a w) :
  ∀(k:Nat)(rest:GN)(s:d3)(m:it)(L:Lay)(aa:Array Bool)(a:Act)(w:World)(S:GO),InvN e KS U w0 S0 nt m0 ops n D N s1 K rest s m L aa a w S->J m L aa a w S->(List.range n).countP (λi=>!aa.getD i true)=k->wpAny e.P .any ops Q (k+(ops.size-n)) aa a w
 | 0,rest,s,m,L,aa,a,w,S,hI,hJJ,hc=>by
  have hall:∀i,i<n->aa.getD i true:=λi hi=>by
   have:=List.countP_eq_zero.1 hc i (List.mem_range.2 hi);simpa using this
  have BF:∀i,i<n->aa.getD i false:=λi hi=>by
   rw[<- nG (by rw[hI.head.size];omega:i<aa.size)];exact hall i hi
  have hr:rest=[]:=by
   cases rest with
   |nil=>rfl
   |cons r0 r =>
    obtain⟨pre,mU⟩:=hI.sub;have hm:r0∈N:=by rw[mU];simp
    have h1:=(hI.lst r0 hm).2 Tas;rw[BF r0 (hP.nlt r0 hm)]at h1
    cases h1
  subst hr;have heq:=Zk1 hI.head hn hall;have jX:(ops.toList.drop n).length=ops.size-n:=by simp
  have hE:=fq s m L aa a w S hI hJJ BF;have:=wpAny_of_seq (md:=.any) (Q':=Q) (ops.toList.drop n) n aa a w (λj=>by simp[Tbb]) (by rw[jX,heq];exact rY) hE;rw[jX]at this;simpa using this
 | k+1,rest,s,m,L,aa,a,w,S,hI,hJJ,hc=>by
  obtain⟨i0,sH,jt⟩:∃i,i<n/\aa.getD i true=false:=by
   have:0<(List.range n).countP (λi=>!aa.getD i true):=om;obtain⟨i,hi,hp⟩:=List.countP_pos_iff.1 this;exact⟨i,List.mem_range.1 hi,by simpa using hp⟩
  rw[show k+1+(ops.size-n)=(k+(ops.size-n))+1 by omega];refine⟨λh0=>absurd h0 (Zh5 hH hI.head sH jt),λi hr=>?_⟩;obtain⟨iZ,oi,fU,hall⟩:=mem_ready.1 hr;have dD:i<n:=by
   rcases Nat.lt_or_ge i n with h|h
   ·exact h
   ·have uq:n<ops.size:=Tbf h (Tbm.1 fU).1;exact absurd hr (tail_waits (hs uq).1 (hs uq).2 uq hI.head _ i0 rfl sH jt i h)
  obtain⟨o,d,hA⟩:=nj.get hH dD;have hoo:oi=o:=by have:=hA.op;rw[fU]at this;injection this
  subst hoo;have iJ:i<aa.size:=by rw[hI.head.size];exact(Tbm.1 fU).1
  have nW:aa.getD i false=false:=by rw[<- nG iJ];exact iZ
  have ep:=bP i oi d dD fU hA.dst;have fH:(List.range n).countP (λj=>!(aa.setIfInBounds i true).getD j true)=k:=by
   have h1:(List.range n).countP (λj=>!(aa.setIfInBounds i true).getD j true)+1=(List.range n).countP (λj=>!aa.getD j true):=by
    have d5:=List.perm_cons_erase (List.mem_range.2 dD);rw[d5.countP_eq,d5.countP_eq,List.countP_cons,List.countP_cons];have jq:((List.range n).erase i).countP (λj=>!(aa.setIfInBounds i true).getD j true)=((List.range n).erase i).countP (λj=>!aa.getD j true):=by
     refine List.countP_congr λj hj=>?_;have aP:j≠i:=λe=>by
      subst e;exact List.Nodup.not_mem_erase (List.nodup_range) hj
     rw[getD_set_ne true (Ne.symm aP)]
    rw[jq,iZ];simp[iJ]
   omega
  have hops:=hI.opnd hP hA hall;have IH:=Zni h0 he hH hP hn hs rY bP hDA pR hJ fq k;unfold wpOp;simp only[fU];rcases hP.cov i dD with⟨hD,hnN⟩|⟨hnD,hN⟩
  ·obtain⟨hg,ph⟩:=hP.dg i hD oi fU;rw[if_pos (by simp[Region.wanted,hg]:Region.wanted oi (yielded ops a.tmps))];refine .inl (Oper.wp_mono (λa' w'⟨S',um,hJ'⟩=>IH rest s m L _ a' w' S' um hJ' fH) (pR rest s m L aa a w S i oi d hI hJJ hA hD hr ep (λx hx=>?_) ((hDA i hD oi d fU hA.dst).ext hI.ext)));have h1:=hops x hx
   cases x with
   |tmp t =>
    simp only[aL]at h1⊢
    rwa [hI.same t λj p hj hp gn=>?_]at h1
    have:=ph j p t (hP.nlt j hj) hp (List.mem_filterMap.2 ⟨.tmp t,by simpa using hx,rfl⟩) gn;exact(hP.cov j (hP.nlt j hj)).elim (λq=>q.2 hj) λq=>q.1 this
   |const v=>exact h1
   |func f=>exact h1
   |global g=>exact h1
  ·obtain⟨r,rfl⟩:=hI.next hP hA hN nW hall;have aF:=hI.run;have DT:fS (i::r) ops.toList=oi::fS r ops.toList:=by
    have:ops.toList[i]?=some oi:=by simpa using fU
    simp only[fS,this]
   rw[DT]at aF;have go:∀(Kx:GR),(∀y',Kx y'->cy e KS (ops.toList.map (·.dst)) (fS r ops.toList) y' K)->Fz e KS oi ⟨s,m⟩ Kx->oi.wp e.P a w (wpAny e.P .any ops Q (k+(ops.size-n)) (aa.setIfInBounds i true)) Q:=λKx hKx hq=>by
    obtain⟨Φ,ks,h1,nO,nv,h2⟩:=hq he;refine ym (h2 U w0 S0 w S L a.eval hI.Ξ hI.kept hops) λv w'⟨α,mx,G8,S',L',hS,hC,hk,hv,ht,hb⟩=>?_;have h3:=hKx _ (h1 α mx G8);rw[hA.dst]at h3;exact IH r _ _ _ _ _ w' S' (hI.putN hP hA hr ep h0 (nv α mx G8) (λt u h=>ht _ u (nO t) h) hC hk hv h3) (hJ m _ L L' aa a w w' S S' i oi d v hJJ hA hN (by rw[hI.size];exact ep) hk hS (λb hb=>hI.Ξ.ein b hb) hb) fH
   have skip:cy e KS (ops.toList.map (·.dst)) (fS r ops.toList) ⟨aD s oi.dst .no,m⟩ K->wpAny e.P .any ops Q (k+(ops.size-n)) (aa.setIfInBounds i true) (a.put oi.dst undef) w:=λh3=>by
    rw[hA.dst]at h3;exact IH r _ _ L _ _ w S (hI.putN hP hA hr ep h0 (λ_ _ _ h=>h) (λ_ _ h=>h) hI.Ξ (Kept.refl _ _ _ _) (show aw w S L .no undef from rfl) h3) (hJ m m L L aa a w w S S i oi d undef hJJ hA hN (by rw[hI.size];exact ep) (Kept.refl _ _ _ _) (λb hb=>.inl hb) (λb hb=>hI.Ξ.ein b hb) λk bk g h1 h2=>.inr ⟨k,bk,h1,h2⟩) fH
   simp only[cy]at aF
   cases hg:oi.guard with
   |none =>
    rw[hg]at aF;rw[if_pos (by simp[Region.wanted,hg]:Region.wanted oi (yielded ops a.tmps))];exact .inl (go _ (λ_ h=>h) aF)
   | some jw =>
    obtain⟨j,bN⟩:=jw;rw[hg]at aF;simp only at aF;obtain⟨DK,hjw⟩:=hA.guard j bN hg;have my:∀dj,((ops[j]?).bind (·.dst))=some dj->aw w S L (gs s dj) (a.tmps.getD dj undef):=λdj iI=>hI.rel dj λj' p mQ hl hp gn=>by
     obtain⟨p0,d0,xj⟩:=nj.get hH DK;have sF:d0=dj:=by have:=iI;rw[xj.op]at this;simp[xj.dst]at this;exact this
     by_cases BK:j'=j
     ·have:=hI.un hall hA hjw;rw[<- BK,hl]at this
      cases this
     ·exact absurd (by rw[gn,sF]) ((xj.dep j' p (hP.dlt j' mQ) hp).1 BK)
    split at aF
    ·rename_i b f8;simp only[Tav]at f8;obtain⟨dj,qV,lH⟩:=f8;have iI:((ops[j]?).bind (·.dst))=some dj:=by simpa using A8 qV
     have cv:=my dj iI;rw[lH]at cv;have h4:=ZiO cv.bool;have qF:Region.wanted oi (yielded ops a.tmps)=decide (b=bN):=by
      simp only[Region.wanted,hg,(by unfold yielded;rw[iI];simp only[Option.bind_some,h4]:yielded ops a.tmps j=some b)]
      cases b<;>cases bN<;>rfl
     rw[qF];by_cases jh:b=bN
     ·rw[if_pos jh]at aF;simp only[jh,decide_true,if_true];exact .inl (go _ (λ_ h=>h) aF)
     ·rw[if_neg jh]at aF;simp only[jh,decide_false,Tam,if_false];exact skip aF
    ·rename_i f8;simp only[Tav]at f8;obtain⟨dj,qV,lH⟩:=f8;have iI:((ops[j]?).bind (·.dst))=some dj:=by simpa using A8 qV
     have cv:=my dj iI;rw[lH]at cv;rw[ZiP hg iI cv];simp only[Tam,if_false];exact skip aF
    ·exact aF.elim
end
end
section
variable{e:Env}{K:GR}{l:GL}{n:Nat}{KS D N:GN}{σ:St}
def ZxP{m0:it}(G:St->St)(hG:∀s,G ⟨s,m0⟩=⟨s,σ.m⟩)(h0:∀k x,gm m0 k=some x->k∉KS/\gm σ.m k=some x)(hP:zG l.toArray n D N)(hB:eZ l.toArray n)(hp:an e (l.map (·.dst)) (D.length+1) (fS D l) ⟨σ.s,m0⟩ λG7=>cy e KS (l.map (·.dst)) (fS N l) (G G7) λH1=>an e (l.map (·.dst)) 0 (l.drop n) H1 K):lg e l.toArray K l.length (Array.replicate l.length false) σ:=by
 intro he U w0 S0 nt a w hd hs;have zZ:=zG.at' hP;simp only[eZ,Tar,Bool.or_eq_true,decide_eq_true_eq]at hB;obtain⟨⟨⟨hH,hn⟩,hsc⟩,rY⟩:=hB;have bP:l.toArray.size=l.length:=by simp
 obtain⟨S,L,h1⟩:=hs;obtain⟨pl,pg⟩:=ZlY (l:=l) (D:=D) λi hi=>by have:=zZ.dlt i hi;omega
 have et:an e (l.map (·.dst)) ((fS D l).length+1) (fS D l++[]) ⟨σ.s,m0⟩ (λG7=>cy e KS (l.map (·.dst)) (fS N l) (G G7) λH1=>an e (l.map (·.dst)) 0 (l.drop n) H1 K):=by rw[List.append_nil,pl];exact hp
 obtain⟨D',di,nu,jY⟩:=Cv (U:=U) he w0.heap.size S0 l [] 1 (fS D l) ⟨σ.s,m0⟩ (λh=>absurd h (by decide)) et;have DX:cy e KS (l.map (·.dst)) (fS N l) ⟨after σ.s (fS D l) D',σ.m⟩ (λH1=>an e (l.map (·.dst)) 0 (l.drop n) H1 K):=by
  rw[<- hG];exact jY
 rw[pl]at di;obtain⟨hDA,mT⟩:=ZH3 (ops:=l.toArray) hH zZ hn di (by simpa using nu);have iR:∀i o,l[i]?=some o->o∈l.toArray.toList:=λi o h=>by simpa using Tac h
 have nX:InvN e KS U w0 S0 nt m0 l.toArray n D N (after σ.s (fS D l) D') (λH1=>an e (l.map (·.dst)) 0 (l.drop n) H1 K) N (after σ.s (fS D l) D') σ.m L (Array.replicate l.length false) a w S :=
  ⟨λk x h=>(h0 k x h).2,⟨by simp,λj oj _ hl=>(by rw[getD_replicate_false]at hl;cases hl),λt _ ht=>getD_in (by simpa using ht) (getD_replicate_false _ _)⟩,h1.size,h1.defers,h1.Ξ,h1.kept,λt ht=>by
   have:=mT t λi o hi ho=>ht i o hi (getD_replicate_false _ _) ho;rw[this];exact h1.rel t,λ_ _=>rfl,⟨[],rfl⟩,λi hi=>⟨λ_=>hi,λ_=>getD_replicate_false _ _⟩,DX⟩
 have H:=Zni (e:=e) (Q:=QN e U w0 S0 nt K) (J:=λ_ _ _ _ _ _=>True) (λk x h=>(h0 k x h).1) he hH zZ hn (λam=>by
   rcases hsc with q|q
   ·omega
   ·exact q) rY (λi o d hi ho iX=>hd o (iR i o (by simpa using ho)) d iX) hDA (ZFh zZ) (λ_ _ _ _ _ _ _ _ _ _ _ _ _ _ _ _ _ _ _ _ _ _=>trivial) (λs m L aa a' w' S' hI _ hall=>?_) n N _ _ L _ a w S nX trivial ?_
 ·rw[bP]at H;rw[bP]at hn;rw[show n+(l.length-n)=l.length by omega]at H;exact H
 ·have eD:aS e U w0 S0 nt ⟨s,m⟩ a' w':=⟨S',L,⟨hI.Ξ,λt=>hI.rel t (λi o hi hl=>by rw[hall i (zZ.dlt i hi)]at hl;cases hl),hI.size,hI.defers,hI.kept⟩⟩;have hr:=hI.run;simp only[fS,cy]at hr;exact Zmj he l.toArray.toList (λa w y' k1 k2=>⟨rfl,y',k1,k2⟩) (l.toArray.toList.drop n) _ a' w' (λo ho=>hd o (List.mem_of_mem_drop ho)) eD (by simpa using hr)
 ·rw[List.countP_eq_length.2]
  ·simp
  ·intro i hi;have dR:=List.mem_range.1 hi;rw[nG (by rw[bP]at hn;simp;omega:i<(Array.replicate l.length false).size),getD_replicate_false];rfl
def ZH4(hP:zG l.toArray n D N)(hB:eZ l.toArray n)(hp:an e (l.map (·.dst)) (D.length+1) (fS D l) σ λG7=>cy e [] (l.map (·.dst)) (fS N l) G7 λH1=>an e (l.map (·.dst)) 0 (l.drop n) H1 K):lg e l.toArray K l.length (Array.replicate l.length false) σ :=
 ZxP (KS:=[]) id (λ_=>rfl) (λk x h=>⟨by simp,h⟩) hP hB hp
def ZH5{m0:it}(hm:kN KS σ.m=m0)(hP:zG l.toArray n D N)(hB:eZ l.toArray n)(hp:an e (l.map (·.dst)) (D.length+1) (fS D l) ⟨σ.s,m0⟩ λG7=>cy e KS (l.map (·.dst)) (fS N l) ⟨G7.s,σ.m⟩ λH1=>an e (l.map (·.dst)) 0 (l.drop n) H1 K):lg e l.toArray K l.length (Array.replicate l.length false) σ :=
 ZxP (λG7=>⟨G7.s,σ.m⟩) (λ_=>rfl) (λk x h=>by
  rw[<- hm,Zh4]at h;split at h
  ·cases h
  ·rename_i hn;exact⟨hn,h⟩) hP hB hp
variable{ay:Nat}{Q:PX->St->Prop}{s:d3}{m:it}{ds:By}{Ds Ns T:GL}
end
section
variable{e:Env}{KS:GN}{ds:By}{K:GR}
def ze(e:Env)(KS:GN)(ds:By)(K:GR):Res->Prop
 |.done σ=>K σ
 |.call q c args d _ os σ=>q=true/\∀(o:Oper)(ts:Array TypeId),o.op=.call ⟨.value c,args.toArray,ts⟩->o.dst=d->Fz e KS o σ (λy'=>cy e KS ds os y' K)
 |_=>False
def Znj{os:GL}{n q:Nat}{next:St->Res}(hn:qB n)(hq:qB q)(ih:∀σ,ze e KS ds K (next σ)->cy e KS ds os σ K){o:Oper}(h:ze e KS ds K (gJ e.P o.dst o.type q n os next o.op σ)):Fz e KS o σ (λy'=>cy e KS ds os y' K):=by
 unfold gJ at h;split at h
 ·rename_i t ho;unfold ql at h;split at h
  ·rename_i y' G6;rw[hq]at G6;simp at G6
  ·exact h.elim
 ·rename_i c args ts ho;exact h.2 o ts (by rw[ho]) rfl
 ·exact h.elim
 ·rename_i op G7 hne0 aP hne2 ho;unfold ql at h;split at h
  ·rename_i y' G6;rw[hn]at G6;exact(ZvX G6 (K:=λy'=>cy e KS ds os y' K) (ih y' h)).toN
  ·exact h.elim
def ZjJ:∀(os:GL)(n:Nat)(σ:St),os.length+1<n->ze e KS ds K (ig e.P ds n os σ)->cy e KS ds os σ K
 |[],n,σ,_,h=>h
 |⟨d,op,ty,i5,ui,none⟩::os,n,σ,hn,h=>Znj (o:=⟨d,op,ty,i5,ui,none⟩) (n:=n) (q:=n-1) (by cases n with|zero=>simp at hn|succ k=>rfl) (by match n,hn with|k+2,_=>rfl) (λσ h=>ZjJ os (n-1) σ (by simp only[Tag]at hn;omega) h) h
 | ⟨d,op,ty,i5,ui,some (j,bN)⟩::os,n,σ,hn,h=>by
  have ih:∀σ,ze e KS ds K (ig e.P ds (n-1) os σ)->cy e KS ds os σ K:=λσ h=>ZjJ os (n-1) σ (by simp only[Tag]at hn;omega) h;have hq:qB n:=by cases n with|zero=>simp at hn|succ k=>rfl
  simp only[cy];simp only[ig]at h;unfold wU at h;split at h
  ·rename_i b hb;simp only[hb];unfold C8 at h;split at h
   ·rename_i jh;rw[if_pos (by simpa using jh)];exact Znj (o:=⟨d,op,ty,i5,ui,some (j,bN)⟩) hq hq ih h
   ·rename_i jh;rw[if_neg (by simpa using jh)];exact ih _ h
  ·rename_i hb;simp only[hb];exact ih _ h
  ·exact h.elim
variable{n n':Nat}{os gZ:GL}{σ:St}{s1 s2 s3:d3}{m1 m2:it}
def ZDp(h:ig e.P ds (os.length+2) os σ=.done ⟨s1,m1⟩)(hK:K ⟨s1,m1⟩):cy e KS ds os σ K:=ZjJ os (os.length+2) σ om (by rw[h];exact hK)
def ZFi{c:Operand}{args:List Operand}{d:GM}{R:AS->Prop}(h:ig e.P ds (os.length+2) os σ=.call true c args d n' gZ ⟨s1,m1⟩)(h1:uK true c args ⟨s1,m1⟩=some (f,xs,⟨s2,m2⟩))(hc:fX e f xs R)(hK:∀r,R r->cy e KS ds gZ ⟨aD s2 d (aQ r),m2⟩ K):cy e KS ds os σ K:=by
 refine ZjJ os (os.length+2) σ om ?_;rw[h];refine⟨rfl,λo ts ho hd he=>?_⟩;obtain⟨caps,ys,hf,kg,bJ,rfl⟩:=Zgh h1;unfold eJ at hf;split at hf;rotate_left
 ·simp at hf
 injection hf with hf
 injection hf with e1 e2
 subst e1 e2;refine⟨λα mx=>mx=m1/\∃r,R r/\α=aQ r,[],λα mx⟨hm,r,hr,G8⟩=>by rw[G8,hd,hm];exact hK r hr,λt k hk=>(by cases hk),λα mx⟨hm,_⟩k y _ hy=>by rw[hm];exact hy,λU w0 S0 w S L C' hC _ hr=>?_⟩;obtain⟨mm1,mm2⟩:=Znq ho;obtain⟨us,hv,d7⟩:=EZ kg (hr c mm1);have bJ:dt w S ys (args.toArray.toList.map C'):=CB (by simpa using bJ) (by simp) (tR (λp hp=>hr p (mm2 p hp)))
 obtain⟨fF,ca⟩:=hc;have iH:=ca w S _ hC.sin (λb hb=>Tbd (hC.ein b hb) hC.bsz) hC.g (bJ.append (dt.caps d7));unfold gives;rw[Fa ho hv fF];exact iH.mono λen w'⟨v,r,h1,hR,h2,h3,h4⟩=>⟨v,h1,_,m1,⟨rfl,r,hR,rfl⟩,λb=>S b\/(w.heap.size<=b/\b<w'.heap.size),L,λb hb=>hb.elim .inl (λq=>.inr (.inr q.1)),hC.later h2 h3 (λb hb=>.inl hb) (λb hb=>hb),h2.wide λ_ q=>.inl q,Fn h4,λx u _ hx=>hx.Ε h2.size (hC.cell h2) λb hb=>.inl hb,λk bk g q1 q2=>.inr ⟨k,bk,q1,q2⟩⟩
def ZFj {c:Operand} {args:List Operand} {f:FuncId} {xs:AS} {d:GM} {pm:GQ} {m3:it} {R:AS->GQ->Prop} (ks bZ:GN) (h:ig e.P ds (os.length+2) os σ=.call true c args d n' gZ ⟨s1,m1⟩) (h1:uK true c args ⟨s1,m1⟩=some (f,xs,⟨s2,m2⟩)) (hc:aT e f xs pm R) (gV:ei m2 ks=some pm) (hpn:pm.all pinned) (hn:ks.Nodup) (wt:(ks++bZ).all KS.contains) (uo:pC (ks++bZ) s2=s2) (DN:kN (ks++bZ) m2=m3) (hK:∀r bj,R r bj->cy e KS ds gZ ⟨aD s2 d (aQ r),aM bZ bj++m3⟩ K):cy e KS ds os σ K:=by
 refine ZjJ os (os.length+2) σ om ?_;rw[h];refine⟨rfl,λo ts ho hd he=>?_⟩;obtain⟨caps,ys,hf,kg,bJ,rfl⟩:=Zgh h1;unfold eJ at hf;split at hf;rotate_left
 ·simp at hf
 injection hf with hf
 injection hf with e1 e2
 subst e1 e2;subst DN;have hpn:∀x∈pm,pinned x:=λx hx=>List.all_eq_true.1 hpn x hx;have DF:∀t,∀k∈ks++bZ,¬vQ k (gs s1 t):=λt k hk=>by
  rcases ZiN t (ks++bZ) s1 with⟨_,q⟩|q
  ·exact q k hk
  ·rw[uo]at q;rw[q];exactλh=>h
 have hz:∀bj k x,gm (aM bZ bj++kN (ks++bZ) m1) k=some x->(gm (aM bZ bj) k=some x/\k∈ks++bZ/\x∈bj)\/(¬k∈ks++bZ/\gm (aM bZ bj) k=none/\gm m1 k=some x):=λbj k x hx=>by
  exact m25
 refine⟨λα mx=>∃r bj,R r bj/\α=aQ r/\mx=aM bZ bj++kN (ks++bZ) m1,ks++bZ,λα mx⟨r,bj,hr,G8,hm⟩=>by rw[G8,hd,hm];exact hK r bj hr,DF,λα mx⟨r,bj,_,_,hm⟩k y qX hy=>?_,λU w0 S0 w S L C' hC hkw hr=>?_⟩
 ·have gU:¬k∈ks++bZ:=λq=>qX (by simpa using List.all_eq_true.1 wt k q);rw[hm,Zok]
  cases sL:gm (aM bZ bj) k with
  |none=>simp only[Zh4];rw[if_neg gU];exact hy
  |some x=>exact absurd (Tbi.2 (.inr (A7 sL).1)) gU
 obtain⟨mm1,mm2⟩:=Znq ho;obtain⟨us,hv,d7⟩:=EZ kg (hr c mm1);have bJ:dt w S ys (args.toArray.toList.map C'):=CB (by simpa using bJ) (by simp) (tR (λp hp=>hr p (mm2 p hp)));obtain⟨fF,ca⟩:=hc;have lE:∀g,dP pm g->∃k x,k∈ks/\gm m1 k=some x/\dh L k x g:=λg⟨x,hx,hg⟩=>by
  obtain⟨k,hk,jG⟩:=zg gV x hx;exact⟨k,x,hk,jG,((yl (hC.own k x jG) (hpn x hx)).2 g).2 hg⟩
 have iH:=ca w S _ hC.sin (λb hb=>Tbd (hC.ein b hb) hC.bsz) hC.g (λx hx=>by
  obtain⟨k,hk,jG⟩:=zg gV x hx;have:=yl (hC.own k x jG) (hpn x hx);exact⟨this.1,λg hg=>hC.notE jG ((this.2 g).2 hg)⟩) (Zgf hC.own hC.inj hn gV hpn) (bJ.append (dt.caps d7))
 unfold gives;rw[Fa ho hv fF];refine iH.mono λen w'⟨v,r,bj,h1,hR,k1,k2,k3,k4,k5⟩=>⟨v,h1,aQ r,aM bZ bj++kN (ks++bZ) m1,⟨r,bj,hR,rfl,rfl⟩,?_⟩;have am:∀g,dP pm g->g<w.heap.size/\¬S g/\¬e.E g/\(w0.heap.size<=g\/U g):=λg hg=>by
  obtain⟨k,x,_,jG,hb⟩:=lE g hg;have:=(hC.own k x jG).lt hb;exact⟨this.1,this.2,hC.notE jG hb,hC.mine k x g jG hb⟩
 have hmb:∀g,dP pm g->Bp m1 L g:=λg hg=>by
  obtain⟨k,x,_,jG,hb⟩:=lE g hg;exact⟨k,x,jG,hb⟩
 have eD:Sim e U w0 S0 0 ⟨[],m1⟩ ⟨#[],[]⟩ w S L:=⟨hC,λt=>trivial,rfl,rfl,hkw⟩
 obtain⟨t1,t2,t3⟩:=eD.touchM (p:=λk=>k∈ks++bZ) (m':=aM bZ bj++kN (ks++bZ) m1) (w':=w') (S':=λb=>(S b\/dP pm b\/(w.heap.size<=b/\b<w'.heap.size))/\¬dP bj b) (L':=gx (aM bZ bj) L) (τ:=dP pm)
  (λb hs=>⟨.inl hs,λ⟨x,hx,hg⟩=>by
   rcases(k3 x hx).2 b hg with q|q
   ·exact(am b q).2.1 hs
   ·have:=(hC.sin b hs).1;omega⟩)
  (λb hb=>hb.1.elim .inl (λq=>.inr (q.elim (λq=>.inl ⟨q,(am b q).1⟩) .inr)))
  (λk x hp hx=>by
   rcases hz bj k x hx with⟨_,h2,_⟩|⟨_,_,h3⟩
   ·exact(hp h2).elim
   ·exact h3)
  (λk hp=>by
   have hzn:gm (aM bZ bj) k=none:=by
    cases sL:gm (aM bZ bj) k with
    |none=>rfl
    |some y=>exact(hp (Tbi.2 (.inr (A7 sL).1))).elim
   simp only[gx,hzn,and_self])
  (λg hg=>(am g hg).2)
  (λk x g hp hx hg hb=>by
   obtain⟨k',x',dZ,xx,cu⟩:=lE g hg;rcases hz bj k x hx with⟨_,h2,_⟩|⟨_,_,h3⟩
   ·exact hp h2
   ·have:=hC.inj k k' x x' g h3 xx hb cu;subst this;exact hp (Tbi.2 (.inl dZ)))
  k1 k2
  (λk x hp hx=>by
   rcases hz bj k x hx with⟨h2,_,h3⟩|⟨h2,_,_⟩
   ·have:=wJ (L:=L) (k3 x h3).1 h2;exact⟨this.1,λg hg=>(k3 x h3).2 g ((this.2 g).1 hg)⟩
   ·exact(h2 hp).elim)
  (λk k' x x' g hp et hx aW hb cu=>by
   rcases hz bj k x hx with⟨h2,_,h3⟩|⟨h2,_,_⟩
   ·rcases hz bj k' x' aW with⟨oC,_,tt⟩|⟨oC,_,_⟩
    ·have q:=wJ (L:=L) (k3 x h3).1 h2;have q':=wJ (L:=L) (k3 x' tt).1 oC;exact ZiM k4 h2 oC ((q.2 g).1 hb) ((q'.2 g).1 cu)
    ·exact(oC et).elim
   ·exact(h2 hp).elim)
 refine⟨λb=>(S b\/dP pm b\/(w.heap.size<=b/\b<w'.heap.size))/\¬dP bj b,gx (aM bZ bj) L,λb hb=>hb.1.elim .inl λq=>.inr (q.elim (λq=>.inl (hmb b q)) λq=>.inr q.1),t1,k1.wide λb q=>q.imp id (hmb b),Fn k5,λx u hk hx=>t3 x u (λk hp jG=>(hk k hp jG).elim) hx,λk bk g h2 h3=>?_⟩;rcases hz bj k bk h2 with⟨q1,_,q3⟩|⟨q0,q1,q2⟩
 ·have:=wJ (L:=L) (k3 bk q3).1 q1;exact((k3 bk q3).2 g ((this.2 g).1 h3)).elim (λq=>.inr (hmb g q)) .inl
 ·refine .inr ⟨k,bk,q2,?_⟩;have:dh (gx (aM bZ bj) L) k bk=dh L k bk:=Zqp (by simp only[gx,q1]) (by simp only[gx,q1])
  rwa [this]at h3
def tq{c:Operand}{args:List Operand}{d:GM}{m3:it}(ks bZ:GN)(hc:aT e f xs pm R)(hK:∀r bj,R r bj->cy e KS ds gZ ⟨aD s2 d (aQ r),aM bZ bj++m3⟩ K)(h:ig e.P ds (os.length+2) os σ=.call true c args d n' gZ ⟨s1,m1⟩:=by exact jZ)(h1:uK true c args ⟨s1,m1⟩=some (f,xs,⟨s2,m2⟩):=by exact jZ)
  (gV:ei m2 ks=some pm:=by exact j0) (hpn:pm.all pinned:=by exact j0) (hn:ks.Nodup:=by decide) (wt:(ks++bZ).all KS.contains:=by decide) (uo:pC (ks++bZ) s2=s2:=by exact j0) (DN:kN (ks++bZ) m2=m3:=by exact dE):cy e KS ds os σ K:=ZFj ks bZ h h1 hc gV hpn hn wt uo DN hK
def tr(hK:K ⟨s1,m1⟩)(h:ig e.P ds (os.length+2) os σ=.done ⟨s1,m1⟩:=by exact jZ):cy e KS ds os σ K:=ZDp h hK
def Di{c:Operand}{args:List Operand}{d:GM}{R:AS->Prop}(hc:fX e f xs R)(hK:∀r,R r->cy e KS ds gZ ⟨aD s2 d (aQ r),m2⟩ K)(h:ig e.P ds (os.length+2) os σ=.call true c args d n' gZ ⟨s1,m1⟩:=by exact jZ)(h1:uK true c args ⟨s1,m1⟩=some (f,xs,⟨s2,m2⟩):=by exact jZ):cy e KS ds os σ K:=ZFi h h1 hc hK
def uk(hK:K ⟨s1,m1⟩)(h:ig e.P ds k os σ=.done ⟨s1,m1⟩:=by exact jZ):an e ds k os σ K:=Fb h hK
end
section
variable{e:Env}{K:GR}{l l':GL}{σ:St}{s:d3}{m:it}{ds:By}{Ds Ns T:GL}
def zR(i k:Nat)(hK:lg e l'.toArray K l'.length (Array.replicate l'.length false) σ)(hl:dx i k l=l':=by simp only[dx];exact rfl)(hc:FI l.toArray i k:=by decide +kernel):lg e l.toArray K l.length (Array.replicate l.length false) σ:=by
 subst hl;exact Zkm hc (by rwa [Zit]at hK)
def gNn(n:Nat)(D N:GN)(hK:an e ds (D.length+1) Ds ⟨s,m⟩ λG7=>cy e [] ds Ns G7 λH1=>an e ds 0 T H1 K)(hD:fS D l=Ds:=by simp only[fS,Tau,Tat];exact rfl)(hN:fS N l=Ns:=by simp only[fS,Tau,Tat];exact rfl)(hT:l.drop n=T:=by simp only[List.drop_succ_cons,List.drop_zero];exact rfl)
  (bJ:l.map (·.dst)=ds:=by simp only[Tbv,List.map_nil];exact rfl) (hP:zG l.toArray n D N:=by decide +kernel) (hB:eZ l.toArray n:=by decide +kernel):lg e l.toArray K l.length (Array.replicate l.length false) ⟨s,m⟩:=by
 subst hD hN hT bJ;exact ZH4 hP hB hK
def xh{m0:it}(n:Nat)(KS D N:GN)(hK:an e ds (D.length+1) Ds ⟨s,m0⟩ λG7=>cy e KS ds Ns ⟨G7.s,m⟩ λH1=>an e ds 0 T H1 K)(hm:kN KS m=m0:=by exact dE)(hD:fS D l=Ds:=by simp only[fS,Tau,Tat];exact rfl)(hN:fS N l=Ns:=by simp only[fS,Tau,Tat];exact rfl)(hT:l.drop n=T:=by simp only[List.drop_succ_cons,List.drop_zero];exact rfl)
  (bJ:l.map (·.dst)=ds:=by simp only[Tbv,List.map_nil];exact rfl) (hP:zG l.toArray n D N:=by decide +kernel) (hB:eZ l.toArray n:=by decide +kernel):lg e l.toArray K l.length (Array.replicate l.length false) ⟨s,m⟩:=by
 subst hD hN hT bJ;exact ZH5 hm hP hB hK
end
def m185(h:G3:=by
 have hf:t.Y.any (bR x):=List.any_eq_true.2 ⟨a,sD,hh⟩;rw[hf];exact iF @ae @ae):G3:=h
def m175(b:G5)(h:Bx G5->G4:=by
 intro B0
 have hq:i+1<=t.Y.length/\(t.Y.take (i+1)).any (bR x)=false:=⟨am,by rw[List.take_add_one,ha,List.any_append,hall];simp[hh]⟩;refine fR @ae ?_;have F:=ai @gp @ae;exact B0.o hq F):G4:=h ⟨b⟩
def m129(h:G3:=by
 obtain rfl:i=t.Y.length:=by omega
 have q1:=lF t.Y.length t.Y.length;rw[Tap]at hall;rw[hall];exact fD (ai @q1 @ae)):G3:=h
def m92(h:G3:=by
 have h1:=iB t;have h2:t.Y.length<=au t.Y:=by
  generalize t.Y=l
  induction l with
  |nil=>simp
  |cons a l ih=>simp only[Tag,au];have:=iB a;omega
 omega):G3:=h
def okA{a:Tm}(h:bc t)(ha:a∈t.Y):bc a:=by
 obtain⟨op,nm,so,args⟩:=t;simp only[bc]at h;exact h.2.2.2.mem ha
def ZvC(hx:bc x):∀(n:Nat){t:Tm},ah t<n->bc t->ah t<=1000->aI e0 157 [.agg (ax x),.agg (ax t)] [GW (bR x t)]:=by
 intro n
 induction n with
 |zero=>exactλ{t}h _ _=>absurd h om
 |succ n IH =>
 intro t hn ht hs;rw[Zp3];refine gI (ts:=[.slot 4]) 4202815 Tryz.func157 ?_;refine cg 1 @ae @ae ((Fh hx ht)) ?_;by_cases h0:aU x t=0
 ·rw[decide_eq_true h0];exact iF @ae (ai @Bool.true_or @ae)
 rw[decide_eq_false h0,Bool.false_or];have di:t.Y.length<=1000:=by
  exact m92
 refine ec @ae @ae ?_;have F:=@ae;refine gL (ι:=Nat) [4,5,13,22] [] (λi=>[(5,GU i)]) (λi=>[]) (λi=>i<=t.Y.length/\(t.Y.take i).any (bR x)=false) (λi=>t.Y.length-i) (0) (⟨Taj _,rfl⟩) (λi hi=>?_);obtain⟨hi,hall⟩:=hi;by_cases am:i<t.Y.length;rotate_left
 ·exact m129
 have q1:=lT i t.Y.length;obtain⟨a,ha⟩:∃a,t.Y[i]?=some a:=⟨_,Taa am⟩;have sD:=Tac ha;have gp:=bW (k:=i) om;have hsa:=zo sD;refine cg 6 (ai @q1 @ae) (aj4 @ha @am @bw @ae) ((IH (t:=a) om (okA ht sD) om)) ?_
 cases hh:bR x a with
 |true =>
  exact m185
 |false =>
  refine m175 λhq F=>?_;exact AK
def ZkF{e:Env}{args':AS}(h:aT e f args pm R)(hd:∀(w:World)(S:GO)(vs:GK),dt w S args' vs->dt w S args vs):aT e f args' pm R :=
 ⟨h.1,λw S vs h1 h2 h3 h4 h5 h6=>h.2 w S vs h1 h2 h3 h4 h5 (hd w S vs h6)⟩
section
variable{e:Env}{KS:GN}{ds:By}{K:GR}{os:GL}{s:d3}{m:it}{d ty t ety sz il:Nat}{i5:String}{af:Array Edge}{x y:Operand}{rows ys:sh}
def AppX(m:it)(KS:GN)(ety sz:Nat)(rows ys:sh)(a:A):GM->Prop
 |none=>a=.d (.Ζ rows)/\(rows=[]\/ys≠[])
 |some k=>a=.Υ k/\(∃o,gm m k=some (.Υ o ety sz rows))/\k∈KS
def tU(k:GM)(m:it):it:=match k with
 |none=>m
 |some k=>aA k m
def ZxV{k:GM}{k':Nat}:gm (tU k m) k'=if k=some k' then none else gm m k':=by
 cases k with
 |none=>simp[tU]
 |some k =>
  simp only[tU,gq,Taq];by_cases h:k'=k
  ·rw[if_pos h,if_pos h.symm]
  ·rw[if_neg h,if_neg λq=>h q.symm]
def Zuo (k:GM) (hb:jT e.P t=some (ety,sz,il)) (hx:AppX m KS ety sz rows ys (fz m (aL s x)) k) (hy:oI m (fz m (aL s y))=some ys) (c9:ZaD sz rows) (oH:ZaD sz ys) (cw:rows.length+ys.length<=al)
  (nO:∀q∈d::k.toList,bX q s=s) (hd:gm m d=none) (hK:cy e KS ds os ⟨(d,.Υ d)::s,(d,.Υ none ety sz (rows++ys))::tU k m⟩ K) :
  cy e KS ds (⟨some d,.call ⟨.builtin .append,#[x,y],#[t,t]⟩,ty,i5,af,none⟩::os) ⟨s,m⟩ K:=by
 simp only[cy];intro he;have qX:∀t',∀q∈d::k.toList,¬vQ q (gs s t'):=λt' q hq=>by
  rcases Bb q t' s with⟨_,h⟩|h
  ·exact h
  ·rw[nO q hq]at h;rw[h];exactλh=>h
 refine⟨λα mx=>α=.Υ d/\mx=(d,.Υ none ety sz (rows++ys))::tU k m,d::k.toList,λα mx⟨h1,h2⟩=>by rw[h1,h2];exact hK,qX,λα mx⟨_,h2⟩k' bk dZ tv=>?_,λU w0 S0 w S L C' hC hkw hr=>?_⟩
 ·rw[h2];have tv:gm m k'=some bk:=tv;have aP:k'≠d:=λq=>by rw[q,hd]at tv;cases tv
  simp only[gm,if_neg aP];rw[ZxV,if_neg]
  ·exact tv
  ·intro q;subst q;exact dZ hx.2.2
 have ut:=sv hC (hr x (by simp[Op.operands,Call.operands]));have hqy:=sv hC (hr y (by simp[Op.operands,Call.operands]));have hyv:=Zk8 hC hy hqy (ov.1 oH);have hbv:eO w S ety sz rows (C' x)\/(aX w S (.Ζ rows) (C' x)/\(rows=[]\/ys≠[])):=by
  cases k with
  |none =>
   obtain⟨h1,h2⟩:=hx;rw[h1]at ut;exact .inr ⟨ut,h2⟩
  |some k =>
   obtain⟨h1,⟨o,h2⟩,_⟩:=hx;rw[h1]at ut;have ut:C' x=L.v k:=ut;rw[ut];exact .inl (hC.own k _ h2).2
 obtain⟨v',w',aF,f9,τ,hk,G9,eX⟩:=Zge (σ:=⟨s,m⟩) (ts:=#[t,t]) (t:=t) (ty:=ty) (v:=C' x) (u:=C' y) he hC rfl rfl hb hbv (ov.1 c9) (ov.1 oH) cw hyv;have H8:∀g,τ=some g->∃k' x',k=some k'/\gm m k'=some x'/\dh L k' x' g:=λg hg=>by
  cases k with
  |some k =>
   obtain⟨h1,⟨o,h2⟩,_⟩:=hx;rw[h1]at ut;have ut:C' x=L.v k:=ut;have gh:=(G9 g hg).1;rw[ut]at gh;exact⟨k,_,rfl,h2,gh⟩
  |none =>
   exfalso;obtain⟨q1,_,_,q3⟩:=G9 g hg;obtain⟨h1,h2⟩:=hx;rw[h1]at ut;obtain⟨r1,b,n,r2⟩:=ut;exact m42
 have I0:∀g,τ=some g->¬S g/\¬e.E g/\(w0.heap.size<=g\/U g):=λg hg=>by
  obtain⟨k',x',_,h2,h3⟩:=H8 g hg;exact⟨((hC.own k' x' h2).lt h3).2,hC.notE h2 h3,hC.mine k' x' g h2 h3⟩
 unfold gives;have nv:(execOp C' ⟨some d,.call ⟨.builtin .append,#[x,y],#[t,t]⟩,ty,i5,af,none⟩).run e.P w=.ok (.value v') w':=by
  simp only[execOp,resolve,invoke,builtin,Sem.run_bind,Sem.run_pure,Result.andThen_ok,List.map_toArray,Tbv,List.map_nil,aF]
 rw[nv];have eD:Sim e U w0 S0 0 ⟨[],m⟩ ⟨#[],[]⟩ w S L:=⟨hC,λt=>trivial,rfl,rfl,hkw⟩;have sE:=hC.bsz;have hz:∀k' x',gm ((d,.Υ none ety sz (rows++ys))::tU k m) k'=some x'->k'≠d->k≠some k'/\gm m k'=some x':=λk' x' h aP=>by
  simp only[gm,if_neg aP]at h;rw[ZxV]at h;split at h
  ·cases h
  ·rename_i q;exact⟨q,h⟩
 obtain⟨t1,t2,t3⟩:=eD.touchM (p:=λq=>q∈d::k.toList) (m':=(d,.Υ none ety sz (rows++ys))::tU k m) (w':=w') (S':=S) (L':=⟨λq=>if q=d then 0 else L.b q,λq=>if q=d then v' else L.v q⟩) (τ:=λg=>τ=some g)
  (λ_ h=>h) (λ_ h=>.inl h)
  (λk' x' hp h=>(hz k' x' h λq=>hp (by rw[q];exact Tas)).2)
  (λk' hp=>by
   have aP:k'≠d:=λq=>hp (by rw[q];exact Tas);simp only[if_neg aP,and_self])
  I0
  (λk' x' g hp h hg tv=>by
   obtain⟨k2,x2,h1,h2,h3⟩:=H8 g hg;have h4:=(hz k' x' h λq=>hp (by rw[q];exact Tas)).2;have:=hC.inj k' k2 x' x2 g h4 h2 tv h3;subst this;exact hp (by rw[h1];simp))
  (hk.wide λ_ q=>.inr q)
  (he.Ε _ _ hk.size (λb hE=>hk.block b (Tbd (hC.ein b hE) sE) λht=>(I0 b ht).2.1 hE) hC.g)
  (λk' x' hp h=>by
   by_cases aP:k'=d
   ·subst aP;simp only[gm,if_true,Taq]at h;subst h;refine⟨by simp only[b6,if_true];exact⟨by simp,f9⟩,λg hg=>?_⟩;simp only[dh,if_true]at hg;exact eX g hg
   ·have h1:=(hz k' x' h aP).1;rcases Tbh.1 hp with q|q
    ·exact absurd q aP
    ·exact absurd (by simpa using q) h1)
  (λk1 k2 x1 x2 g lP nA h1 h2 _ _=>by
   have qV:k1=d:=by
    by_cases aP:k1=d
    ·exact aP
    ·rcases Tbh.1 lP with q|q
     ·exact q
     ·exact absurd (by simpa using q) (hz k1 x1 h1 aP).1
   have lH:k2=d:=by
    by_cases aP:k2=d
    ·exact aP
    ·rcases Tbh.1 nA with q|q
     ·exact q
     ·exact absurd (by simpa using q) (hz k2 x2 h2 aP).1
   rw[qV,lH])
 refine⟨_,_,⟨rfl,rfl⟩,S,_,λb hb=>.inl hb,t1,hk.wide λb q=>.inr (by
  obtain⟨k',x',_,h2,h3⟩:=H8 b q;exact⟨k',x',h2,h3⟩),by simp[aw],λu v hu hv=>t3 u v (λq hq hkq=>(hu q hq hkq).elim) hv,λk' bk g h1 h2=>?_⟩
 by_cases aP:k'=d
 ·subst aP;simp only[gm,if_true,Taq]at h1;subst h1;simp only[dh,if_true]at h2;rcases eX g h2 with q|q
  ·obtain⟨k2,x2,_,h3,h4⟩:=H8 g q;exact .inr ⟨k2,x2,h3,h4⟩
  ·exact .inl q
 ·have h3:=(hz k' bk h1 aP).2;refine .inr ⟨k',bk,h3,?_⟩
  cases bk<;>simpa only[dh,if_neg aP]using h2
def gNac(hK:cy e KS ds os ⟨(d,.Υ d)::s,(d,.Υ none ety sz (rows++ys))::m⟩ K)(hb:jT e.P t=some (ety,sz,il):=by exact iK)(hx:fz m (aL s x)=.d (.Ζ rows):=by exact iK)(hy:oI m (fz m (aL s y))=some ys:=by exact iK)(aP:rows=[]\/ys≠[]:=by simp)(c9:ZaD sz rows:=by exact iK)(oH:ZaD sz ys:=by exact iK)(cw:rows.length+ys.length<=al:=by exact iK)(nO:bX d s=s:=by exact j0)(hd:gm m d=none:=by exact j0) :
  cy e KS ds (⟨some d,.call ⟨.builtin .append,#[x,y],#[t,t]⟩,ty,i5,af,none⟩::os) ⟨s,m⟩ K :=
 Zuo none hb ⟨hx,aP⟩ hy c9 oH cw (λq hq=>by rw[Tbk.1 hq];exact nO) hd hK
def Dj{m1:it}{o:Option (BY×Nat)}(k:Nat)(hK:cy e KS ds os ⟨(d,.Υ d)::s,(d,.Υ none ety sz (rows++ys))::m1⟩ K)(hb:jT e.P t=some (ety,sz,il):=by exact iK)(hx:fz m (aL s x)=.Υ k:=by exact iK)(hm:gm m k=some (.Υ o ety sz rows):=by exact oJ)(uo:k∈KS:=by decide)(hr:aA k m=m1:=by exact dE)(hy:oI m (fz m (aL s y))=some ys:=by exact iK)(c9:ZaD sz rows:=by exact iK)(oH:ZaD sz ys:=by exact iK)(cw:rows.length+ys.length<=al:=by exact iK)(nO:bX d s=s:=by exact j0)(hfk:bX k s=s:=by exact j0)(hd:gm m d=none:=by exact j0) :
  cy e KS ds (⟨some d,.call ⟨.builtin .append,#[x,y],#[t,t]⟩,ty,i5,af,none⟩::os) ⟨s,m⟩ K:=by
 subst hr;refine Zuo (some k) hb ⟨hx,⟨o,hm⟩,uo⟩ hy c9 oH cw (λq hq=>?_) hd hK;simp only[Option.toList,Tbh,List.not_mem_nil,or_false]at hq;rcases hq with rfl|rfl
 ·exact nO
 ·exact hfk
end
def m114(h:G3:=by
 refine(have F:=ae;Dk ?_);refine Exists.intro _ (ai (Wk.refl _) ?_);have F:=aj3 @w1 @w2 @ae;refine gG ?_;exact⟨(i+1,(us.set i y).set j x),jk,gw,gw,om⟩):G3:=h
def GC(b:G5)(h:Bx G5->G4:=by
 intro B0
 refine(have F:=(aj11 q1 l1 l2 qD g1 g2 g4 iJ @cc @px ae);ip ?_);exact B0.o):G4:=h ⟨b⟩
def Cg(ts us:AI)(i:Nat):Prop:=us.length=ts.length/\2*i<=ts.length/\∀k:Nat,k<ts.length->us[k]?=if k<i\/ts.length<k+i+1 then ts[ts.length-1-k]? else ts[k]?
def Cg.done{us:AI}{i:Nat}(h:Cg ts us i)(he:¬((i:Int)<ts.length-1-i)):us=ts.reverse:=by
 obtain⟨h1,h2,h3⟩:=h;refine List.ext_getElem? λk=>?_;by_cases hk:k<ts.length
 ·rw[List.getElem?_reverse hk,h3 k hk];split
  ·rfl
  ·have:k=ts.length-1-k:=om;rw[<- this]
 ·rw[List.getElem?_eq_none om,List.getElem?_eq_none (by rw[List.length_reverse];omega)]
def Cg.step{us:AI}{i:Nat}(h:Cg ts us i)(hj:j=ts.length-1-i)(am:i<j){y:Tm}(hx:us[i]?=some x)(hy:us[j]?=some y):Cg ts ((us.set i y).set j x) (i+1):=by
 obtain⟨h1,h2,h3⟩:=h;have ex:=h3 i om;have ey:=h3 j om;rw[if_neg om,hx]at ex;rw[if_neg om,hy]at ey;refine⟨by simp[h1],om,λk hk=>?_⟩;rw[List.getElem?_set,List.getElem?_set];by_cases e1:j=k
 ·rw[if_pos e1,if_pos (by simp;omega),if_pos (.inr om),ex];congr 1;omega
 ·rw[if_neg e1];by_cases e2:i=k
  ·rw[if_pos e2,if_pos om,if_pos (.inl om),ey];congr 1;omega
  ·rw[if_neg e2,h3 k hk];by_cases q:k<i\/ts.length<k+i+1
   ·rw[if_pos q,if_pos om]
   ·rw[if_neg q,if_neg om]
def Zuv(ts:AI)(hl:ts.length<=1000000)(a:BY)(cap:Nat):aT e0 126 [.I (.A (.slice a ts.length cap))] [.Υ (some (a,cap)) 46 4 (az ts)] (nF a cap ts.reverse):=by
 have w0:IntKind.i64.wrap ((ts.length:Int)-1)=(ts.length:Int)-1:=IntWalk.i64_in _ om;refine dX (ts:=[]) [1000] 525 Tryz.func126 ?_;refine fG (ai @w0 @ae) ?_;have F:=ai @Int.sub_zero @ae;refine gL (ι:=Nat×AI) [2,3,9] [1000] (λx=>[(2,GU x.1),(3,GU ((ts.length:Int)-1-x.1))]) (λx=>[(1000,.Υ (some (a,cap)) 46 4 (az x.2))]) (λx=>Cg ts x.2 x.1) (λx=>ts.length-x.1) ((0,ts)) (⟨rfl,Taj _,λk hk=>by rw[if_neg om]⟩) (λx hx=>?_)
 obtain⟨i,us⟩:=x;simp only at hx;have d7:=hx.1;have h2:=hx.2.1;dsimp only;by_cases am:(i:Int)<ts.length-1-(i:Int);rotate_left
 ·have q1:((i:Int)<ts.length-1-(i:Int))=False:=eq_false am;have hd:=hx.done am;subst hd;refine fG (ai @q1 @ae) ?_;exact(have F:=@aJ;zT (R:=nF a cap ts.reverse) [1000] ⟨rfl,rfl⟩)
 obtain⟨j,hj⟩:∃j,j=ts.length-1-i:=⟨_,rfl⟩;have ej:(ts.length:Int)-1-(i:Int)=j:=om;rw[ej]at am⊢;have q1:((i:Int)<j)=True:=eq_true am;obtain⟨x,g1⟩:∃t,us[i]?=some t:=⟨_,Taa om⟩;obtain⟨y,g2⟩:∃t,us[j]?=some t:=⟨_,Taa om⟩;have jk:Cg ts ((us.set i y).set j x) (i+1):=(hx.step hj om g1 g2);have w1:=bW (k:=i) om;have w2:IntKind.i64.wrap ((j:Int)-1)=(ts.length:Int)-1-((i+1:Nat):Int):=by rw[IntWalk.i64_in _ om];omega
 have l1:i<ts.length:=om;have l2:j<ts.length:=om;have qD:=d7;have iJ:∀k(t:Tm),(us.set k t).length=ts.length:=λk t=>by rw[Taz,d7]
 obtain⟨z,g4⟩:∃z,(us.set i y)[j]?=some z:=⟨_,Taa (by rw[Taz];omega)⟩;refine fN 3 (ai @q1 @ae) ?_;refine rE ?_;refine pb 0 ?_;refine pb 1 ?_;refine pb 2 ?_;refine pb 3 ?_;refine pb 4 ?_;refine pb 5 ?_;refine(have F:=(aj11 q1 l1 l2 qD g1 g2 g4 iJ @cc @px ae);gFi (rows:=az us) 6 j (by rw[cc];omega) ?_);refine pb 8 ?_;refine pb 9 ?_;refine(have F:=(aj11 q1 l1 l2 qD g1 g2 g4 iJ @cc @px ae);gFi (rows:=az us) 10 i (by rw[cc];omega) ?_)
 refine gFT ?_;refine gO2 7 11 ?_ ?_
 ·have dW:=aj11 q1 l1 l2 qD g1 g2 g4 iJ @cc @px ae;refine(have F:=dW;ip ?_);refine mt 11 ?_;refine(have F:=dW;ip ?_);refine mt 12 ?_;refine(have F:=dW;ip ?_);refine mt 13 ?_;refine(have F:=dW;ip ?_);refine mt 14 ?_;refine(have F:=dW;ip ?_)
  refine mt 15 ?_;refine(have F:=dW;ip ?_);exact m114
 ·refine GC ?_;refine mt 7 ?_;refine GC ?_;refine mt 12 ?_;refine GC ?_;refine mt 13 ?_;refine GC ?_;refine mt 14 ?_;refine GC ?_
  refine mt 15 ?_;refine GC ?_;exact m114
section
variable{e:Env}{σ:St}{o:Oper}{K:GR}
def Zy8{t t' el:TypeId}{x:Operand}(ho:o.op=.binOp .eql t x (.const (.slice none 0 0)) t')(ht:e.P.underlying t=some (.slice el))(hx:aL σ.s x=GY (.sl rows))(hK:∀b:Bool,(b->rows=[])->K ⟨aD σ.s o.dst (GX b),σ.m⟩):jW e o σ K:=by
 intro he U w0 S0 nt a w Q hd ⟨S,L,h1⟩;have aW:=h1.eval x;rw[hx]at aW;simp only[aw,aX,aR]at aW;obtain⟨A,n,cap,hv,hn,_,_,hp⟩:=aW;unfold Oper.wp;have aF:(execOp a.eval o).run e.P w=.ok (.value (.bool A.isNone)) w:=by
  have hc:a.eval (.const (.slice none 0 0))=.slice none 0 0:=rfl;simp only[execOp,ho,hv,hc,eqGuard];simp[Result.andThen];rw[Lib.run_eql_slice_nil w t el A n cap 0 0 ht]
 rw[aF,Oper.upon_value];refine⟨_,hK A.isNone (λhb=>?_),S,L,h1.put (by simp[aw,aX,aR]) hd⟩;rcases Nat.eq_zero_or_pos n with h0|h0
 ·exact Tao om
 ·obtain⟨b,off,rfl,_⟩:=hp h0
  cases hb
end
section
variable{e:Env}{K:GR}{ds:By}{os:GL}{s:d3}{m:it}
def gNil{t t':Nat}{p:String}{ed:Array Edge}{x:Operand}{el:TypeId}(ht:e.P.underlying t=some (.slice el))(hK:∀b:Bool,(b->rows=[])->an e ds 0 os ⟨(d,GX b)::s,m⟩ K)
  (hx:aL s x=GY (.sl rows):=by exact iK):an e ds 0 (⟨some d,.binOp .eql t x (.const (.slice none 0 0)) t',ty,p,ed,none⟩::os) ⟨s,m⟩ K :=
 Zgm rfl (Zy8 rfl ht hx hK)
end
def Ce(ty sz:Nat)(rows:sh)(r:AS)(pm:GQ):Prop:=∃a cap,r=[.I (.A (.slice a rows.length cap))]/\pm=[.Υ (some (a,cap)) ty sz rows]
def ZvD(h:az ts=[]):ts=[]:=by
 cases ts with
 |nil=>rfl
 |cons t ts=>simp[az]at h
def Zy9(ts:AI)(hl:ts.length<=1048576):aT e0 125 [.I (.sl (az ts))] [] (Ce 46 4 (az ts)):=by
 have l1:(ts.length<=al)=True:=eq_true (by unfold al;omega);refine dX (ts:=[.slot 2]) [] 21 Tryz.func125 ?_;refine dC 1 @ae 1 @ae ?_;refine(have F:=ae;gNil (rows:=az ts) (el:=46) (by kernel_rfl) λb hb=>?_)
 cases b with
 |true =>
  have hb:=ZvD (hb rfl);subst hb;refine ec @ae @ae ?_;refine pS 2 λa cap=>?_;exact(have F:=cc;ee (R:=Ce 46 4 (az [])) [2] ⟨a,cap,rfl,rfl⟩)
 |false =>
  refine fR @ae ?_;refine dC 3 @ae 1 @ae ?_;refine gO 5 46 4 ?_;have F:=ai @l1 @ae;refine gP 2 ?_;refine gS 7 λa cap=>?_;refine ec @ae @ae ?_;exact(have F:=cc;ee (R:=Ce 46 4 (az ts)) [7] ⟨a,cap,rfl,rfl⟩)
def ZvE:∀(n:Nat){t:Tm},ah t<n->ah t<=1000->aI e0 122 [.agg (ax x),.agg (ax t)] [GW (bR x t)]:=by
 intro n
 induction n with
 |zero=>exactλ{t}h _=>absurd h om
 |succ n IH =>
 intro t hn hs;rw[Zp3];have di:t.Y.length<=1000:=by
  exact m92
 refine gI (ts:=[.slot 4]) 555615 Tryz.func122 ?_;refine cg 1 @ae @ae ((Zgo x t)) ?_;by_cases h0:aU x t=0
 ·rw[decide_eq_true h0];exact iF @ae (ai @Bool.true_or @ae)
 rw[decide_eq_false h0,Bool.false_or];refine ec @ae @ae ?_;have F:=@ae;refine gL (ι:=Nat) [4,6,13,14,19] [] (λi=>[(13,GU i)]) (λi=>[]) (λi=>i<=t.Y.length/\(t.Y.take i).any (bR x)=false) (λi=>t.Y.length-i) (0) (⟨Taj _,rfl⟩) (λi hi=>?_);obtain⟨hi,hall⟩:=hi;by_cases am:i<t.Y.length;rotate_left
 ·exact m129
 have q1:=lT i t.Y.length;obtain⟨a,ha⟩:∃a,t.Y[i]?=some a:=⟨_,Taa am⟩;have sD:=Tac ha;have gp:=bW (k:=i) om;have hsa:=zo sD;refine cg 6 (aj5 @q1 @ha @am @bw @ae) @ae ((IH (t:=a) om om)) ?_
 cases hh:bR x a with
 |true =>
  exact m185
 |false =>
  refine m175 λhq F=>?_;exact AK
def CT(a:BY)(cap:Nat)(rows:sh):AS->AS->Prop
 |[],[]=>True
 |l::ls,d::ds=>(l=d\/(l=.I (.A (.slice a rows.length cap))/\d=.I (.sl rows)))/\CT a cap rows ls ds
 |_,_=>False
def CT.rel{a:BY}{cap ety sz:Nat}{rows:sh}:∀{lits data:AS},CT a cap rows lits data->∀(w:World)(S:GO)(vs:GK),eO w S ety sz rows (.slice a rows.length cap)->dt w S lits vs->dt w (λb=>S b\/aO (.slice a rows.length cap)=some b) data vs
 |[],[],_,w,S,[],_,_=>trivial
 |[],[],_,w,S,_::_,_,h=>h.elim
 |l::ls,d::ds,hr,w,S,[],_,h=>h.elim
 |l::ls,d::ds,⟨h1,h2⟩,w,S,v::vs,hp,⟨hv,d8⟩=>by
  refine⟨?_,CT.rel h2 w S vs hp d8⟩;rcases h1 with rfl|⟨rfl,rfl⟩
  ·exact m244
  ·have hv:v=.slice a rows.length cap:=hv;subst hv;exact hp.rep
 |[],_::_,h,_,_,_,_,_=>h.elim
 |_::_,[],h,_,_,_,_,_=>h.elim
def ZH9 {e:Env} {lits:AS} {a:BY} (h:aI e f data r) (hr:CT a cap rows lits data) (hl:r.all kq):aT e f lits [.Υ (some (a,cap)) ety sz rows] (λr' q=>r'=r/\q=[.Υ (some (a,cap)) ety sz rows]):=by
 refine⟨h.1,λw S vs hS hE hG gV ha hv=>?_⟩;obtain⟨hb,hbE⟩:=gV _ Tas;have hb:eO w S ety sz rows (.slice a rows.length cap):=hb;have eX:∀g,dP [.Υ (some (a,cap)) ety sz rows] g↔aO (.slice a rows.length cap)=some g:=λg=>⟨λ⟨x,hx,hg⟩=>by simp at hx;subst hx;exact hg,λh=>⟨_,Tas,h⟩⟩;have am:∀g,aO (.slice a rows.length cap)=some g->g<w.heap.size/\¬S g:=λg hg=>by
  obtain⟨_,_,h3⟩:=hb;rcases h3 with⟨hn,b,hv⟩|⟨g',bF,bf,hv,hc,gh,hs,_⟩
  ·injection hv with e1 e2 e3
   rw[e3]at hg
   cases a<;>simp[aO]at hg
  ·rw[hv]at hg;simp only[aO]at hg;split at hg
   ·cases hg
   ·injection hg with hg
    subst hg;exact⟨gh,hs⟩
 refine(h.2 w (λb=>S b\/aO (.slice a rows.length cap)=some b) vs (λb hb=>hb.elim (hS b) (λq=>⟨(am b q).1,hbE b q⟩)) hE hG (hr.rel w S vs hb hv)).mono ?_;rintro en w' ⟨v,h1,h3,h4,h7⟩;refine⟨v,r,_,h1,⟨rfl,rfl⟩,⟨h3.os,h3.tape,h3.output,h3.drawn,h3.size,λk hk hn=>h3.block k hk λq=>hn (.inl q)⟩,h4,λx hx=>?_,ha,ZtX hl h7⟩;refine AM λhx=>?_;subst hx;refine⟨?_,λg hg=>.inl ((eX g).2 hg)⟩
 show eO w' _ ety sz rows (.slice a rows.length cap);refine hb.Ε h3.size (λb o cu=>?_) (λb cu=>⟨.inl cu,λq=>(am b ((eX b).1 q)).2 cu⟩) (λg hg=>⟨h3.block g (am g hg).1 (hbE g hg),λq=>q.2 ((eX g).2 hg)⟩);exact rq (h3.block b (hS b cu).1 (hS b cu).2) o
section
variable{e:Env}{U:GO}{S0:GO}{o:Oper}
end
section
variable{e:Env}{ds:By}{K:GR}{n n':Nat}{os gZ:GL}{σ:St}
def gCS{c:Operand}{args:List Operand}{d:GM}{s1 s3:d3}{m1 m3:it}{a:BY}(k:Nat)(hc:aI e f data r)(hK:an e ds n' gZ ⟨aD s3 d (aQ r),aM [k] [.Υ (some (a,cap)) ety sz rows]++m3⟩ K)(h:ig e.P ds n os σ=.call false c args d n' gZ ⟨s1,m1⟩:=by exact jZ)(h1:uK false c args ⟨s1,m1⟩=some (f,xs,⟨s2,m2⟩):=by exact jZ)
  (hm:ei m2 [k]=some [.Υ (some (a,cap)) ety sz rows]:=by exact dE) (As:CT a cap rows xs data:=by simp[CT,F]) (hl:r.all kq:=by rfl) (hk:pC ([k]++[k]) s2=s3:=by exact dE) (hr:kN ([k]++[k]) m2=m3:=by exact dE):an e ds n os σ K :=
 ZsH [k] [k] h h1 (ZH9 hc As hl) hm rfl (by simp) hk hr λr' bj⟨h2,h3⟩=>by subst h2 h3;exact hK
end
structure UU where
 v:Nat->Nat->Value
 E:Nat->Nat->Prop
 s:Nat->AT
 a:Nat->BY
 c:Nat->Nat
def UU.z:UU:=⟨λ_ _=>.bool true,λ_ _=>False,λ_=>[],λ_=>none,λ_=>0⟩
def UU.ok(x:UU):Prop:=(∀c k,bQ (.A (x.v c k)))/\∀c,((x.s c).map aY).all (λr=>r.all bQ)=true
def UU.z_ok:UU.z.ok:=⟨λ_ _=>rfl,λ_=>rfl⟩
def UU.two(c:Nat)(a b:UU):UU:=⟨λd=>if d=c then a.v d else b.v d,λd=>if d=c then a.E d else b.E d,λd=>if d=c then a.s d else b.s d,λd=>if d=c then a.a d else b.a d,λd=>if d=c then a.c d else b.c d⟩
def UU.two_ok{c:Nat}{a b:UU}(ha:a.ok)(hb:b.ok):(UU.two c a b).ok:=⟨λd k=>by
 simp only[UU.two];split
 ·exact ha.1 d k
 ·exact hb.1 d k,λd=>by
 simp only[UU.two];split
 ·exact ha.2 d
 ·exact hb.2 d⟩
def UU.vs(us:GK)(E:GO):UU:=⟨λ_ k=>us.getD k (.bool true),λ_=>E,λ_=>[],λ_=>none,λ_=>0⟩
def UU.vs_ok{E:GO}(h:(aY us).all bQ):(UU.vs us E).ok:=⟨λc k=>by
 show bQ (.A (us.getD k (.bool true)))=true;rw[List.getD_eq_getElem?_getD]
 cases hk:us[k]? with
 |none=>rfl
 |some u=>exact List.all_eq_true.1 h (.A u) (Tbj.2 ⟨u,Tac hk,rfl⟩),λ_=>rfl⟩
def UU.v_ok{x:UU}(h:x.ok)(c k:Nat):bQ (.A (x.v c k)):=h.1 c k
def UU.sl(uss:AT)(a:BY)(cap:Nat)(E:GO):UU:=⟨λ_ _=>.bool true,λ_=>E,λ_=>uss,λ_=>a,λ_=>cap⟩
section
variable{X:Type}{L:GL}{cons:Nat->GM}{ok:Nat->X->Prop}{T:X->Tab}{i:Nat}{sb:d3}{mb:it}{s:d3}{m:it}{d k:Nat}{α:A}{bk bk2:Bk}
end
def tw2(a:Alg)(i:Nat)(x y:Int):Int:=(a.tables.getD i []).getD (x*a.size+y).toNat 0
def Inz(a:Alg)(x:Int):Prop:=0<=x/\x<a.size
structure Tab2(a:Alg)(i:Nat):Prop where
 lo:1<=a.size
 hi:a.size<=4
 tab:∃l,a.tables[i]?=some l/\l.length=a.size.toNat*a.size.toNat/\∀x∈l,Inz a x
def Tab2.get{a:Alg}{i:Nat}(h:Tab2 a i){x y:Int}(hx:Inz a x)(hy:Inz a y):∃l,a.tables[i]?=some l/\IntKind.i64.wrap (x*a.size)=x*a.size/\IntKind.i64.wrap (x*a.size+y)=x*a.size+y/\0<=x*a.size+y/\l[(x*a.size+y).toNat]?=some (tw2 a i x y)/\Inz a (tw2 a i x y):=by
 obtain⟨l,h1,h2,h3⟩:=h.tab;have d4:=h.lo;have lm:=h.hi;obtain⟨x0,x1⟩:=hx;obtain⟨y0,y1⟩:=hy;have m0:0<=x*a.size:=Int.mul_nonneg x0 om;have m1:x*a.size+a.size<=a.size*a.size:=by
  have:(x+1)*a.size<=a.size*a.size:=Int.mul_le_mul_of_nonneg_right om om;rw[Int.add_mul]at this;omega
 have m2:a.size*a.size<=16:=by
  have:=Int.mul_le_mul lm lm om om;omega
 have hl:(x*a.size+y).toNat<l.length:=by
  rw[h2];have e:((a.size.toNat*a.size.toNat:Nat):Int)=a.size*a.size:=by rw[Int.natCast_mul,Int.toNat_of_nonneg om]
  omega
 have e1:tw2 a i x y=l[(x*a.size+y).toNat]:=by
  unfold tw2;simp[List.getD_eq_getElem?_getD,h1,Taa hl]
 refine⟨l,h1,kJ rfl om om,kJ rfl om om,om,?_,?_⟩
 ·rw[e1];exact Taa hl
 ·rw[e1];exact h3 _ (List.getElem_mem hl)
structure TabN(z:Int)(n:Nat)(ac:Bool)(l:List Int):Prop where
 lo:1<=z
 hi:z<=4
 len:l.length=z.toNat ^ n
 all:∀x∈l,0<=x/\x<z
 le3:n<=3
 as2:ac->n=2
def In0(z x:Int):Prop:=0<=x/\x<z
def ZIa{z:Int}(h:1<=z)(n:Nat):((z.toNat ^ n:Nat):Int)=z ^ n:=by
 rw[Int.natCast_pow,Int.toNat_of_nonneg om]
def TabN.get{z:Int}{n:Nat}{ac:Bool}{l:List Int}(h:TabN z n ac l){k:Int}(h0:0<=k)(h1:k<z ^ n):l[k.toNat]?=some (l.getD k.toNat 0)/\In0 z (l.getD k.toNat 0):=by
 have hl:k.toNat<l.length:=by
  have:=ZIa h.lo n;have e:=h.len;omega
 rw[List.getD_eq_getElem?_getD,Taa hl];exact⟨rfl,h.all _ (List.getElem_mem hl)⟩
structure Wt where
 const:Int
 coefs:List Int
section
variable{g:Sgn}{ws:List Wt}{vs:AI}{t:Tm}{o:Opr}{d:Dcl}
end
section
variable{g:Sgn}{ws:List Wt}
end
section
variable{f g:Tm->Int}{vs:AI}
end
def m221(h:G3:=by
 refine gG ?_;exact⟨i+1,⟨am,Zru ho hall ⟨ha,om⟩⟩,gw,gw,om⟩):G3:=h
def m107(h:G3:=by
 obtain rfl:i=g.ops.length:=by omega
 rw[Tap]at hall;refine eH (om:¬((g.ops.length:Int)<g.ops.length)) @aJ (cS) ?_;exact dM @aJ (Zrt hall)):G3:=h
def zI(o:Opr):Bool:=!o.Θ&&decide (o.Ω=0)
noncomputable def s5(g:Sgn):Bool:=g.ops.all zI&&oS g
def Zrt(h:∀o∈g.ops,o.Θ=false/\o.Ω<=0):s5 g=oS g:=by
 cases hs:oS g with
 |false=>rw[s5,hs,Bool.and_false]
 | true =>
  have hg:=Zlo.1 hs;have:g.ops.all zI:=List.all_eq_true.2 λo ho=>by
   have h1:=(hg.axs o ho).lo;obtain⟨h2,h3⟩:=h o ho;simp only[zI,h2,Bool.not_false,Bool.true_and,decide_eq_true_eq];omega
  rw[s5,this,hs];rfl
def ZhK{o:Opr}(ho:o∈g.ops)(h:o.Θ\/o.Ω≠0):s5 g=false:=by
 have:g.ops.all zI=false:=(λ(h:zI o=false)=>List.all_eq_false.2 ⟨o,ho,by rw[h];exact Bool.false_ne_true⟩) (by
  rcases h with h|h
  ·simp[zI,h]
  ·simp[zI,h])
 rw[s5,this,Bool.false_and]
def Zru{l:List Opr}{i:Nat}{o:Opr}(ho:l[i]?=some o)(h:∀o∈l.take i,o.Θ=false/\o.Ω<=0)(h2:o.Θ=false/\o.Ω<=0):∀o∈l.take (i+1),o.Θ=false/\o.Ω<=0:=λo' cr=>by
 rw[vF ho]at cr;rcases Tbi.1 cr with h3|h3
 ·exact h o' h3
 ·rw[Tbk.1 h3];exact h2
section
variable{g:Sgn}
def ZuB(hg:kL g)(hl:g.ops.length<=1048576):aI e0 29 [.agg (ck g)] [GW (s5 g)]:=by
 have cS:=Zje hg;rw[ck]at cS⊢;refine gI 263127 Tryz.func29 ?_;refine fG @aJ ?_;have F:=@aJ;refine gL (ι:=Nat) [2,4,8,9,18] [] (λi=>[(8,GU i)]) (λi=>[]) (λi=>i<=g.ops.length/\∀o∈g.ops.take i,o.Θ=false/\o.Ω<=0) (λi=>g.ops.length-i) (0) (⟨Taj _,λo h=>by simp at h⟩) (λi hi=>?_);obtain⟨e7,hall⟩:=hi;by_cases am:i<g.ops.length;rotate_left
 ·exact m107
 refine m46 λq1 o ho nz hw=>?_
 cases ha:o.Θ with
 |true =>
  exact fT (aj5 @q1 @ho @cz @ha (ZhK nz (.inl ha)))
 |false =>
 by_cases hu:o.Ω=0
 ·have F:=aj6 @q1 @ho @cz @ha (eq_true hu:(o.Ω=0)=True) @hw;exact m221
 ·exact fT (aj6 @q1 @ho @cz @ha (eq_false hu:(o.Ω=0)=False) (ZhK nz (.inr hu)))
def ZuC(hg:kL g)(hl:g.ops.length<=1048576):aI e0 20 [.agg (ck g)] [GW (s5 g)]:=by
 have cS:=ZmY hg;rw[ck]at cS⊢;refine gI 33554703 Tryz.func20 ?_;refine fG @aJ ?_;have F:=@aJ;refine gL (ι:=Nat) [2,3,8,25] [] (λi=>[(3,GU i)]) (λi=>[]) (λi=>i<=g.ops.length/\∀o∈g.ops.take i,o.Θ=false/\o.Ω<=0) (λi=>g.ops.length-i) (0) (⟨Taj _,λo h=>by simp at h⟩) (λi hi=>?_);obtain⟨e7,hall⟩:=hi;by_cases am:i<g.ops.length;rotate_left
 ·exact m107
 refine m46 λq1 o ho nz hw=>?_
 cases ha:o.Θ with
 |true =>
  exact fT (aj5 @q1 @ho @cz @ha (ZhK nz (.inl ha)))
 |false =>
 by_cases hu:0<o.Ω
 ·exact fT (aj6 @q1 @ho @cz @ha (eq_true hu:(0<o.Ω)=True) (ZhK nz (.inr om)))
 ·have F:=aj6 @q1 @ho @cz @ha (eq_false hu:(0<o.Ω)=False) @hw;exact m221
end
def ZgJ{r:we}(h:bd (Zaf .bindings) r):∃r0,r=[.sl r0]/\bu (Zaf .binding) r0:=by
 obtain⟨c0,rfl⟩:=len1 h.len;simp only[Zaf,bd,and_true]at h;obtain⟨r0,rfl,g0⟩:=wL h;exact⟨r0,rfl,g0⟩
def Zqg{r0:sh}(g0:bu (Zaf .binding) r0):bd (Zaf .bindings) [.sl r0]:=by
 simp only[Zaf,bd,and_true];exact Br g0
def Eq(h:G3:=by
 rw[EW hr,Zdq];simp only[qh,kO];omega):G3:=h
def vn(b:G5)(h:Bx G5->G4:=by
 intro B0
 have F:=aj4 @ZcX @Zen @Int.add_zero @Int.natCast_zero;exact B0.o F):G4:=h ⟨b⟩
def B7(b:G5)(h:Bx G5->G4:=by
 intro B0
 refine vz [1000] [1000,1001] (Zf8 aP c9) ?_;exact B0.o):G4:=h ⟨b⟩
def m75(h:G3:=by
 rw[hl,<- hn];exact⟨_,Cl (λw h=>h) (bp.Κ _ _ _)⟩):G3:=h
def m69(b:G5)(h:Bx G5->G4:=by
 intro B0
 have w1:IntKind.i64.wrap (kk+1)=kk+1:=IntWalk.i64_in _ om;have w2:IntKind.i64.wrap (kk+1+1)=kk+1+1:=IntWalk.i64_in _ om;have w3:IntKind.i64.wrap (kk+1+1+1)=kk+1+1+1:=IntWalk.i64_in _ om;exact B0.o w1 w2 w3):G4:=h ⟨b⟩
def EI(h:G3:=by
 refine gG ?_;exact⟨(i+1,rf,E4,E6),⟨am,fh⟩,gw,gw,om⟩):G3:=h
def Gz(b:G5)(h:Bx G5->G4:=by
 intro B0
 have q1:=lT i rows.length;have q2:i<rows.length:=am;have hs:∀X:we,((us.map aY).set i X)[i]?=some X:=λX=>ZgK (by rw[on,hn];omega) X;exact B0.o q1 q2 hs):G4:=h ⟨b⟩
def EF(h:G3:=by
 rw[EW hr,Zdf,fv,Zfk om];simp only[uJ,GH,mkV,kO,Int.natCast_one];exact⟨_,hz⟩):G3:=h
def B4(b:G5)(h:Bx G5->G4:=by
 intro B0
 have rM:=Zcm rows (i+1);rw[Zcr hr,Zcr hu];refine vz [1001] [1001] (Zf9 rfl) ?_;rintro⟨⟩ jr;exact B0.o rM jr):G4:=h ⟨b⟩
def m21(b:G5)(h:Bx G5->G4:=by
 intro B0
 rw[Tap,List.take_of_length_le (Nat.le_of_eq hn)];refine fG (aj3 (lF rows.length rows.length) @hl @hn) ?_;exact B0.o):G4:=h ⟨b⟩
def B3(b:G5)(h:Bx G5->G4:=by
 intro B0
 obtain⟨r,hr⟩:∃r,rows[i]?=some r:=⟨_,Taa am⟩;obtain⟨u,hu⟩:∃u,us[i]?=some u:=⟨_,Taa om⟩;exact B0.o r hr u hu):G4:=h ⟨b⟩
def m9(h:G3:=by
 refine pE [1000,1002] [1000] fi ?_;have F:=hk;exact ee (R:=λr pm=>∃E',r=[GT (k+(ab rows:Nat))]/\pm=[.set E' (λw=>bp w (.sl (bY k rows)) E' (.slice a uss.length cap))]) [1000] ⟨E6,rfl,rfl⟩):G3:=h
def m5(b:G5)(h:Bx G5->G4:=by
 intro B0
 refine fG @aJ ?_;by_cases aP:rows=[]
 ·subst aP;refine vz [1000] [1000] Zha ?_;rintro⟨a,cap⟩ rfl;have F:=@hk;refine gL (ι:=Unit) [1,5,9] [] (λx=>[(5,GU 0),(1,GU k)]) (λx=>[]) (λx=>True) (λx=>0) (()) (trivial) (λx hx=>?_);have q2:((0:Int)<((0:Nat):Int))=False:=eq_false (by decide);refine fG (ai (eq_false (by decide):((0:Int)<0)=False) @q2) ?_;have F:=hk
  refine ee (R:=λr pm=>∃E',r=[GT (k+(ab []:Nat))]/\pm=[.set E' (λw=>bp w (.sl (bY k [])) E' (.slice a 0 cap))]) [1000] ⟨E,by simp only[ab,Int.natCast_zero,Int.add_zero];rfl,by simp only[bY];rfl⟩
 exact B0.o aP):G4:=h ⟨b⟩
def qQ(f:FuncId)(rows:sh):Prop:=∀(k:Int)(E:GO)(v:Value),0<=k->k+ab rows<=1000000000->aT e0 f [.I (.A v),GT k] [.set E (λw=>bp w (.sl rows) E v)] (λr pm=>∃E',r=[GT (k+ab rows)]/\pm=[.set E' (λw=>bp w (.sl (bY k rows)) E' v)])
def ZcX(k:Int):bY k []=[]:=by simp only[bY]
def Zen:ab []=0:=by simp only[ab]
def ZgK{α:Type}{l:List α}{i:Nat}(h:i<l.length)(x:α):(l.set i x)[i]?=some x:=by simp[h]
def ol{α:Type}(l:List α)(i:Nat)(x:α):(l.set i x).length=l.length:=Taz
def tW{α:Type}(l:List α)(i:Nat)(x y:α):(l.set i x).set i y=l.set i y:=List.set_set ..
def Zfk{α:Type}{l:List α}{i:Nat}{x:α}(h:i<l.length):(l.set i x).take (i+1)=l.take i++[x]:=by
 rw[EW (x:=x) (by simp[h]),List.take_set_of_le (Tai _)]
def Cy{α:Type}(l:List α)(i:Nat)(x:α):(l.set i x).drop (i+1)=l.drop (i+1):=List.drop_set_of_lt om
def Zzh (rows:sh) (aq:bu (Zaf .term) rows) (h:∀r∈rows,∀i0 t1 i2 r3,r=[GS i0,.A (.string t1),GS i2,.sl r3]->qQ 43 r3):qQ 43 rows:=by
 intro k E v hk hb;refine dX (ts:=[.slot 4]) [1000] 563 Tryz.func43 ?_;refine m5 λaP=>?_
 ·have c9:rowsLen 4 rows:=bu.Ι aq;refine B7 ?_;rintro⟨a,cap,ety,uss,E1⟩ ⟨rfl,hl,c8⟩;simp only at hl⊢;unfold maxLen at c8;refine pE [] [1002] vE ?_;refine vn λF=>?_;refine gL (ι:=Nat×AT×(GO)×(GO)) [1,5,9] [1000,1001,1002] (λx=>[(5,GU (x.1:Int)),(1,GU (k+(ab (rows.take x.1):Nat)))]) (λx=>[(1000,.Υ (some (a,cap)) ety 4 (x.2.1.map aY)),(1001,.set x.2.2.1 (λw=>bH w (rows.drop x.1) x.2.2.1 (x.2.1.drop x.1))),(1002,.set x.2.2.2 (λw=>bH w (bY k (rows.take x.1)) x.2.2.2 (x.2.1.take x.1)))]) (λx=>x.1<=rows.length/\x.2.1.length=rows.length) (λx=>rows.length-x.1) ((0,uss,E1,λ_=>False)) (⟨Taj _,hl⟩) (λx hx=>?_)
  obtain⟨i,us,E2,E3⟩:=x;obtain⟨hi,hn⟩:=hx;simp only at hi hn;dsimp only;by_cases am:i<rows.length
  ·refine B3 λr hr u hu=>?_;obtain⟨i0,t1,i2,r3,rfl,_,_,_,g3⟩:=zk (aq.get hr);have hm:=h _ (Tac hr) i0 t1 i2 r3 rfl;have np:ab (rows.take (i+1))=ab (rows.take i)+(3+ab r3):=by
    exact Eq
   refine B4 λrM jr=>?_;obtain⟨u3,rfl⟩:∃u3,u=[.int .i64 i0,.string t1,.int .i64 i2,u3]:=by
    match u,jr with
    |[_,_,_,u3],⟨rfl,rfl,rfl,_⟩=>exact⟨u3,rfl⟩
   refine vz (f:=λ(x:(GO)×(Nat->Nat->Prop))=>[.set x.1 (λw=>bH w (rows.drop (i+1)) x.1 (us.drop (i+1))),.set (x.2 0) (λw=>bp w (.sl r3) (x.2 0) u3)]) [1001] [1001,1003] (Zhb rfl) ?_;rintro⟨E4,Es⟩ -;dsimp only;generalize fv:k+(ab (rows.take i):Int)=kk;refine Gz λq1 q2 hs=>?_
   refine m69 λw1 w2 w3=>?_;have w4:IntKind.i64.wrap ((i:Int)+1)=(i:Int)+1:=IntWalk.i64_in _ om;have dW:=aj13 @q1 @hl @hn @hu @zq @on @ol @hs @w1 @w2 @w3 @q2 @tW;refine ce dW @q1 (Co (kk+1) om om) (aj9 @hl @hn @hu @zq @on @ol @hs @q2 @tW) ?_
   refine fB dW ?_;have F:=aj13 @q1 @hl @hn @hu @zq @on @ol @hs @w1 @w2 @w3 @q2 @tW;refine cQ [1003] [1003] (hm (kk+1+1+1) (Es 0) u3 om om) ?_;rintro r pm ⟨E5,rfl,rfl⟩;refine m7 ?_;refine fR @q1 ?_;obtain⟨E6,fi⟩:∃E6,jn [.set E3 (λw=>bH w (bY k (rows.take i)) E3 (us.take i)),.set E5 (λw=>bp w (.sl (bY (kk+1+1+1) r3)) E5 u3)] [.set E6 (λw=>bH w (bY k (rows.take (i+1))) E6 ((us.set i [.int .i64 kk,.string (fW (kk+1)),.int .i64 (kk+1+1),u3]).take (i+1)))]:=by
    have hz:=Bl (E:=E3) (done:=bY k (rows.take i)) (ud:=us.take i) (cs:=[GS kk,.A (.string (fW (kk+1))),GS (kk+1+1),.sl (bY (kk+1+1+1) r3)]) (us:=[.int .i64 kk,.string (fW (kk+1)),.int .i64 (kk+1+1),u3]) (Es:=λ_=>E5) rfl ⟨rfl,rfl,rfl,trivial⟩;exact EF
   refine pE [1002,1003] [1002] fi ?_;have e1:((us.set i [.int .i64 kk,.string (fW (kk+1)),.int .i64 (kk+1+1),u3]).map aY)=(us.map aY).set i [GS kk,.A (.string (fW (kk+1))),GS (kk+1+1),.A u3]:=by rw[List.map_set,zq]
   have e2:=Cy us i [.int .i64 kk,.string (fW (kk+1)),.int .i64 (kk+1+1),u3];have e5:k+(ab (rows.take (i+1)):Int)=kk+1+1+1+(ab r3:Int):=by rw[np];omega
   have fh:(us.set i [.int .i64 kk,.string (fW (kk+1)),.int .i64 (kk+1+1),u3]).length=rows.length:=by rw[ol,hn]
   generalize us.set i [.int .i64 kk,.string (fW (kk+1)),.int .i64 (kk+1+1),u3]=rf at e1 e2 fh⊢;rw[<- e1,<- e2];have F:=aj3 @w4 @e5 @hl;exact EI
  ·obtain rfl:i=rows.length:=by omega
   refine m21 ?_;obtain⟨E6,fi⟩:∃E6,jn [.Υ (some (a,cap)) ety 4 (us.map aY),.set E3 (λw=>bH w (bY k rows) E3 us)] [.set E6 (λw=>bp w (.sl (bY k rows)) E6 (.slice a uss.length cap))]:=by
    exact m75
   exact m9
def ZvK(n:Nat):∀rows,sW rows<n->bu (Zaf .term) rows->qQ 43 rows:=by
 induction n with
 |zero=>exactλ_ h=>om
 |succ n ih =>
  intro rows hn aq;refine Zzh rows aq λr hr i0 t1 i2 r3 he=>?_;subst he;obtain⟨i,hi⟩:=Tbl hr;have h1:=yk hi;obtain⟨_,_,_,_,he,_,_,_,g3⟩:=zk (aq.get hi);injection he with _ he;injection he with _ he;injection he with _ he;injection he with he _;injection he with he;subst he
  simp only[mI,vM]at h1;exact ih _ om g3
def Zhm(aq:bu (Zaf .term) rows):qQ 43 rows:=ZvK _ rows (Tan _) aq
def yG:Int->we->we
 |_,[]=>[]
 |k,.sl rows::cs=>.sl (bY k rows)::yG (k+ab rows) cs
 |k,c::cs=>c::yG k cs
def b9:we->Nat
 |[]=>0
 |.sl rows::cs=>ab rows+b9 cs
 |_::cs=>b9 cs
def Zzi(f:FuncId)(row:we):Prop:=∀(k:Int)(E:GO)(us:GK),us.length=row.length->(aY us).all bQ->0<=k->k+b9 row<=1000000000->aT e0 f [.agg (aY us),GT k] [.set E (λw=>aV w row E us)] (λr pm=>∃E',r=[GT (k+b9 row)]/\pm=[.set E' (λw=>aV w (yG k row) E' us)])
def ZIe{E:GO}{r:we}(hp:r.all vT):CZ (ι:=Unit) [.set E (λw=>aV w r E us)] (λ_=>wS r us) (λ_=>[.set E (λw=>aV w r E us)]):=λw S h ha=>by
 obtain⟨h1,h2,h3⟩:(∀b,E b->b<w.heap.size/\¬S b)/\aV w r E us/\_:=h (.set E (λw=>aV w r E us)) (by simp);obtain⟨Es,hl,_⟩:=Ziv (S:=S) hp h2 h1;exact⟨(),hl,h,ha,λ_ h=>h⟩
def ZkH{E:GO}{r:we}(hp:r.all vT):CZ (ι:=Nat->Nat->Prop) [.set E (λw=>aV w r E us)] (λ_=>True) (λi=>lx r us i):=λw S h ha=>by
 obtain⟨h1,h2,h3⟩:(∀b,E b->b<w.heap.size/\¬S b)/\aV w r E us/\_:=h (.set E (λw=>aV w r E us)) (by simp);obtain⟨Es,hl,q1,q2,q3⟩:=Ziv (S:=S) hp h2 h1;exact⟨Es,trivial,q1,q2,λg hg=>⟨_,Tas,q3 g hg⟩⟩
def ZkI{cs:we}{Es:Nat->Nat->Prop}(hp:cs.all vT)(hl:wS cs us):jn (lx cs us Es) [.set (dP (lx cs us Es)) (λw=>aV w cs (dP (lx cs us Es)) us)]:=λw S h ha=>by
 have hv:=aV.of_cells (w:=w) (S:=S) hp hl h ha;refine⟨λx hx=>?_,zy _,λg⟨x,hx,hg⟩=>?_⟩
 ·refine AM λhx=>?_;subst hx;refine⟨λb⟨y,hy,hg⟩=>?_,hv,aV.Κ _ _ _⟩;obtain⟨E',G',rfl⟩:=Zgr y hy;exact(h _ hy).1 b hg
 ·refine AM λhx=>?_;subst hx;exact hg
def Zl9(aq:bd (Zaf .term) row):Zzi 14 row:=by
 obtain⟨i0,t1,i2,r3,rfl,_,_,_,g3⟩:=zk aq;intro k E us hl hc hk hb;obtain⟨u0,u1,u2,u3,rfl⟩:=len4 hl;obtain⟨k0,k1,k2,k3⟩:=okc4 hc;simp only[b9,Nat.add_zero]at hb⊢;rw[zq];refine dX (ts:=[.slot 4]) [1000] 23 Tryz.func14 ?_;refine vz [1000] [1000] (ZIe rfl) ?_;rintro⟨⟩ ⟨rfl,rfl,rfl,_⟩;refine vz (f:=λ(x:Nat->Nat->Prop)=>[.set (x 0) (λw=>bp w (.sl r3) (x 0) u3)]) [1000] [1000] (ZkH rfl) ?_
 rintro Es -;have dW:=aj4 @k0 @k1 @k2 @k3;refine fB dW ?_;have F:=aj4 @k0 @k1 @k2 @k3;refine cQ [1000] [1000] (Zhm g3 k (Es 0) u3 hk hb) ?_;rintro r pm ⟨E5,rfl,rfl⟩;refine m7 ?_;refine ec dW dW ?_
 obtain⟨E6,fi⟩:∃E6,jn [.set E5 (λw=>bp w (.sl (bY k r3)) E5 u3)] [.set E6 (λw=>aV w [GS i0,.A (.string t1),GS i2,.sl (bY k r3)] E6 [.int .i64 i0,.string t1,.int .i64 i2,u3])] :=
  ⟨_,ZkI (cs:=[GS i0,.A (.string t1),GS i2,.sl (bY k r3)]) (us:=[.int .i64 i0,.string t1,.int .i64 i2,u3]) (Es:=λ_=>E5) rfl ⟨rfl,rfl,rfl,trivial⟩⟩
 refine pE [1000] [1000] fi ?_;have F:=hk;exact ee (R:=λr pm=>∃E',r=[GT (k+(ab r3:Nat))]/\pm=[.set E' (λw=>aV w (yG k [GS i0,.A (.string t1),GS i2,.sl r3]) E' [.int .i64 i0,.string t1,.int .i64 i2,u3])]) [1000] ⟨E6,rfl,by simp only[yG];rfl⟩
def m222(b:G5)(h:Bx G5->G4:=by
 intro B0
 refine ce (aj6 @q1 @pU @ez @hg @gQ @w1) (aj4 @q1 @pU @ez @hg) (Co (kk+1) om om) (aj5 @q1 @pU @ez @hg @gQ) ?_;exact B0.o):G4:=h ⟨b⟩
def Em(b:G5)(h:Bx G5->G4:=by
 intro B0
 have rM:=Zcm rows (x+1);have hg:=ZhN k hr;simp only[uJ,GH,mkV,kO,Int.natCast_one]at hg;exact B0.o rM hg):G4:=h ⟨b⟩
def m84(h:G3:=by
 ·obtain rfl:x=rows.length:=by omega
  rw[Tap];exact fD (ai (lF rows.length rows.length) @pU)):G3:=h
def m53(h:G3:=by
 refine gG ?_;exact⟨x+1,am,gw,gw,om⟩):G3:=h
def tQ(b:G5)(h:Bx G5->G4:=by
 intro B0
 obtain⟨r,hr⟩:∃r,rows[x]?=some r:=⟨_,Taa am⟩;exact B0.o r hr):G4:=h ⟨b⟩
def C1(f:FuncId)(rows:sh):Prop:=∀(k:Int),0<=k->k+ab rows<=1000000000->aI e0 f [.I (.sl (bY k rows)),GT k] [GT (k+ab rows)]
def ZhN:∀{rows:sh}{i:Nat}{r:we}(k:Int),rows[i]?=some r->(bY k rows)[i]?=some (uJ (k+ab (rows.take i)) r)
 |q::rows,0,r,k,h=>by simp at h;subst h;simp[bY,ab]
 |q::rows,i+1,r,k,h=>by
  simp only[Tau]at h;simp only[bY,Tau,Tbc,ab];rw[ZhN _ h];congr 2;omega
 |[],_,_,_,h=>by simp at h
def ZIZ{v:Value}{k:Int}(h:bQ (.A v)):bQ (.A (mkV k v)):=by
 cases v<;>first|rfl|exact h
def Znm:∀(cs:we)(k:Int),cs.all bQ->(uJ k cs).all bQ=true
 |[],_,_=>by simp[uJ]
 |c::cs,k,h=>by
  simp only[List.all_cons,Tar]at h;simp only[uJ,List.all_cons,Tar];refine⟨?_,Znm cs _ h.2⟩
  cases c with
  |A v=>simp only[GH];exact ZIZ h.1
  |_=>simp[GH,bQ]
def Zsq{n:Nat}:∀{rows:sh}(k:Int),rowsLen n rows->ZaD n (bY k rows)=true
 |[],k,_=>by simp[bY,ZaD]
 |r::rows,k,h=>by
  have h1:=h r Tas;have h2:=Zsq (k+qh r) (λx hx=>h x (Tal _ hx):rowsLen n rows);unfold ZaD at h2⊢;simp only[bY,List.all_cons,Tar];exact⟨⟨by rw[Zrf,h1.1];exact beq_self_eq_true n,Znm _ _ h1.2⟩,h2⟩
def Zzj(rows:sh)(aq:bu (Zaf .term) rows)(c8:rows.length<=1048576)(h:∀r∈rows,∀i0 t1 i2 r3,r=[GS i0,.A (.string t1),GS i2,.sl r3]->C1 87 r3):C1 87 rows:=by
 intro k hk hb;have ez:ZaD 4 (bY k rows):=Zsq k aq.Ι;have pU:=ZhB k rows;refine gI (ts:=[.slot 4]) 281612684362291 Tryz.func87 ?_;refine fG @aJ ?_;refine vn λF=>?_;refine gL (ι:=Nat) [1,4,5,9,18,28,37,48] [] (λx=>[(5,GU (x:Int)),(1,GU (k+(ab (rows.take x):Nat)))]) (λx=>[]) (λx=>x<=rows.length) (λx=>rows.length-x) (0) (Taj _) (λx hx=>?_)
 by_cases am:x<rows.length
 ·refine tQ λr hr=>?_;obtain⟨i0,t1,i2,r3,rfl,_,_,_,g3⟩:=zk (aq.get hr);have hm:=h _ (Tac hr) i0 t1 i2 r3 rfl;have np:ab (rows.take (x+1))=ab (rows.take x)+(3+ab r3):=by
   exact Eq
  refine Em λrM hg=>?_;have e5:k+(ab (rows.take (x+1)):Int)=k+(ab (rows.take x):Int)+1+1+1+(ab r3:Int):=by rw[np];omega
  have b1:k+(ab (rows.take x):Int)+3+ab r3<=1000000000:=om;have b0:0<=k+(ab (rows.take x):Int):=om;generalize k+(ab (rows.take x):Int)=kk at hg e5 b1 b0⊢;have q1:=lT x rows.length;refine m69 λw1 w2 w3=>?_;have w4:IntKind.i64.wrap ((x:Int)+1)=(x:Int)+1:=IntWalk.i64_in _ om
  refine m222 ?_;refine ce (aj8 @q1 @pU @ez @hg @gQ @w1 @w2 @w3) (aj4 @q1 @pU @ez @hg) (hm (kk+1+1+1) om om) @q1 ?_;have F:=aj3 (eq_false om:(kk+1+1+1+(ab r3:Int)<0)=False) @w4 @e5;exact m53
 exact m84
def ZvL(n:Nat):∀rows,sW rows<n->bu (Zaf .term) rows->rows.length+ak rows<=1048576->C1 87 rows:=by
 induction n with
 |zero=>exactλ_ h=>om
 |succ n ih =>
  intro rows hn aq hB;refine Zzj rows aq om λr hr i0 t1 i2 r3 he=>?_;subst he;obtain⟨i,hi⟩:=Tbl hr;have h1:=yk hi;have h2:=A5 hi;obtain⟨_,_,_,_,he,_,_,_,g3⟩:=zk (aq.get hi);injection he with _ he;injection he with _ he;injection he with _ he;injection he with he _;injection he with he;subst he
  simp only[mI,vM]at h1;simp only[ag,jE]at h2;exact ih _ om g3 om
def ZkY(aq:bu (Zaf .term) rows)(hB:rows.length+ak rows<=1048576):C1 87 rows:=ZvL _ rows (Tan _) aq hB
def EE(h:G3:=by
 ·obtain rfl:i=rows.length:=by omega
  refine m21 ?_;refine m38 λE6 fi=>?_
  exact m9):G3:=h
def vm(b:G5)(h:Bx G5->G4:=by
 intro B0
 have wi:IntKind.i64.wrap ((i:Int)+1)=(i:Int)+1:=IntWalk.i64_in _ om;exact B0.o wi):G4:=h ⟨b⟩
def m66(b:G5)(h:Bx G5->G4:=by
 intro B0
 refine vz (f:=λ(x:(GO)×(Nat->Nat->Prop))=>[.set x.1 (λw=>bH w (rows.drop (i+1)) x.1 (us.drop (i+1)))]) [1001] [1001] (Zhb rfl) ?_;rintro⟨E4,Es⟩ -;dsimp only;exact B0.o E4 Es):G4:=h ⟨b⟩
def EK(h:G3:=by
 rw[EW hr,Zdq];simp only[qh,kO]
 try omega):G3:=h
def m38(b:G5)(h:Bx G5->G4:=by
 intro B0
 obtain⟨E6,fi⟩:∃E6,jn [.Υ (some (a,cap)) ety 1 (us.map aY),.set E3 (λw=>bH w (bY k rows) E3 us)] [.set E6 (λw=>bp w (.sl (bY k rows)) E6 (.slice a uss.length cap))]:=by
  rw[hl,<- hn];exact⟨_,Cl (λw h=>h) (bp.Κ _ _ _)⟩
 exact B0.o E6 fi):G4:=h ⟨b⟩
def m10(b:G5)(h:Bx G5->G4:=by
 intro B0
 refine pE [] [1002] vE ?_;have F:=aj4 @ZcX @Zen @Int.add_zero @Int.natCast_zero;refine gL (ι:=Nat×AT×(GO)×(GO)) [1,5,9] [1000,1001,1002] (λx=>[(5,GU (x.1:Int)),(1,GU (k+(ab (rows.take x.1):Nat)))]) (λx=>[(1000,.Υ (some (a,cap)) ety 1 (x.2.1.map aY)),(1001,.set x.2.2.1 (λw=>bH w (rows.drop x.1) x.2.2.1 (x.2.1.drop x.1))),(1002,.set x.2.2.2 (λw=>bH w (bY k (rows.take x.1)) x.2.2.2 (x.2.1.take x.1)))]) (λx=>x.1<=rows.length/\x.2.1.length=rows.length) (λx=>rows.length-x.1) ((0,uss,E1,λ_=>False)) (⟨Taj _,hl⟩) (λx hx=>?_);exact B0.o F x hx):G4:=h ⟨b⟩
def Zpw {rows:sh} (aq:bu (Zaf .str) rows):qQ 83 rows:=by
 intro k E v hk hb;refine dX (ts:=[.slot 4]) [1000] 563 Tryz.func83 ?_;refine m5 λaP=>?_
 ·have c9:rowsLen 1 rows:=bu.Ι aq;refine B7 ?_;rintro⟨a,cap,ety,uss,E1⟩ ⟨rfl,hl,c8⟩;simp only at hl⊢;unfold maxLen at c8;refine m10 λF x hx=>?_
  obtain⟨i,us,E2,E3⟩:=x;obtain⟨hi,hn⟩:=hx;simp only at hi hn;dsimp only;by_cases am:i<rows.length
  ·refine B3 λr hr u hu=>?_;obtain⟨t0,rfl,g0⟩:=Ze8 (aq.get hr);have np:ab (rows.take (i+1))=ab (rows.take i)+(1):=by
    exact EK
   refine B4 λrM jr=>?_;obtain rfl:u=[.string t0]:=by
    match u,jr with
    |[_],⟨rfl,_⟩=>rfl
   refine m66 λE4 Es=>?_;have lN:0<=k+(ab (rows.take i):Int):=om;have nP:k+(ab (rows.take i):Int)+((1:Nat):Int)<=1000000000:=om;generalize fv:k+(ab (rows.take i):Int)=kk at lN nP⊢;refine Gz λq1 q2 hs=>?_;have lr:aY [.string t0]=[.A (.string t0)]:=rfl;have w0:IntKind.i64.wrap (kk+1)=kk+1:=IntWalk.i64_in _ om;refine vm λwi=>?_;have dW:=aj11 @q1 @hl @hn @hu @lr @on @ol @hs @w0 @q2 @tW;refine ce dW dW (Co (kk) om om) dW ?_;obtain⟨E6,fi⟩:∃E6,jn [.set E3 (λw=>bH w (bY k (rows.take i)) E3 (us.take i))] [.set E6 (λw=>bH w (bY k (rows.take (i+1))) E6 ((us.set i [.string (fW (kk))]).take (i+1)))]:=by
    have hz:=Bl (E:=E3) (done:=bY k (rows.take i)) (ud:=us.take i) (cs:=[.A (.string (fW (kk)))]) (us:=[.string (fW (kk))]) (Es:=λ_ _=>False) rfl ⟨rfl,trivial⟩;exact EF
   refine pE [1002] [1002] fi ?_;have e1:((us.set i [.string (fW (kk))]).map aY)=(us.map aY).set i [.A (.string (fW (kk)))]:=by rw[List.map_set];rfl
   have e2:=Cy us i [.string (fW (kk))];have e5:k+(ab (rows.take (i+1)):Int)=kk+1:=by rw[np];omega
   have fh:(us.set i [.string (fW (kk))]).length=rows.length:=by rw[ol,hn]
   generalize us.set i [.string (fW (kk))]=rf at e1 e2 fh⊢;rw[<- e1,<- e2];have F:=aj5 @wi @e5 @hl @w0 @hn;exact EI
  exact EE
def Zpx(aq:bu (Zaf .str) rows):qQ 83 rows:=Zpw aq
def m266(h:G3:=by
 ·obtain rfl:i=rows.length:=by omega
  refine m21 ?_;obtain⟨E6,fi⟩:∃E6,jn [.Υ (some (a,cap)) ety 2 (us.map aY),.set E3 (λw=>bH w (bY k rows) E3 us)] [.set E6 (λw=>bp w (.sl (bY k rows)) E6 (.slice a uss.length cap))]:=by
   exact m75
  exact m9):G3:=h
def m24(b:G5)(h:Bx G5->G4:=by
 intro B0
 refine pE [] [1002] vE ?_;have F:=aj4 @ZcX @Zen @Int.add_zero @Int.natCast_zero;refine gL (ι:=Nat×AT×(GO)×(GO)) [1,5,9] [1000,1001,1002] (λx=>[(5,GU (x.1:Int)),(1,GU (k+(ab (rows.take x.1):Nat)))]) (λx=>[(1000,.Υ (some (a,cap)) ety 2 (x.2.1.map aY)),(1001,.set x.2.2.1 (λw=>bH w (rows.drop x.1) x.2.2.1 (x.2.1.drop x.1))),(1002,.set x.2.2.2 (λw=>bH w (bY k (rows.take x.1)) x.2.2.2 (x.2.1.take x.1)))]) (λx=>x.1<=rows.length/\x.2.1.length=rows.length) (λx=>rows.length-x.1) ((0,uss,E1,λ_=>False)) (⟨Taj _,hl⟩) (λx hx=>?_);exact B0.o F x hx):G4:=h ⟨b⟩
def ZuI {rows:sh} (aq:bu (Zaf .sub) rows):qQ 84 rows:=by
 intro k E v hk hb;refine dX (ts:=[.slot 4]) [1000] 563 Tryz.func84 ?_;refine m5 λaP=>?_
 ·have c9:rowsLen 2 rows:=bu.Ι aq;refine B7 ?_;rintro⟨a,cap,ety,uss,E1⟩ ⟨rfl,hl,c8⟩;simp only at hl⊢;unfold maxLen at c8;refine m24 λF x hx=>?_
  obtain⟨i,us,E2,E3⟩:=x;obtain⟨hi,hn⟩:=hx;simp only at hi hn;dsimp only;by_cases am:i<rows.length
  ·refine B3 λr hr u hu=>?_;obtain⟨i0,i1,rfl,g0,g1⟩:=ZiR (aq.get hr);have np:ab (rows.take (i+1))=ab (rows.take i)+(2):=by
    exact EK
   refine B4 λrM jr=>?_;obtain rfl:u=[.int .i64 i0,.int .i64 i1]:=by
    match u,jr with
    |[_,_],⟨rfl,rfl,_⟩=>rfl
   refine m66 λE4 Es=>?_;have lN:0<=k+(ab (rows.take i):Int):=om;have nP:k+(ab (rows.take i):Int)+((2:Nat):Int)<=1000000000:=om;generalize fv:k+(ab (rows.take i):Int)=kk at lN nP⊢;have q2:i<rows.length:=am
   have hs:∀X:we,((us.map aY).set i X)[i]?=some X:=λX=>ZgK (by rw[on,hn];omega) X;have lr:aY [.int .i64 i0,.int .i64 i1]=[GS i0,GS i1]:=rfl;have w0:IntKind.i64.wrap (kk+1)=kk+1:=IntWalk.i64_in _ om;have w1:IntKind.i64.wrap (kk+1+1)=kk+1+1:=IntWalk.i64_in _ om;refine vm λwi=>?_;refine fN 3 (aj12 (lT i rows.length) @hl @hn @hu @lr @on @ol @hs @w0 @w1 @q2 @tW) ?_
   obtain⟨E6,fi⟩:∃E6,jn [.set E3 (λw=>bH w (bY k (rows.take i)) E3 (us.take i))] [.set E6 (λw=>bH w (bY k (rows.take (i+1))) E6 ((us.set i [.int .i64 (kk),.int .i64 (kk+1)]).take (i+1)))]:=by
    have hz:=Bl (E:=E3) (done:=bY k (rows.take i)) (ud:=us.take i) (cs:=[GS (kk),GS (kk+1)]) (us:=[.int .i64 (kk),.int .i64 (kk+1)]) (Es:=λ_ _=>False) rfl ⟨rfl,rfl,trivial⟩;exact EF
   refine pE [1002] [1002] fi ?_;have e1:((us.set i [.int .i64 (kk),.int .i64 (kk+1)]).map aY)=(us.map aY).set i [GS (kk),GS (kk+1)]:=by rw[List.map_set];rfl
   have e2:=Cy us i [.int .i64 (kk),.int .i64 (kk+1)];have e5:k+(ab (rows.take (i+1)):Int)=kk+1+1:=by rw[np];omega
   have fh:(us.set i [.int .i64 (kk),.int .i64 (kk+1)]).length=rows.length:=by rw[ol,hn]
   generalize us.set i [.int .i64 (kk),.int .i64 (kk+1)]=rf at e1 e2 fh⊢;rw[<- e1,<- e2];have F:=aj6 @wi @e5 @hl @w0 @w1 @hn;exact EI
  exact m266
def ZuJ(aq:bu (Zaf .sub) rows):qQ 84 rows:=ZuI aq
def Et(h:G3:=by
 simpa[aY,Tar,and_assoc]using hc):G3:=h
def ZrT(aq:bd (wI) row):Zzi 41 row:=by
 obtain⟨r0,r1,rfl,g0,g1⟩:=ZgQ aq;intro kk E us hl hc hk hb;obtain⟨u0,u1,rfl⟩:=pr hl;have kc:bQ (.A u0)/\bQ (.A u1):=by exact Et
 obtain⟨k0,k1⟩:=kc;simp only[b9,Nat.add_zero]at hb⊢;have lr:aY [u0,u1]=[.A u0,.A u1]:=rfl;rw[lr];refine dX (ts:=[.slot 4]) [1000] 23 Tryz.func41 ?_;refine vz (f:=λ(x:Nat->Nat->Prop)=>[.set (x 0) (λw=>bp w (.sl r0) (x 0) u0),.set (x 1) (λw=>bp w (.sl r1) (x 1) u1)]) [1000] [1003,1004] (ZkH rfl) ?_;rintro Es -
 try dsimp only
 have dW:=aj3 @lr @k0 @k1;refine fB dW ?_;have F:=aj3 @lr @k0 @k1;refine cQ [1003] [1003] (Zpx g0 (kk) (Es 0) u0 om om) ?_;rintro r pm ⟨F0,rfl,rfl⟩;simp only[aD,aQ,aM,Taf,Tah];refine fR dW ?_;refine fB dW ?_;have F:=aj3 @lr @k0 @k1;refine cQ [1004] [1004] (ZuJ g1 (kk+(ab r0:Int)) (Es 1) u1 om om) ?_;rintro r pm ⟨F1,rfl,rfl⟩;simp only[aD,aQ,aM,Taf,Tah]
 refine ec dW dW ?_;obtain⟨E6,fi⟩:∃E6,jn [.set F0 (λw=>bp w (.sl (bY (kk) r0)) F0 u0),.set F1 (λw=>bp w (.sl (bY (kk+(ab r0:Int)) r1)) F1 u1)] [.set E6 (λw=>aV w [.sl (bY (kk) r0),.sl (bY (kk+(ab r0:Int)) r1)] E6 [u0,u1])]:=⟨_,ZkI (cs:=[.sl (bY (kk) r0),.sl (bY (kk+(ab r0:Int)) r1)]) (us:=[u0,u1]) (Es:=λk=>match k with|0=>F0|_=>F1) rfl trivial⟩
 refine pE [1003,1004] [1000] fi ?_;have F:=hk;rw[(om:kk+(ab r0:Int)+(ab r1:Int)=kk+((ab r0+(ab r1):Nat):Int))];exact ee (R:=λr pm=>∃E',r=[GT (kk+((ab r0+(ab r1):Nat):Int))]/\pm=[.set E' (λw=>aV w (yG kk [.sl r0,.sl r1]) E' [u0,u1])]) [1000] ⟨E6,rfl,by simp only[yG];rfl⟩
def Zx2(u0:Value):aY [u0]=[.A u0]:=rfl
def ZDW {rows:sh} (aq:bu (Zaf .int) rows):qQ 143 rows:=by
 intro k E v hk hb;refine dX (ts:=[.slot 4]) [1000] 563 Tryz.func143 ?_;refine m5 λaP=>?_
 ·have c9:rowsLen 1 rows:=bu.Ι aq;refine B7 ?_;rintro⟨a,cap,ety,uss,E1⟩ ⟨rfl,hl,c8⟩;simp only at hl⊢;unfold maxLen at c8;refine m10 λF x hx=>?_
  obtain⟨i,us,E2,E3⟩:=x;obtain⟨hi,hn⟩:=hx;simp only at hi hn;dsimp only;by_cases am:i<rows.length
  ·refine B3 λr hr u hu=>?_;obtain⟨i0,rfl,_⟩:=ZiQ (aq.get hr);have np:ab (rows.take (i+1))=ab (rows.take i)+1:=by
    rw[EW hr,Zdq];simp only[qh,kO]
   refine B4 λrM jr=>?_;obtain rfl:u=[.int .i64 i0]:=by
    match u,jr with
    |[_],⟨rfl,_⟩=>rfl
   refine m66 λE4 Es=>?_;generalize fv:k+(ab (rows.take i):Int)=kk;have q2:i<rows.length:=am;have w1:IntKind.i64.wrap (kk+1)=kk+1:=IntWalk.i64_in _ om;have w4:IntKind.i64.wrap ((i:Int)+1)=(i:Int)+1:=IntWalk.i64_in _ om
   refine fN 3 (aj9 (lT i rows.length) @hl @hn @hu @Zx2 @on @ol @w1 @q2) ?_;obtain⟨E6,fi⟩:∃E6,jn [.set E3 (λw=>bH w (bY k (rows.take i)) E3 (us.take i))] [.set E6 (λw=>bH w (bY k (rows.take (i+1))) E6 ((us.set i [.int .i64 kk]).take (i+1)))]:=by
    have hz:=Bl (E:=E3) (done:=bY k (rows.take i)) (ud:=us.take i) (cs:=[GS kk]) (us:=[.int .i64 kk]) (Es:=λ_ _=>False) rfl ⟨rfl,trivial⟩;rw[EW hr,Zdf,fv,Zfk om];simp only[uJ,GH,mkV];exact⟨_,hz⟩
   refine pE [1002] [1002] fi ?_;have e1:((us.set i [.int .i64 kk]).map aY)=(us.map aY).set i [GS kk]:=by rw[List.map_set,Zx2]
   have e2:=Cy us i [.int .i64 kk];have e5:k+(ab (rows.take (i+1)):Int)=kk+1:=by rw[np];omega
   have fh:(us.set i [.int .i64 kk]).length=rows.length:=by rw[ol,hn]
   generalize us.set i [.int .i64 kk]=rf at e1 e2 fh⊢;rw[<- e1,<- e2];have F:=aj3 @w4 @e5 @hl;exact EI
  exact EE
def ZuK(aq:bu (Zaf .int) rows):qQ 143 rows:=ZDW aq
def m95(b:G5)(h:Bx G5->G4:=by
 intro B0
 refine vz (f:=λ(x:(GO)×(Nat->Nat->Prop))=>[.set x.1 (λw=>bH w (rows.drop (i+1)) x.1 (us.drop (i+1))),.set (x.2 0) (λw=>bp w (.sl r0) (x.2 0) u0)]) [1001] [1001,1003] (Zhb rfl) ?_;rintro⟨E4,Es⟩ -;dsimp only;have lN:0<=k+(ab (rows.take i):Int):=om;exact B0.o E4 Es lN):G4:=h ⟨b⟩
def ZrU {rows:sh} (aq:bu (Zaf .decl) rows):qQ 86 rows:=by
 intro k E v hk hb;refine dX (ts:=[.slot 4]) [1000] 563 Tryz.func86 ?_;refine m5 λaP=>?_
 ·have c9:rowsLen 2 rows:=bu.Ι aq;refine B7 ?_;rintro⟨a,cap,ety,uss,E1⟩ ⟨rfl,hl,c8⟩;simp only at hl⊢;unfold maxLen at c8;refine m24 λF x hx=>?_
  obtain⟨i,us,E2,E3⟩:=x;obtain⟨hi,hn⟩:=hx;simp only at hi hn;dsimp only;by_cases am:i<rows.length
  ·refine B3 λr hr u hu=>?_;obtain⟨r0,i1,rfl,g0,g1⟩:=Zgi (aq.get hr);have qY:=ZuK g0;have np:ab (rows.take (i+1))=ab (rows.take i)+(1+ab r0):=by
    exact EK
   refine B4 λrM jr=>?_;obtain⟨u0,rfl⟩:∃u0,u=[u0,.int .i64 i1]:=by
    match u,jr with
    |[u0,_],⟨rfl,_⟩=>exact⟨u0,rfl⟩
   refine m95 λE4 Es lN=>?_;have nP:k+(ab (rows.take i):Int)+((1+ab r0:Nat):Int)<=1000000000:=om;generalize fv:k+(ab (rows.take i):Int)=kk at lN nP⊢
   refine Gz λq1 q2 hs=>?_;have lr:aY [u0,.int .i64 i1]=[.A (u0),GS i1]:=rfl;have w1:IntKind.i64.wrap (kk+(ab r0:Int)+1)=kk+(ab r0:Int)+1:=IntWalk.i64_in _ om;refine vm λwi=>?_;have dW:=aj11 @q1 @hl @hn @hu @lr @on @ol @hs @w1 @q2 @tW;refine fB dW ?_
   have F:=aj11 @q1 @hl @hn @hu @lr @on @ol @hs @w1 @q2 @tW;refine cQ [1003] [1003] (qY (kk) (Es 0) u0 om om) ?_;rintro r pm ⟨F0,rfl,rfl⟩;refine m7 ?_;refine fR dW ?_;refine fN 3 dW ?_;obtain⟨E6,fi⟩:∃E6,jn [.set E3 (λw=>bH w (bY k (rows.take i)) E3 (us.take i)),.set F0 (λw=>bp w (.sl (bY (kk) r0)) F0 u0)] [.set E6 (λw=>bH w (bY k (rows.take (i+1))) E6 ((us.set i [u0,.int .i64 (kk+(ab r0:Int))]).take (i+1)))]:=by
    have hz:=Bl (E:=E3) (done:=bY k (rows.take i)) (ud:=us.take i) (cs:=[.sl (bY (kk) r0),GS (kk+(ab r0:Int))]) (us:=[u0,.int .i64 (kk+(ab r0:Int))]) (Es:=λ_=>F0) rfl ⟨rfl,trivial⟩;exact EF
   refine pE [1002,1003] [1002] fi ?_;have e1:((us.set i [u0,.int .i64 (kk+(ab r0:Int))]).map aY)=(us.map aY).set i [.A (u0),GS (kk+(ab r0:Int))]:=by rw[List.map_set];rfl
   have e2:=Cy us i [u0,.int .i64 (kk+(ab r0:Int))];have e5:k+(ab (rows.take (i+1)):Int)=kk+(ab r0:Int)+1:=by rw[np];omega
   have fh:(us.set i [u0,.int .i64 (kk+(ab r0:Int))]).length=rows.length:=by rw[ol,hn]
   generalize us.set i [u0,.int .i64 (kk+(ab r0:Int))]=rf at e1 e2 fh⊢;rw[<- e1,<- e2];have F:=aj5 @wi @e5 @hl @w1 @hn;exact EI
  exact m266
def ZrV(aq:bu (Zaf .decl) rows):qQ 86 rows:=ZrU aq
def Zx3{k:Int}(h:0<=k):decide (k.tmod 3=0)=(k % 3==0):=by rw[Int.tmod_eq_emod_of_nonneg h,Bool.eq_iff_iff];simp
def ZvM {rows:sh} (aq:bu (Zaf .op) rows):qQ 42 rows:=by
 intro k E v hk hb;refine dX (ts:=[.slot 4]) [1000] 563 Tryz.func42 ?_;refine m5 λaP=>?_
 ·have c9:rowsLen 5 rows:=bu.Ι aq;refine B7 ?_;rintro⟨a,cap,ety,uss,E1⟩ ⟨rfl,hl,c8⟩;simp only at hl⊢;unfold maxLen at c8;refine pE [] [1002] vE ?_;refine vn λF=>?_;refine gL (ι:=Nat×AT×(GO)×(GO)) [1,5,9] [1000,1001,1002] (λx=>[(5,GU (x.1:Int)),(1,GU (k+(ab (rows.take x.1):Nat)))]) (λx=>[(1000,.Υ (some (a,cap)) ety 5 (x.2.1.map aY)),(1001,.set x.2.2.1 (λw=>bH w (rows.drop x.1) x.2.2.1 (x.2.1.drop x.1))),(1002,.set x.2.2.2 (λw=>bH w (bY k (rows.take x.1)) x.2.2.2 (x.2.1.take x.1)))]) (λx=>x.1<=rows.length/\x.2.1.length=rows.length) (λx=>rows.length-x.1) ((0,uss,E1,λ_=>False)) (⟨Taj _,hl⟩) (λx hx=>?_)
  obtain⟨i,us,E2,E3⟩:=x;obtain⟨hi,hn⟩:=hx;simp only at hi hn;dsimp only;by_cases am:i<rows.length
  ·refine B3 λr hr u hu=>?_;obtain⟨t0,r1,p2,p3,i4,rfl,g0,g1,g2,g3,g4⟩:=Zh8 (aq.get hr);have mw:=ZrV g1;have np:ab (rows.take (i+1))=ab (rows.take i)+(4+ab r1):=by
    exact EK
   refine B4 λrM jr=>?_;obtain⟨u1,rfl⟩:∃u1,u=[.string t0,u1,.bool p2,.bool p3,.int .i64 i4]:=by
    match u,jr with
    |[_,u1,_,_,_],⟨rfl,rfl,rfl,rfl,_⟩=>exact⟨u1,rfl⟩
   refine vz (f:=λ(x:(GO)×(Nat->Nat->Prop))=>[.set x.1 (λw=>bH w (rows.drop (i+1)) x.1 (us.drop (i+1))),.set (x.2 0) (λw=>bp w (.sl r1) (x.2 0) u1)]) [1001] [1001,1003] (Zhb rfl) ?_;rintro⟨E4,Es⟩ -;dsimp only;have lN:0<=k+(ab (rows.take i):Int):=om;have nP:k+(ab (rows.take i):Int)+((4+ab r1:Nat):Int)<=1000000000:=om;generalize fv:k+(ab (rows.take i):Int)=kk at lN nP⊢
   refine Gz λq1 q2 hs=>?_;have lr:aY [.string t0,u1,.bool p2,.bool p3,.int .i64 i4]=[.A (.string t0),.A (u1),GV p2,GV p3,GS i4]:=rfl;have w0:IntKind.i64.wrap (kk+1)=kk+1:=IntWalk.i64_in _ om;have w2:IntKind.i64.wrap (kk+1+(ab r1:Int)+1)=kk+1+(ab r1:Int)+1:=IntWalk.i64_in _ om
   have b2:decide (((kk+1+(ab r1:Int)).tmod 3)=0)=((kk+1+(ab r1:Int)) % 3==0):=Zx3 om;have w3:IntKind.i64.wrap (kk+1+(ab r1:Int)+1+1)=kk+1+(ab r1:Int)+1+1:=IntWalk.i64_in _ om;have b3:decide (((kk+1+(ab r1:Int)+1).tmod 3)=0)=((kk+1+(ab r1:Int)+1) % 3==0):=Zx3 om;have w4:IntKind.i64.wrap (kk+1+(ab r1:Int)+1+1+1)=kk+1+(ab r1:Int)+1+1+1:=IntWalk.i64_in _ om;refine vm λwi=>?_
   have dW:=aj16 @q1 @hl @hn @hu @lr @on @ol @hs @w0 @w2 @b2 @w3 @b3 @w4 @q2 @tW;refine ce dW dW (Co (kk) om om) dW ?_;refine fB dW ?_;have F:=aj16 @q1 @hl @hn @hu @lr @on @ol @hs @w0 @w2 @b2 @w3 @b3 @w4 @q2 @tW;refine cQ [1003] [1003] (mw (kk+1) (Es 0) u1 om om) ?_
   rintro r pm ⟨F1,rfl,rfl⟩;refine m7 ?_;refine fR dW ?_;refine fN 3 dW ?_;obtain⟨E6,fi⟩:∃E6,jn [.set E3 (λw=>bH w (bY k (rows.take i)) E3 (us.take i)),.set F1 (λw=>bp w (.sl (bY (kk+1) r1)) F1 u1)] [.set E6 (λw=>bH w (bY k (rows.take (i+1))) E6 ((us.set i [.string (fW (kk)),u1,.bool ((kk+1+(ab r1:Int)) % 3==0),.bool ((kk+1+(ab r1:Int)+1) % 3==0),.int .i64 (kk+1+(ab r1:Int)+1+1)]).take (i+1)))]:=by
    have hz:=Bl (E:=E3) (done:=bY k (rows.take i)) (ud:=us.take i) (cs:=[.A (.string (fW (kk))),.sl (bY (kk+1) r1),GV ((kk+1+(ab r1:Int)) % 3==0),GV ((kk+1+(ab r1:Int)+1) % 3==0),GS (kk+1+(ab r1:Int)+1+1)]) (us:=[.string (fW (kk)),u1,.bool ((kk+1+(ab r1:Int)) % 3==0),.bool ((kk+1+(ab r1:Int)+1) % 3==0),.int .i64 (kk+1+(ab r1:Int)+1+1)]) (Es:=λ_=>F1) rfl ⟨rfl,rfl,rfl,rfl,trivial⟩
    exact EF
   refine pE [1002,1003] [1002] fi ?_;have e1:((us.set i [.string (fW (kk)),u1,.bool ((kk+1+(ab r1:Int)) % 3==0),.bool ((kk+1+(ab r1:Int)+1) % 3==0),.int .i64 (kk+1+(ab r1:Int)+1+1)]).map aY)=(us.map aY).set i [.A (.string (fW (kk))),.A (u1),GV ((kk+1+(ab r1:Int)) % 3==0),GV ((kk+1+(ab r1:Int)+1) % 3==0),GS (kk+1+(ab r1:Int)+1+1)]:=by rw[List.map_set];rfl
   have e2:=Cy us i [.string (fW (kk)),u1,.bool ((kk+1+(ab r1:Int)) % 3==0),.bool ((kk+1+(ab r1:Int)+1) % 3==0),.int .i64 (kk+1+(ab r1:Int)+1+1)];have e5:k+(ab (rows.take (i+1)):Int)=kk+1+(ab r1:Int)+1+1+1:=by rw[np];omega
   have fh:(us.set i [.string (fW (kk)),u1,.bool ((kk+1+(ab r1:Int)) % 3==0),.bool ((kk+1+(ab r1:Int)+1) % 3==0),.int .i64 (kk+1+(ab r1:Int)+1+1)]).length=rows.length:=by rw[ol,hn]
   generalize us.set i [.string (fW (kk)),u1,.bool ((kk+1+(ab r1:Int)) % 3==0),.bool ((kk+1+(ab r1:Int)+1) % 3==0),.int .i64 (kk+1+(ab r1:Int)+1+1)]=rf at e1 e2 fh⊢;rw[<- e1,<- e2];have F:=aj10 @wi @e5 @hl @w0 @w2 @b2 @w3 @b3 @w4 @hn;exact EI
  ·obtain rfl:i=rows.length:=by omega
   refine m21 ?_;obtain⟨E6,fi⟩:∃E6,jn [.Υ (some (a,cap)) ety 5 (us.map aY),.set E3 (λw=>bH w (bY k rows) E3 us)] [.set E6 (λw=>bp w (.sl (bY k rows)) E6 (.slice a uss.length cap))]:=by
    exact m75
   exact m9
def ZvN(aq:bu (Zaf .op) rows):qQ 42 rows:=ZvM aq
def ZmL(aq:bd (lZ) row):Zzi 13 row:=by
 obtain⟨r0,r1,r2,rfl,g0,g1,g2⟩:=Zd1 aq;intro kk E us hl hc hk hb;obtain⟨u0,u1,u2,rfl⟩:=len3 hl;have kc:bQ (.A u0)/\bQ (.A u1)/\bQ (.A u2):=by exact Et
 obtain⟨k0,k1,k2⟩:=kc;simp only[b9,Nat.add_zero]at hb⊢;have lr:aY [u0,u1,u2]=[.A u0,.A u1,.A u2]:=rfl;rw[lr];refine dX (ts:=[.slot 4]) [1000] 23 Tryz.func13 ?_;refine vz (f:=λ(x:Nat->Nat->Prop)=>[.set (x 0) (λw=>bp w (.sl r0) (x 0) u0),.set (x 1) (λw=>bp w (.sl r1) (x 1) u1),.set (x 2) (λw=>bp w (.sl r2) (x 2) u2)]) [1000] [1003,1004,1005] (ZkH rfl) ?_;rintro Es -
 try dsimp only
 obtain⟨G0,hre0⟩:∃G,jn [.set (Es 0) (λw=>bp w (.sl r0) (Es 0) u0),.set (Es 1) (λw=>bp w (.sl r1) (Es 1) u1)] [.set G (λw=>aV w [.sl r0,.sl r1] G [u0,u1])]:=⟨_,ZkI (cs:=[.sl r0,.sl r1]) (us:=[u0,u1]) (Es:=λk=>Es (k+0)) rfl trivial⟩;refine pE [1003,1004] [1003] hre0 ?_;have lr0:aY [u0,u1]=[.A u0,.A u1]:=rfl;have qY:=ZrT (row:=[.sl r0,.sl r1]) (ZgR g0 g1) (kk) G0 [u0,u1] rfl (by rw[lr0];simp only[List.all_cons,List.all_nil,k0,k1,Bool.and_self]) om (by simp only[b9];omega)
 rw[lr0]at qY;simp only[b9,yG,Nat.add_zero,Int.natCast_add,<- Int.add_assoc]at qY;have dW:=aj4 @lr @k0 @k1 @k2;refine fB dW ?_;have F:=aj4 @lr @k0 @k1 @k2;refine cQ [1003] [1003] (qY) ?_;rintro r pm ⟨G0',rfl,rfl⟩;simp only[aD,aQ,aM,Taf,Tah];refine fR dW ?_;refine vz (f:=λ(x:Nat->Nat->Prop)=>[.set (x 0) (λw=>bp w (.sl (bY (kk) r0)) (x 0) u0),.set (x 1) (λw=>bp w (.sl (bY (kk+(ab r0:Int)) r1)) (x 1) u1)]) [1003] [1003,1004] (ZkH (r:=[.sl (bY (kk) r0),.sl (bY (kk+(ab r0:Int)) r1)]) rfl) ?_
 rintro EU -
 try dsimp only
 refine fB dW ?_;have F:=aj4 @lr @k0 @k1 @k2;refine cQ [1005] [1005] (ZvN g2 (kk+(ab r0:Int)+(ab r1:Int)) (Es 2) u2 om om) ?_;rintro r pm ⟨F2,rfl,rfl⟩;simp only[aD,aQ,aM,Taf,Tah];refine ec dW dW ?_;obtain⟨E6,fi⟩:∃E6,jn [.set (EU 0) (λw=>bp w (.sl (bY (kk) r0)) (EU 0) u0),.set (EU 1) (λw=>bp w (.sl (bY (kk+(ab r0:Int)) r1)) (EU 1) u1),.set F2 (λw=>bp w (.sl (bY (kk+(ab r0:Int)+(ab r1:Int)) r2)) F2 u2)] [.set E6 (λw=>aV w [.sl (bY (kk) r0),.sl (bY (kk+(ab r0:Int)) r1),.sl (bY (kk+(ab r0:Int)+(ab r1:Int)) r2)] E6 [u0,u1,u2])]:=⟨_,ZkI (cs:=[.sl (bY (kk) r0),.sl (bY (kk+(ab r0:Int)) r1),.sl (bY (kk+(ab r0:Int)+(ab r1:Int)) r2)]) (us:=[u0,u1,u2]) (Es:=λk=>match k with|0=>EU 0|1=>EU 1|_=>F2) rfl trivial⟩
 refine pE [1003,1004,1005] [1000] fi ?_;have F:=hk;rw[(om:kk+(ab r0:Int)+(ab r1:Int)+(ab r2:Int)=kk+((ab r0+(ab r1+(ab r2)):Nat):Int))];exact ee (R:=λr pm=>∃E',r=[GT (kk+((ab r0+(ab r1+(ab r2)):Nat):Int))]/\pm=[.set E' (λw=>aV w (yG kk [.sl r0,.sl r1,.sl r2]) E' [u0,u1,u2])]) [1000] ⟨E6,rfl,by simp only[yG];rfl⟩
def Zn3 {rows:sh} (aq:bu (Zaf .binding) rows):qQ 44 rows:=by
 intro k E v hk hb;refine dX (ts:=[.slot 4]) [1000] 563 Tryz.func44 ?_;refine m5 λaP=>?_
 ·have c9:rowsLen 8 rows:=bu.Ι aq;refine B7 ?_;rintro⟨a,cap,ety,uss,E1⟩ ⟨rfl,hl,c8⟩;simp only at hl⊢;unfold maxLen at c8;refine pE [] [1002] vE ?_;refine vn λF=>?_;refine gL (ι:=Nat×AT×(GO)×(GO)) [1,5,9] [1000,1001,1002] (λx=>[(5,GU (x.1:Int)),(1,GU (k+(ab (rows.take x.1):Nat)))]) (λx=>[(1000,.Υ (some (a,cap)) ety 8 (x.2.1.map aY)),(1001,.set x.2.2.1 (λw=>bH w (rows.drop x.1) x.2.2.1 (x.2.1.drop x.1))),(1002,.set x.2.2.2 (λw=>bH w (bY k (rows.take x.1)) x.2.2.2 (x.2.1.take x.1)))]) (λx=>x.1<=rows.length/\x.2.1.length=rows.length) (λx=>rows.length-x.1) ((0,uss,E1,λ_=>False)) (⟨Taj _,hl⟩) (λx hx=>?_)
  obtain⟨i,us,E2,E3⟩:=x;obtain⟨hi,hn⟩:=hx;simp only at hi hn;dsimp only;by_cases am:i<rows.length
  ·refine B3 λr hr u hu=>?_;obtain⟨i0,t1,i2,r3,i4,t5,i6,r7,rfl,g0,g1,g2,g3,g4,g5,g6,g7⟩:=Zhk (aq.get hr);have Al:=Zhm g3;have hm7:=Zhm g7;have np:ab (rows.take (i+1))=ab (rows.take i)+(6+ab r3+ab r7):=by
    exact EK
   refine B4 λrM jr=>?_;obtain⟨u3,u7,rfl⟩:∃u3 u7,u=[.int .i64 i0,.string t1,.int .i64 i2,u3,.int .i64 i4,.string t5,.int .i64 i6,u7]:=by
    match u,jr with
    |[_,_,_,u3,_,_,_,u7],⟨rfl,rfl,rfl,rfl,rfl,rfl,_⟩=>exact⟨u3,u7,rfl⟩
   refine vz (f:=λ(x:(GO)×(Nat->Nat->Prop))=>[.set x.1 (λw=>bH w (rows.drop (i+1)) x.1 (us.drop (i+1))),.set (x.2 0) (λw=>bp w (.sl r3) (x.2 0) u3),.set (x.2 1) (λw=>bp w (.sl r7) (x.2 1) u7)]) [1001] [1001,1003,1004] (Zhb rfl) ?_;rintro⟨E4,Es⟩ -;dsimp only;have lN:0<=k+(ab (rows.take i):Int):=om;have nP:k+(ab (rows.take i):Int)+((6+ab r3+ab r7:Nat):Int)<=1000000000:=om
   generalize fv:k+(ab (rows.take i):Int)=kk at lN nP⊢;refine Gz λq1 q2 hs=>?_;have lr:aY [.int .i64 i0,.string t1,.int .i64 i2,u3,.int .i64 i4,.string t5,.int .i64 i6,u7]=[GS i0,.A (.string t1),GS i2,.A (u3),GS i4,.A (.string t5),GS i6,.A (u7)]:=rfl
   have w0:IntKind.i64.wrap (kk+1)=kk+1:=IntWalk.i64_in _ om;have w1:IntKind.i64.wrap (kk+1+1)=kk+1+1:=IntWalk.i64_in _ om;have w2:IntKind.i64.wrap (kk+1+1+1)=kk+1+1+1:=IntWalk.i64_in _ om;have w4:IntKind.i64.wrap (kk+1+1+1+(ab r3:Int)+1)=kk+1+1+1+(ab r3:Int)+1:=IntWalk.i64_in _ om;have w5:IntKind.i64.wrap (kk+1+1+1+(ab r3:Int)+1+1)=kk+1+1+1+(ab r3:Int)+1+1:=IntWalk.i64_in _ om
   have w6:IntKind.i64.wrap (kk+1+1+1+(ab r3:Int)+1+1+1)=kk+1+1+1+(ab r3:Int)+1+1+1:=IntWalk.i64_in _ om;refine vm λwi=>?_;have dW:=aj16 @q1 @hl @hn @hu @lr @on @ol @hs @w0 @w1 @w2 @w4 @w5 @w6 @q2 @tW;refine ce dW dW (Co (kk+1) om om) dW ?_
   refine fB dW ?_;have F:=aj16 @q1 @hl @hn @hu @lr @on @ol @hs @w0 @w1 @w2 @w4 @w5 @w6 @q2 @tW;refine cQ [1003] [1003] (Al (kk+1+1+1) (Es 0) u3 om om) ?_;rintro r pm ⟨F3,rfl,rfl⟩;refine m7 ?_;refine fR dW ?_;refine ce dW dW (Co (kk+1+1+1+(ab r3:Int)+1) om om) dW ?_;refine fB dW ?_;have F:=aj16 @q1 @hl @hn @hu @lr @on @ol @hs @w0 @w1 @w2 @w4 @w5 @w6 @q2 @tW;refine cQ [1004] [1004] (hm7 (kk+1+1+1+(ab r3:Int)+1+1+1) (Es 1) u7 om om) ?_
   rintro r pm ⟨F7,rfl,rfl⟩;refine m7 ?_;refine fR dW ?_;obtain⟨E6,fi⟩:∃E6,jn [.set E3 (λw=>bH w (bY k (rows.take i)) E3 (us.take i)),.set F3 (λw=>bp w (.sl (bY (kk+1+1+1) r3)) F3 u3),.set F7 (λw=>bp w (.sl (bY (kk+1+1+1+(ab r3:Int)+1+1+1) r7)) F7 u7)] [.set E6 (λw=>bH w (bY k (rows.take (i+1))) E6 ((us.set i [.int .i64 (kk),.string (fW (kk+1)),.int .i64 (kk+1+1),u3,.int .i64 (kk+1+1+1+(ab r3:Int)),.string (fW (kk+1+1+1+(ab r3:Int)+1)),.int .i64 (kk+1+1+1+(ab r3:Int)+1+1),u7]).take (i+1)))]:=by
    have hz:=Bl (E:=E3) (done:=bY k (rows.take i)) (ud:=us.take i) (cs:=[GS (kk),.A (.string (fW (kk+1))),GS (kk+1+1),.sl (bY (kk+1+1+1) r3),GS (kk+1+1+1+(ab r3:Int)),.A (.string (fW (kk+1+1+1+(ab r3:Int)+1))),GS (kk+1+1+1+(ab r3:Int)+1+1),.sl (bY (kk+1+1+1+(ab r3:Int)+1+1+1) r7)]) (us:=[.int .i64 (kk),.string (fW (kk+1)),.int .i64 (kk+1+1),u3,.int .i64 (kk+1+1+1+(ab r3:Int)),.string (fW (kk+1+1+1+(ab r3:Int)+1)),.int .i64 (kk+1+1+1+(ab r3:Int)+1+1),u7]) (Es:=λk=>match k with|0=>F3|_=>F7) rfl ⟨rfl,rfl,rfl,rfl,rfl,rfl,trivial⟩
    exact EF
   refine pE [1002,1003,1004] [1002] fi ?_;have e1:((us.set i [.int .i64 (kk),.string (fW (kk+1)),.int .i64 (kk+1+1),u3,.int .i64 (kk+1+1+1+(ab r3:Int)),.string (fW (kk+1+1+1+(ab r3:Int)+1)),.int .i64 (kk+1+1+1+(ab r3:Int)+1+1),u7]).map aY)=(us.map aY).set i [GS (kk),.A (.string (fW (kk+1))),GS (kk+1+1),.A (u3),GS (kk+1+1+1+(ab r3:Int)),.A (.string (fW (kk+1+1+1+(ab r3:Int)+1))),GS (kk+1+1+1+(ab r3:Int)+1+1),.A (u7)]:=by rw[List.map_set];rfl
   have e2:=Cy us i [.int .i64 (kk),.string (fW (kk+1)),.int .i64 (kk+1+1),u3,.int .i64 (kk+1+1+1+(ab r3:Int)),.string (fW (kk+1+1+1+(ab r3:Int)+1)),.int .i64 (kk+1+1+1+(ab r3:Int)+1+1),u7];have e5:k+(ab (rows.take (i+1)):Int)=kk+1+1+1+(ab r3:Int)+1+1+1+(ab r7:Int):=by rw[np];omega
   have fh:(us.set i [.int .i64 (kk),.string (fW (kk+1)),.int .i64 (kk+1+1),u3,.int .i64 (kk+1+1+1+(ab r3:Int)),.string (fW (kk+1+1+1+(ab r3:Int)+1)),.int .i64 (kk+1+1+1+(ab r3:Int)+1+1),u7]).length=rows.length:=by rw[ol,hn]
   generalize us.set i [.int .i64 (kk),.string (fW (kk+1)),.int .i64 (kk+1+1),u3,.int .i64 (kk+1+1+1+(ab r3:Int)),.string (fW (kk+1+1+1+(ab r3:Int)+1)),.int .i64 (kk+1+1+1+(ab r3:Int)+1+1),u7]=rf at e1 e2 fh⊢;rw[<- e1,<- e2];have F:=aj10 @wi @e5 @hl @w0 @w1 @w2 @w4 @w5 @w6 @hn;exact EI
  ·obtain rfl:i=rows.length:=by omega
   refine m21 ?_;obtain⟨E6,fi⟩:∃E6,jn [.Υ (some (a,cap)) ety 8 (us.map aY),.set E3 (λw=>bH w (bY k rows) E3 us)] [.set E6 (λw=>bp w (.sl (bY k rows)) E6 (.slice a uss.length cap))]:=by
    exact m75
   exact m9
def Zn4(aq:bu (Zaf .binding) rows):qQ 44 rows:=Zn3 aq
def ZmM {rows:sh} (aq:bu (Zaf .bindings) rows):qQ 15 rows:=by
 intro k E v hk hb;refine dX (ts:=[.slot 4]) [1000] 563 Tryz.func15 ?_;refine m5 λaP=>?_
 ·have c9:rowsLen 1 rows:=bu.Ι aq;refine B7 ?_;rintro⟨a,cap,ety,uss,E1⟩ ⟨rfl,hl,c8⟩;simp only at hl⊢;unfold maxLen at c8;refine m10 λF x hx=>?_
  obtain⟨i,us,E2,E3⟩:=x;obtain⟨hi,hn⟩:=hx;simp only at hi hn;dsimp only;by_cases am:i<rows.length
  ·refine B3 λr hr u hu=>?_;obtain⟨r0,rfl,g0⟩:=ZgJ (aq.get hr);have qY:=Zn4 g0;have np:ab (rows.take (i+1))=ab (rows.take i)+(ab r0):=by
    exact EK
   refine B4 λrM jr=>?_;obtain⟨u0,rfl⟩:∃u0,u=[u0]:=by
    match u,jr with
    |[u0],_=>exact⟨u0,rfl⟩
   refine m95 λE4 Es lN=>?_;have nP:k+(ab (rows.take i):Int)+((ab r0:Nat):Int)<=1000000000:=om;generalize fv:k+(ab (rows.take i):Int)=kk at lN nP⊢
   refine Gz λq1 q2 hs=>?_;have lr:aY [u0]=[.A (u0)]:=rfl;refine vm λwi=>?_;have dW:=aj10 @q1 @hl @hn @hu @lr @on @ol @hs @q2 @tW;refine fB dW ?_;have F:=aj10 @q1 @hl @hn @hu @lr @on @ol @hs @q2 @tW;refine cQ [1003] [1003] (qY (kk) (Es 0) u0 om om) ?_
   rintro r pm ⟨F0,rfl,rfl⟩;refine m7 ?_;refine fR dW ?_;obtain⟨E6,fi⟩:∃E6,jn [.set E3 (λw=>bH w (bY k (rows.take i)) E3 (us.take i)),.set F0 (λw=>bp w (.sl (bY (kk) r0)) F0 u0)] [.set E6 (λw=>bH w (bY k (rows.take (i+1))) E6 ((us.set i [u0]).take (i+1)))]:=by
    have hz:=Bl (E:=E3) (done:=bY k (rows.take i)) (ud:=us.take i) (cs:=[.sl (bY (kk) r0)]) (us:=[u0]) (Es:=λ_=>F0) rfl trivial;exact EF
   have pp:us.set i [u0]=us:=by
    obtain⟨ki,he⟩:=Tad.1 hu;rw[<- he];exact List.set_getElem_self ki
   rw[pp]at fi;refine pE [1002,1003] [1002] fi ?_;have F:=aj4 @wi (by rw[np];omega:k+(ab (rows.take (i+1)):Int)=kk+(ab r0:Int)) @hl @hn;refine gG ?_;exact⟨(i+1,us,E4,E6),⟨am,hn⟩,gw,gw,om⟩
  exact EE
def ZmN(aq:bu (Zaf .bindings) rows):qQ 15 rows:=ZmM aq
def Zn5(aq:bu (Zaf .binding) rows)(c8:rows.length+ak rows<=1048576):C1 45 rows:=by
 intro k hk hb;have ez:ZaD 8 (bY k rows):=Zsq k aq.Ι;have pU:=ZhB k rows;refine gI (ts:=[.slot 4]) 9905940528262939097185124915 Tryz.func45 ?_;refine fG @aJ ?_;refine vn λF=>?_;refine gL (ι:=Nat) [1,4,5,9,19,30,40,52,60,71,81,93] [] (λx=>[(5,GU (x:Int)),(1,GU (k+(ab (rows.take x):Nat)))]) (λx=>[]) (λx=>x<=rows.length) (λx=>rows.length-x) (0) (Taj _) (λx hx=>?_)
 by_cases am:x<rows.length
 ·refine tQ λr hr=>?_;have nn:=A5 hr;obtain⟨i0,t1,i2,r3,i4,t5,i6,r7,rfl,_,_,_,g3,_,_,_,g7⟩:=Zhk (aq.get hr);simp only[ag,jE]at nn;have Al:=ZkY g3 om;have hm7:=ZkY g7 om;have np:ab (rows.take (x+1))=ab (rows.take x)+(6+ab r3+ab r7):=by
   exact Eq
  refine Em λrM hg=>?_;have e5:k+(ab (rows.take (x+1)):Int)=k+(ab (rows.take x):Int)+1+1+1+(ab r3:Int)+1+1+1+(ab r7:Int):=by rw[np];omega
  have b1:k+(ab (rows.take x):Int)+6+ab r3+ab r7<=1000000000:=om;have b0:0<=k+(ab (rows.take x):Int):=om;generalize k+(ab (rows.take x):Int)=kk at hg e5 b1 b0⊢;have q1:=lT x rows.length;refine m69 λw1 w2 w3=>?_;have w4:IntKind.i64.wrap ((x:Int)+1)=(x:Int)+1:=IntWalk.i64_in _ om
  have q5:(kk+1+1+1+(ab r3:Int)<0)=False:=eq_false om;refine m222 ?_;refine ce (aj8 @q1 @pU @ez @hg @gQ @w1 @w2 @w3) (aj4 @q1 @pU @ez @hg) (Al (kk+1+1+1) om om) @q1 ?_;generalize hj:kk+1+1+1+(ab r3:Int)=jj at hg e5 q5⊢
  have v1:IntKind.i64.wrap (jj+1)=jj+1:=IntWalk.i64_in _ om;have v2:IntKind.i64.wrap (jj+1+1)=jj+1+1:=IntWalk.i64_in _ om;have v3:IntKind.i64.wrap (jj+1+1+1)=jj+1+1+1:=IntWalk.i64_in _ om;refine ce (aj7 @q1 @q5 @pU @ez @hg @gQ @v1) (aj4 @q1 @pU @ez @hg) (Co (jj+1) om om) (aj5 @q1 @pU @ez @hg @gQ) ?_
  refine ce (aj8 @q1 @pU @ez @hg @gQ @v1 @v2 @v3) (aj4 @q1 @pU @ez @hg) (hm7 (jj+1+1+1) om om) @q1 ?_;have F:=aj3 (eq_false om:(jj+1+1+1+(ab r7:Int)<0)=False) @w4 @e5;exact m53
 exact m84
def ZmO(aq:bu (Zaf .bindings) rows)(c8:rows.length<=1048576/\∀r∈rows,ag r<=1048576):C1 16 rows:=by
 intro k hk hb;have ez:ZaD 1 (bY k rows):=Zsq k aq.Ι;have pU:=ZhB k rows;refine gI (ts:=[.slot 4]) 524851 Tryz.func16 ?_;refine fG @aJ ?_;refine vn λF=>?_;refine gL (ι:=Nat) [1,4,5,9,19] [] (λx=>[(5,GU (x:Int)),(1,GU (k+(ab (rows.take x):Nat)))]) (λx=>[]) (λx=>x<=rows.length) (λx=>rows.length-x) (0) (Taj _) (λx hx=>?_)
 by_cases am:x<rows.length
 ·refine tQ λr hr=>?_;have nn:=c8.2 r (Tac hr);have hmx1:=c8.1;have mS:=yk hr;obtain⟨r0,rfl,g0⟩:=ZgJ (aq.get hr);simp only[ag,jE]at nn;simp only[mI,vM]at mS;have qY:=Zn5 g0 om;have np:ab (rows.take (x+1))=ab (rows.take x)+(ab r0):=by
   exact EK
  refine Em λrM hg=>?_;have e5:k+(ab (rows.take (x+1)):Int)=k+(ab (rows.take x):Int)+(ab r0:Int):=by rw[np];omega
  have b1:k+(ab (rows.take x):Int)+((ab r0:Nat):Int)<=1000000000:=om;have b0:0<=k+(ab (rows.take x):Int):=om;generalize k+(ab (rows.take x):Int)=kk at hg e5 b1 b0⊢;have q1:=lT x rows.length;have wx:IntKind.i64.wrap ((x:Int)+1)=(x:Int)+1:=IntWalk.i64_in _ om;have q0a:(kk+(ab r0:Int)<0)=False:=eq_false om;have dW:=aj6 @q1 @pU @ez @hg @gQ @q0a;refine ce dW dW (qY (kk) om om) dW ?_;have F:=aj8 @wx @e5 @q1 @pU @ez @hg @gQ @q0a;exact m53
 exact m84
def ZmP(aq:bu (Zaf .bindings) rows)(c8:rows.length<=1048576/\∀r∈rows,ag r<=1048576):C1 16 rows:=ZmO aq c8
def Zrx(t:TN):(Zaf t).length<=16:=by cases t<;>decide
mutual
theorem ZIf:∀(f:F)(c:C),ix f c->kO c<=1+16*jE c
 |f,.A v,_=>by simp only[kO];omega
 |.sl t,.sl rows,h=>by
  have:=ZkK (Zaf t) rows (Zrx t) (by simpa[ix]using h);simp only[kO,jE];omega
 |.int,.sl _,h=>by simp[ix]at h
 |.str,.sl _,h=>by simp[ix]at h
 |.bool,.sl _,h=>by simp[ix]at h
 |f,.ptr _,_=>by simp[kO]
 |f,.fn _ _,_=>by simp[kO]
theorem ZkK:∀(fs:List F)(rows:sh),fs.length<=16->bu fs rows->ab rows<=16*(rows.length+ak rows)
 |fs,[],_,_=>by simp[ab]
 |fs,r::rs,hl,h=>by
  simp only[bu]at h;have h1:=Zry fs r h.1;have h2:=ZkK fs rs hl h.2;simp only[ab,ak,Tag];omega
theorem Zry:∀(fs:List F)(cs:we),bd fs cs->qh cs<=fs.length+16*ag cs
 |[],[],_=>by simp[qh]
 |f::fs,c::cs,h=>by
  simp only[bd]at h;have h1:=ZIf f c h.1;have h2:=Zry fs cs h.2;simp only[qh,ag,Tag];omega
 |[],_::_,h=>by simp[bd]at h
 |_::_,[],h=>by simp[bd]at h
end
def Zi8:∀(fs:List F)(cs:we),bd fs cs->b9 cs<=16*ag cs
 |[],[],_=>by simp[b9]
 | f::fs,c::cs,h=>by
  simp only[bd]at h;have h2:=Zi8 fs cs h.2
  cases c with
  |A v=>simp only[b9,ag];omega
  | sl rows =>
   cases f with
   |sl t =>
    have:=ZkK (Zaf t) rows (Zrx t) (by simpa[ix]using h.1);simp only[b9,ag,jE];omega
   |_=>simp[ix]at h
  |ptr _=>simp only[b9,ag];omega
  |fn _ _=>simp only[b9,ag];omega
 |[],_::_,h=>by simp[bd]at h
 |_::_,[],h=>by simp[bd]at h
def Zn6{n:Nat}(h:us.length=n):(aY us).length=n/\(aY us).take n=aY us/\(aY us).drop n=[]:=by
 have hl:(aY us).length=n:=by unfold aY;rw[Tay];exact h
 exact⟨hl,List.take_of_length_le (Nat.le_of_eq hl),List.drop_of_length_le (Nat.le_of_eq hl)⟩
def vu(h:G3:=by
 have F:=(bW (k:=x) om);exact m53):G3:=h
def AH(b:G5)(h:Bx G5->G4:=by
 intro B0
 have nn:=A5 hr;refine fB (ai @fe @bl) ?_;have F:=ai @fe @bl;exact B0.o nn F):G4:=h ⟨b⟩
def EA(h:G3:=by
 try rw[qi om]
 exact fT (lT (-1) 0)):G3:=h
def AE(b:G5)(h:Bx G5->G4:=by
 intro B0
 have wi:=bW (k:=x) om;have qU:=Zg4 hr;have qT:=Ze3 rows (x+1);exact B0.o wi qU qT):G4:=h ⟨b⟩
def En(h:G3:=by
 rw[qi (b:=ag r) q,qi om];exact fT (lT (-1) 0)):G3:=h
def Ef(h:G3:=by
 simpa[aY,Tar,and_assoc]using dV):G3:=h
def xO(b:G5)(h:Bx G5->G4:=by
 intro B0
 have fe:=aj10 hr am bw ez (lT x rows.length) hq.cells ln tk dr (@Bc C);exact B0.o fe):G4:=h ⟨b⟩
def uw(b:G5)(h:Bx G5->G4:=by
 intro B0
 refine Zdm (by kernel_rfl) λhm=>?_;exact B0.o hm):G4:=h ⟨b⟩
def GE(b:G5)(h:Bx G5->G4:=by
 intro B0
 obtain⟨r,hr⟩:∃r,rows[i]?=some r:=⟨_,Taa am⟩;exact B0.o r hr):G4:=h ⟨b⟩
def GB(b:G5)(h:Bx G5->G4:=by
 intro B0
 have w:IntKind.i64.wrap (left-(rows.length:Int))=left-(rows.length:Int):=IntWalk.i64_in _ om;exact B0.o w):G4:=h ⟨b⟩
def GA(h:G3:=by
 rw[Tbr (by simp;omega),Tbs,if_pos (by simp;omega)]):G3:=h
def B5(h:G3:=by
 ·obtain rfl:x=rows.length:=by omega
  exact fT (lF rows.length rows.length)):G3:=h
def m34(b:G5)(h:Bx G5->G4:=by
 intro B0
 have wi:=bW (k:=i) om;have fe:=aj10 hr am bw ez (lT i rows.length) hq.cells ln tk dr (@Bc C);obtain⟨k,hk⟩:∃k,rows.length-i=k+1:=⟨rows.length-i-1,om⟩;have eK:rows.length-(i+1)=k:=om;rw[hk];exact B0.o wi fe k hk eK):G4:=h ⟨b⟩
def m20(h:G3:=by
 ·obtain rfl:x=rows.length:=by omega
  have q1:=lF rows.length rows.length;rw[Tap]at hl⊢;rw[qM om,show left-((rows.length+ak rows:Nat):Int)=left-(rows.length:Int)-(ak rows:Int) by omega];exact fT @q1):G3:=h
def Gy(b:G5)(h:Bx G5->G4:=by
 intro B0
 refine fG (ai (eq_true (by unfold al;omega):((rows.length:Int)<=al)=True) @Tbz) ?_;refine pE [] [1000] vE ?_;have F:=aj3 @nla @Nat.sub_zero @AU;exact B0.o F):G4:=h ⟨b⟩
def Gx(b:G5)(h:Bx G5->G4:=by
 intro B0
 refine fG @gQ ?_;have F:=@aJ;refine gL (ι:=Nat) [4,5,14,26] [] (λx=>[(5,GU (x:Int))]) (λx=>[]) (λx=>x<=rows.length) (λx=>rows.length-x) (0) (Taj _) (λx hx=>?_);exact B0.o F x hx):G4:=h ⟨b⟩
def m13(b:G5)(h:Bx G5->G4:=by
 intro B0
 by_cases q:left<(rows.length:Int)
 ·rw[qi om];exact fT (ai @w (eq_true om:(left-(rows.length:Int)<0)=True))
 refine fG (ai @w (eq_false om:(left-(rows.length:Int)<0)=False)) ?_;have F:=aj4 @AU @Ziz @Int.natCast_zero @Int.sub_zero;refine gL (ι:=Nat) [1,4,5,15,25] [] (λx=>[(5,GU (x:Int)),(1,GU (left-(rows.length:Int)-(ak (rows.take x):Int)))]) (λx=>[]) (λx=>x<=rows.length/\0<=left-(rows.length:Int)-(ak (rows.take x):Int)) (λx=>rows.length-x) (0) (⟨Taj _,by simp[ak];omega⟩) (λx hx=>?_);exact B0.o q F x hx):G4:=h ⟨b⟩
def m8(h:G3:=by
 ·obtain rfl:i=rows.length:=by omega
  rw[Nat.sub_self,List.replicate_zero,List.append_nil,Tap];refine fG (lF rows.length rows.length) ?_;refine pS 2 λa cap=>?_;refine pE [2,1000] [1000] (Cl (λw h=>h) (bp.Κ _ _ _)) ?_;exact(have F:=aJ;ee (R:=sU rows) [1000] ⟨.slice a uss.length cap,_,rfl,rfl,rfl⟩)):G3:=h
def ZkZ(aq:bd (Zaf .term) row)(rg:∀(rows:sh),sW rows<mI row->bu (Zaf .term) rows->∀{left:Int},0<=left->left<=1048576->aI e0 19 [.I (.sl rows),GT left] [GT (sub left (rows.length+ak rows))])(h0:0<=left)(h1:left<=1048576):aI e0 5 [.agg row,GT left] [GT (sub left (ag row))]:=by
 obtain⟨i0,t1,i2,r3,rfl,g0,g1,g2,g3⟩:=zk aq;rw[show ag [GS i0,.A (.string t1),GS i2,.sl r3]=t1.size+(r3.length+ak r3) by simp only[ag,jE];omega];refine gI 133143 Tryz.func5 ?_;have hs:=g1;unfold maxLen at hs;have w:IntKind.i64.wrap (left-(t1.size:Int))=left-(t1.size:Int):=IntWalk.i64_in _ om;clear hs;by_cases q:left<(t1.size:Int)
 ·rw[qi om];exact fT (ai @w (eq_true om:(left-(t1.size:Int)<0)=True))
 have q':(left-(t1.size:Int)<0)=False:=eq_false om;refine fG (ai @w @q') ?_;obtain⟨L0,e0⟩:∃x,x=left-(t1.size:Int):=⟨_,rfl⟩;rw[<- e0];clear w q';refine ce @aJ @aJ (rg r3 (by simp only[mI,vM];omega) g3 (left:=L0) om om) @aJ ?_;by_cases q:L0<(((r3.length+ak r3):Nat):Int)
 ·rw[qi (b:=(r3.length+ak r3)) q]
  exact EA
 rw[qM (b:=(r3.length+ak r3)) om];have q':(L0-(((r3.length+ak r3):Nat):Int)<0)=False:=eq_false om;refine fG @q' ?_;obtain⟨L1,e1⟩:∃x,x=L0-(((r3.length+ak r3):Nat):Int):=⟨_,rfl⟩;rw[<- e1];clear q'
 try rw[qM om,show left-((t1.size+(r3.length+ak r3):Nat):Int)=L1 by omega]
 exact fT @aJ
def Zk0(aq:bd (Zaf .term) row)(rg:∀(rows:sh),sW rows<mI row->bu (Zaf .term) rows->aI e0 40 [.I (.sl rows),.I (.sl rows)] [GW true]):aI e0 12 [.agg row,.agg row] [GW true]:=by
 obtain⟨i0,t1,i2,r3,rfl,g0,g1,g2,g3⟩:=zk aq;refine gI 34095647 Tryz.func12 ?_;refine eH @gQ @aJ (rg r3 (by simp only[mI,vM];omega) g3) ?_;exact dM @aJ @gQ
def ZjN(aq:bd (Zaf .term) row)(rg:∀(rows:sh),sW rows<mI row->bu (Zaf .term) rows->rows.length+ak rows<=1048576->aT e0 27 [.I (.sl rows)] [] (sU rows))(hb:ag row<=1048576):aT e0 8 [.agg row] [] (kw row):=by
 obtain⟨i0,t1,i2,r3,rfl,g0,g1,g2,g3⟩:=zk aq;simp only[ag,jE]at hb;refine dX (ts:=[.cell 2 46]) [] 15 Tryz.func8 ?_;refine fB @aJ ?_;have F:=@aJ;refine cQ [] [1000] (rg r3 (by simp only[mI,vM];omega) g3 om) ?_;rintro r pm ⟨u3,E3,rfl,k3,rfl⟩;refine m7 ?_;refine ec @k3 @k3 ?_;obtain⟨E,fi⟩:∃E,jn [.set E3 (λw=>bp w (.sl r3) E3 u3)] [.set E (λw=>aV w [GS i0,.A (.string t1),GS i2,.sl r3] E [.int .i64 i0,.string t1,.int .i64 i2,u3])]:=⟨_,CN [.lits [.int .i64 i0,.string t1,.int .i64 i2],.sl E3 r3 u3]⟩
 refine pE [1000] [1000] fi ?_;exact(have F:=aJ;ee (R:=kw [GS i0,.A (.string t1),GS i2,.sl r3]) [1000] (kw.mk (row:=[GS i0,.A (.string t1),GS i2,.sl r3]) (us:=[.int .i64 i0,.string t1,.int .i64 i2,u3]) (E:=E) rfl (by simp only[aY,Tbv,List.map_nil,List.all_cons,List.all_nil,Bool.and_true,Tar];exact⟨rfl,rfl,rfl,k3⟩)))
def Zqj(aq:bu (Zaf .term) rows)(h:∀(i:Nat)r,rows[i]?=some r->∀{left:Int},0<=left->left<=1048576->aI e0 5 [.agg r,GT left] [GT (sub left (ag r))])(h0:0<=left)(h1:left<=1048576):aI e0 19 [.I (.sl rows),GT left] [GT (sub left (rows.length+ak rows))]:=by
 refine uw λhm=>?_;unfold maxLen at hm;refine GB λw=>?_;have ez:ZaD 4 rows:=ov.2 aq.Ι;refine gI 33589299 Tryz.func19 ?_;refine m13 λq F x hx=>?_
 obtain⟨hx,hl⟩:=hx;by_cases am:x<rows.length
 ·refine tQ λr hr=>?_;have hq:=aq.get hr;obtain⟨ln,tk,dr⟩:=hq.take (n:=4) rfl;refine AE λwi qU qT=>?_
  skip
  have fe:=aj10 hr am bw ez (lT x rows.length) hq.cells ln tk dr (@Bc C);obtain⟨l,cw⟩:∃l,l=left-(rows.length:Int)-(ak (rows.take x):Int):=⟨_,rfl⟩;rw[<- cw];refine ce @fe @fe (h x _ hr (left:=l) om om) @fe ?_;by_cases q:l<((ag r:Nat):Int)
  ·exact En
  rw[qM (b:=ag r) om];have F:=aj3 (eq_false om:(l-((ag r:Nat):Int)<0)=False) @wi (om:left-(rows.length:Int)-(ak (rows.take (x+1)):Int)=l-((ag r:Nat):Int));refine gG ?_;exact⟨x+1,⟨am,om⟩,gw,gw,om⟩
 exact m20
def Zqk(aq:bu (Zaf .term) rows)(h:∀(i:Nat)r,rows[i]?=some r->aI e0 12 [.agg r,.agg r] [GW true]):aI e0 40 [.I (.sl rows),.I (.sl rows)] [GW true]:=by
 refine uw λhm=>?_;unfold maxLen at hm;have ez:ZaD 4 rows:=ov.2 aq.Ι;refine gI 67126323 Tryz.func40 ?_;refine Gx λF x hx=>?_;by_cases am:x<rows.length
 ·refine tQ λr hr=>?_;have hq:=aq.get hr;obtain⟨ln,tk,dr⟩:=hq.take (n:=4) rfl;refine xO λfe=>?_;refine ce @fe @fe (h x _ hr) @fe ?_;exact vu
 exact B5
def Zpy(aq:bu (Zaf .term) rows)(h:∀(i:Nat)r,rows[i]?=some r->ag r<=1048576->aT e0 8 [.agg r] [] (kw r))(hb:rows.length+ak rows<=1048576):aT e0 27 [.I (.sl rows)] [] (sU rows):=by
 have ez:ZaD 4 rows:=ov.2 aq.Ι;refine dX (ts:=[.slot 2]) [] 2077 Tryz.func27 ?_;refine Gy λF=>?_;refine gL (ι:=Nat×AT×(GO)) [3,4,11] [3,1000] (λx=>[(4,GU (x.1:Int)),(3,.Υ 3)]) (λx=>[(3,.Υ none 46 4 (x.2.1.map aY++List.replicate (rows.length-x.1) [GS 0,C.A (.string .empty),GS 0,C.sl []])),(1000,.set x.2.2 (λw=>bH w (rows.take x.1) x.2.2 x.2.1))]) (λx=>x.1<=rows.length/\x.2.1.length=x.1) (λx=>rows.length-x.1) ((0,[],λ_=>False)) (⟨Taj _,rfl⟩) (λx hx=>?_)
 obtain⟨i,uss,E⟩:=x;obtain⟨hi,hn⟩:=hx;simp only at hi hn;dsimp only;by_cases am:i<rows.length
 ·refine GE λr hr=>?_;have hq:=aq.get hr;obtain⟨ln,tk,dr⟩:=hq.take (n:=4) rfl;refine m34 λwi fe k hk eK=>?_;have bl:(uss.map aY++List.replicate (k+1) [GS 0,C.A (.string .empty),GS 0,C.sl []]).length=rows.length:=by simp;omega
  have bs:∀X,(uss.map aY++List.replicate (k+1) [GS 0,C.A (.string .empty),GS 0,C.sl []]).set i X=(uss.map aY++[X])++List.replicate k [GS 0,C.A (.string .empty),GS 0,C.sl []]:=λX=>Fw _ _ _ _ _ (by simp[hn]);have bg:(uss.map aY++List.replicate (k+1) [GS 0,C.A (.string .empty),GS 0,C.sl []])[i]?=some [GS 0,C.A (.string .empty),GS 0,C.sl []]:=by exact GA
  refine AH λnn F=>?_;refine cQ [] [1001] (h i _ hr om) ?_;rintro r' pm ⟨us,E2,rfl,hu,dV,rfl⟩;rw[ln]at hu;obtain⟨u0,u1,u2,u3,rfl⟩:=len4 hu;have dV:bQ (.A u0)/\bQ (.A u1)/\bQ (.A u2)/\bQ (.A u3):=by exact Ef
  obtain⟨k0,k1,k2,k3⟩:=dV;have lr:aY [u0,u1,u2,u3]=[.A u0,.A u1,.A u2,.A u3]:=rfl;rw[lr];refine m7 ?_;refine fR (aj8 @am @bl @bs @bg @k0 @k1 @k2 @k3) ?_;refine pE [1000,1001] [1000] (CI (G':=λw=>bH w (rows.take (i+1)) (λb=>E b\/E2 b) (uss++[[u0,u1,u2,u3]])) (λw h1 h2 hd=>?_) (bH.Κ _ _ _)) ?_
  ·rw[tks hr];exact m81
  have F:=aj5 @bs @wi @eK @lr ((@Tbw.{0,0}));exact m173
 exact m8
def Zzk(n:Nat):(∀rows,sW rows<n->bu (Zaf .term) rows->∀{left:Int},0<=left->left<=1048576->aI e0 19 [.I (.sl rows),GT left] [GT (sub left (rows.length+ak rows))]):=by
 induction n with
 |zero=>exactλrows h=>absurd h om
 |succ n ih =>
  exactλrows hn aq{left}h0 h1=>Zqj aq (λi r hr left h0 h1=>ZkZ (aq.get hr) (λse h2 ok2=>ih se (by have:=yk hr;omega) ok2) h0 h1) h0 h1
def Zpz(aq:bd (Zaf .term) row)(h0:0<=left)(h1:left<=1048576):aI e0 5 [.agg row,GT left] [GT (sub left (ag row))]:=ZkZ aq (λrows _ ok=>(Zzk _) rows (Tan _) ok) h0 h1
def Zzl(n:Nat):(∀rows,sW rows<n->bu (Zaf .term) rows->aI e0 40 [.I (.sl rows),.I (.sl rows)] [GW true]):=by
 induction n with
 |zero=>exactλrows h=>absurd h om
 |succ n ih =>
  exactλrows hn aq=>Zqk aq (λi r hr=>Zk0 (aq.get hr) (λse h2 ok2=>ih se (by have:=yk hr;omega) ok2))
def ZhO(aq:bd (Zaf .term) row):aI e0 12 [.agg row,.agg row] [GW true]:=Zk0 aq (λrows _ ok=>(Zzl _) rows (Tan _) ok)
def Zzm(n:Nat):(∀rows,sW rows<n->bu (Zaf .term) rows->rows.length+ak rows<=1048576->aT e0 27 [.I (.sl rows)] [] (sU rows)):=by
 induction n with
 |zero=>exactλrows h=>absurd h om
 |succ n ih =>
  exactλrows hn aq hb=>Zpy aq (λi r hr hb=>ZjN (aq.get hr) (λse h2 ok2=>ih se (by have:=yk hr;omega) ok2) hb) hb
def Zjp(aq:bd (Zaf .term) row)(hb:ag row<=1048576):aT e0 8 [.agg row] [] (kw row):=ZjN aq (λrows _ ok=>(Zzm _) rows (Tan _) ok) hb
def ZpA(aq:bd (Zaf .term) row)(hb:ag row<=1048576):aI e0 8 [.agg row] [.agg row]:=ZtZ (Zjp aq hb)
def m274(h:G3:=by
 have F:=aj3 @gQ (bW (k:=x) om) (aj5 hr am bw ez (lT x rows.length));exact m53):G3:=h
def m202(b:G5)(h:Bx G5->G4:=by
 intro B0
 have wi:=bW (k:=i) om;have fe:=aj5 hr am bw ez (lT i rows.length);obtain⟨k,hk⟩:∃k,rows.length-i=k+1:=⟨rows.length-i-1,om⟩;have eK:rows.length-(i+1)=k:=om;rw[hk];exact B0.o wi fe k hk eK):G4:=h ⟨b⟩
def vp(b:G5)(h:Bx G5->G4:=by
 intro B0
 have ez:ZaD 1 rows:=ov.2 aq.Ι;exact B0.o ez):G4:=h ⟨b⟩
def m138(b:G5)(h:Bx G5->G4:=by
 intro B0
 refine fG @gQ ?_;have F:=@aJ;refine gL (ι:=Nat) [4,5,14,25] [] (λx=>[(5,GU (x:Int))]) (λx=>[]) (λx=>x<=rows.length) (λx=>rows.length-x) (0) (Taj _) (λx hx=>?_);exact B0.o F x hx):G4:=h ⟨b⟩
def m87(h:G3:=by
 by_cases q:left<(rows.length:Int)
 ·rw[qi om];exact fT (ai @w (eq_true om:(left-(rows.length:Int)<0)=True))
 rw[qM om];exact fT (ai @w (eq_false om:(left-(rows.length:Int)<0)=False))):G3:=h
def Zzn(aq:bu (Zaf .int) rows)(h0:0<=left)(h1:left<=1048576):aI e0 190 [.I (.sl rows),GT left] [GT (sub left (rows.length+ak rows))]:=by
 refine uw λhm=>?_;unfold maxLen at hm;refine GB λw=>?_;rw[Zy1 (fs:=Zaf .int) (by rfl) aq,Nat.add_zero];refine gI 1043 Tryz.func190 ?_;exact m87
def Zzo(aq:bu (Zaf .int) rows):aI e0 214 [.I (.sl rows),.I (.sl rows)] [GW true]:=by
 refine uw λhm=>?_;unfold maxLen at hm;refine vp λez=>?_;refine gI 33571891 Tryz.func214 ?_;refine m138 λF x hx=>?_;by_cases am:x<rows.length
 ·refine tQ λr hr=>?_;obtain⟨x0,rfl,g0⟩:=ZiQ (aq.get hr);exact m274
 exact B5
def ZvO(aq:bu (Zaf .int) rows)(hb:rows.length+ak rows<=1048576):aT e0 201 [.I (.sl rows)] [] (sU rows):=by
 refine vp λez=>?_;refine dX (ts:=[.slot 2]) [] 2077 Tryz.func201 ?_;refine Gy λF=>?_;refine gL (ι:=Nat×AT×(GO)) [3,4,11] [3,1000] (λx=>[(4,GU (x.1:Int)),(3,.Υ 3)]) (λx=>[(3,.Υ none 3 1 (x.2.1.map aY++List.replicate (rows.length-x.1) [GS 0])),(1000,.set x.2.2 (λw=>bH w (rows.take x.1) x.2.2 x.2.1))]) (λx=>x.1<=rows.length/\x.2.1.length=x.1) (λx=>rows.length-x.1) ((0,[],λ_=>False)) (⟨Taj _,rfl⟩) (λx hx=>?_)
 obtain⟨i,uss,E⟩:=x;obtain⟨hi,hn⟩:=hx;simp only at hi hn;dsimp only;by_cases am:i<rows.length
 ·refine GE λr hr=>?_;obtain⟨x0,rfl,g0⟩:=ZiQ (aq.get hr);refine m202 λwi fe k hk eK=>?_;have bl:(uss.map aY++List.replicate (k+1) [GS 0]).length=rows.length:=by simp;omega
  have bs:∀X,(uss.map aY++List.replicate (k+1) [GS 0]).set i X=(uss.map aY++[X])++List.replicate k [GS 0]:=λX=>Fw _ _ _ _ _ (by simp[hn]);have bg:(uss.map aY++List.replicate (k+1) [GS 0])[i]?=some [GS 0]:=by exact GA
  refine pE [1000] [1000] (ZCC (G':=λw=>bH w (rows.take (i+1)) E (uss++[[.int .i64 x0]])) (λw h=>?_) (bH.Κ _ _ _)) ?_
  ·rw[tks hr];exact bH.snoc (S2:=λ_=>False) h (aV.lits (us:=[.int .i64 x0])) (λ_ h=>h) (λ_ h=>h.elim) (λ_ _ h=>h)
  have F:=aj8 @fe @bl @bs @bg @wi @eK @ZG8 ((@Tbw.{0,0}));refine gG ?_;exact⟨(i+1,uss++[[.int .i64 x0]],E),⟨am,by simp[hn]⟩,gw,gw,om⟩
 exact m8
end Go.Proofs.YtaenibhihgfehaaGreatDoor
