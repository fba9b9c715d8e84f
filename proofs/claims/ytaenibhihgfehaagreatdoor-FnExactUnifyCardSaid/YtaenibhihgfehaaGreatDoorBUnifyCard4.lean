/-
  Part of a proof.
-/
import Derived.Test.YtaenibhihgfehaaGreatDoorBUnifyCard0
import Derived.Test.YtaenibhihgfehaaGreatDoorBUnifyCard1
import Derived.Test.YtaenibhihgfehaaGreatDoorBUnifyCard2
import Derived.Test.YtaenibhihgfehaaGreatDoorBUnifyCard3
set_option linter.unusedSimpArgs false
set_option linter.unusedVariables false
set_option linter.defProp false
set_option maxHeartbeats 400000000
set_option maxRecDepth 100000
namespace Go.Proofs.YtaenibhihgfehaaGreatDoor
open Go.RowKit
variable{G3 G4 G5:Prop}
variable{row:we}{rows:sh}{left:Int}
def m59(b:G5)(h:Bx G5->G4:=by
 intro B0
 by_cases q:left<(((r0.length+ak r0):Nat):Int)
 ·rw[qi (b:=(r0.length+ak r0)) q]
  try rw[qi om]
  exact fT (lT (-1) 0)
 rw[qM (b:=(r0.length+ak r0)) om];have q':(left-(((r0.length+ak r0):Nat):Int)<0)=False:=eq_false om;refine fG @q' ?_;obtain⟨L0,e0⟩:∃x,x=left-(((r0.length+ak r0):Nat):Int):=⟨_,rfl⟩;rw[<- e0];clear q';exact B0.o q L0 e0):G4:=h ⟨b⟩
def Zzp{row:we}(aq:bd (Zaf .decl) row){left:Int}(h0:0<=left)(h1:left<=1048576):aI e0 144 [.agg row,GT left] [GT (sub left (ag row))]:=by
 obtain⟨r0,i1,rfl,g0,g1⟩:=Zgi aq;rw[show ag [.sl r0,GS i1]=(r0.length+ak r0) by simp only[ag,jE];omega];refine gI 1047 Tryz.func144 ?_;refine ce @aJ @aJ (Zzn g0 (left:=left) om om) @aJ ?_;refine m59 λq L0 e0=>?_
 try rw[qM om,show left-(((r0.length+ak r0):Nat):Int)=L0 by omega]
 exact fT @aJ
def Zzq(aq:bd (Zaf .decl) row):aI e0 189 [.agg row,.agg row] [GW true]:=by
 obtain⟨r0,i1,rfl,g0,g1⟩:=Zgi aq;refine gI 33823 Tryz.func189 ?_;refine eH @gQ @aJ (Zzo g0) ?_;exact dM @aJ @gQ
def ZvP(aq:bd (Zaf .decl) row)(hb:ag row<=1048576):aT e0 160 [.agg row] [] (kw row):=by
 obtain⟨r0,i1,rfl,g0,g1⟩:=Zgi aq;simp only[ag,jE]at hb;refine dX (ts:=[.cell 2 163]) [] 15 Tryz.func160 ?_;refine fB @aJ ?_;have F:=@aJ;refine cQ [] [1000] (ZvO g0 om) ?_;rintro r pm ⟨u0,E0,rfl,k0,rfl⟩;refine m7 ?_;refine ec @k0 @k0 ?_;obtain⟨E,fi⟩:∃E,jn [.set E0 (λw=>bp w (.sl r0) E0 u0)] [.set E (λw=>aV w [.sl r0,GS i1] E [u0,.int .i64 i1])]:=⟨_,CN [.sl E0 r0 u0,.lits [.int .i64 i1]]⟩
 refine pE [1000] [1000] fi ?_;exact(have F:=aJ;ee (R:=kw [.sl r0,GS i1]) [1000] (kw.mk (row:=[.sl r0,GS i1]) (us:=[u0,.int .i64 i1]) (E:=E) rfl (by simp only[aY,Tbv,List.map_nil,List.all_cons,List.all_nil,Bool.and_true,Tar];exact⟨k0,rfl⟩)))
def m267(h:G3:=by
 rintro r' pm ⟨us,E2,rfl,hu,dV,rfl⟩;rw[ln]at hu;obtain⟨u0,u1,rfl⟩:=pr hu;have dV:bQ (.A u0)/\bQ (.A u1):=by exact Ef
 obtain⟨k0,k1⟩:=dV;have lr:aY [u0,u1]=[.A u0,.A u1]:=rfl;rw[lr];refine m7 ?_;exact m41):G3:=h
def m41(h:G3:=by
 refine fR (aj6 @am @bl @bs @bg @k0 @k1) ?_;refine pE [1000,1001] [1000] (CI (G':=λw=>bH w (rows.take (i+1)) (λb=>E b\/E2 b) (uss++[[u0,u1]])) (λw h1 h2 hd=>?_) (bH.Κ _ _ _)) ?_
 ·rw[tks hr];exact bH.snoc h1 h2 (λ_ h=>.inl h) (λ_ h=>.inr h) hd
 have F:=aj5 @bs @wi @eK @lr ((@Tbw.{0,0}));refine gG ?_;exact⟨(i+1,uss++[[u0,u1]],λb=>E b\/E2 b),⟨am,by simp[hn]⟩,gw,gw,om⟩):G3:=h
def ZvQ(aq:bu (Zaf .decl) rows)(h0:0<=left)(h1:left<=1048576):aI e0 88 [.I (.sl rows),GT left] [GT (sub left (rows.length+ak rows))]:=by
 refine uw λhm=>?_;unfold maxLen at hm;refine GB λw=>?_;have ez:ZaD 2 rows:=ov.2 aq.Ι;refine gI 33589299 Tryz.func88 ?_;refine m13 λq F x hx=>?_
 obtain⟨hx,hl⟩:=hx;by_cases am:x<rows.length
 ·refine tQ λr hr=>?_;have hq:=aq.get hr;obtain⟨ln,tk,dr⟩:=hq.take (n:=2) rfl;refine AE λwi qU qT=>?_
  skip
  have fe:=aj10 hr am bw ez (lT x rows.length) hq.cells ln tk dr (@Bc C);obtain⟨l,cw⟩:∃l,l=left-(rows.length:Int)-(ak (rows.take x):Int):=⟨_,rfl⟩;rw[<- cw];refine ce @fe @fe (Zzp hq (left:=l) om om) @fe ?_;by_cases q:l<((ag r:Nat):Int)
  ·exact En
  rw[qM (b:=ag r) om];have F:=aj3 (eq_false om:(l-((ag r:Nat):Int)<0)=False) @wi (om:left-(rows.length:Int)-(ak (rows.take (x+1)):Int)=l-((ag r:Nat):Int));refine gG ?_;exact⟨x+1,⟨am,om⟩,gw,gw,om⟩
 exact m20
def ZvR(aq:bu (Zaf .decl) rows):aI e0 142 [.I (.sl rows),.I (.sl rows)] [GW true]:=by
 refine uw λhm=>?_;unfold maxLen at hm;have ez:ZaD 2 rows:=ov.2 aq.Ι;refine gI 67126323 Tryz.func142 ?_;refine Gx λF x hx=>?_;by_cases am:x<rows.length
 ·refine tQ λr hr=>?_;have hq:=aq.get hr;obtain⟨ln,tk,dr⟩:=hq.take (n:=2) rfl;refine xO λfe=>?_;refine ce @fe @fe (Zzq hq) @fe ?_;exact vu
 exact B5
def ZuL{rows:sh}(aq:bu (Zaf .decl) rows)(hb:rows.length+ak rows<=1048576):aT e0 104 [.I (.sl rows)] [] (sU rows):=by
 have ez:ZaD 2 rows:=ov.2 aq.Ι;refine dX (ts:=[.slot 2]) [] 2077 Tryz.func104 ?_;refine Gy λF=>?_;refine gL (ι:=Nat×AT×(GO)) [3,4,11] [3,1000] (λx=>[(4,GU (x.1:Int)),(3,.Υ 3)]) (λx=>[(3,.Υ none 163 2 (x.2.1.map aY++List.replicate (rows.length-x.1) [C.sl [],GS 0])),(1000,.set x.2.2 (λw=>bH w (rows.take x.1) x.2.2 x.2.1))]) (λx=>x.1<=rows.length/\x.2.1.length=x.1) (λx=>rows.length-x.1) ((0,[],λ_=>False)) (⟨Taj _,rfl⟩) (λx hx=>?_)
 obtain⟨i,uss,E⟩:=x;obtain⟨hi,hn⟩:=hx;simp only at hi hn;dsimp only;by_cases am:i<rows.length
 ·refine GE λr hr=>?_;have hq:=aq.get hr;obtain⟨ln,tk,dr⟩:=hq.take (n:=2) rfl;refine m34 λwi fe k hk eK=>?_;have bl:(uss.map aY++List.replicate (k+1) [C.sl [],GS 0]).length=rows.length:=by simp;omega
  have bs:∀X,(uss.map aY++List.replicate (k+1) [C.sl [],GS 0]).set i X=(uss.map aY++[X])++List.replicate k [C.sl [],GS 0]:=λX=>Fw _ _ _ _ _ (by simp[hn]);have bg:(uss.map aY++List.replicate (k+1) [C.sl [],GS 0])[i]?=some [C.sl [],GS 0]:=by exact GA
  refine AH λnn F=>?_;refine cQ [] [1001] (ZvP hq om) ?_;exact m267
 exact m8
def m60(b:G5)(h:Bx G5->G4:=by
 intro B0
 by_cases q:L0<(((r1.length+ak r1):Nat):Int)
 ·rw[qi (b:=(r1.length+ak r1)) q]
  try rw[qi om]
  exact fT (lT (-1) 0)
 rw[qM (b:=(r1.length+ak r1)) om];have q':(L0-(((r1.length+ak r1):Nat):Int)<0)=False:=eq_false om;refine fG @q' ?_;obtain⟨L1,e1⟩:∃x,x=L0-(((r1.length+ak r1):Nat):Int):=⟨_,rfl⟩;rw[<- e1];clear q';exact B0.o q L1 e1):G4:=h ⟨b⟩
def ZFz{row:we}(aq:bd (Zaf .op) row){left:Int}(h0:0<=left)(h1:left<=1048576):aI e0 48 [.agg row,GT left] [GT (sub left (ag row))]:=by
 obtain⟨t0,r1,p2,p3,i4,rfl,g0,g1,g2,g3,g4⟩:=Zh8 aq;rw[show ag [.A (.string t0),.sl r1,GV p2,GV p3,GS i4]=t0.size+(r1.length+ak r1) by simp only[ag,jE];omega];refine gI 133143 Tryz.func48 ?_;have hs:=g0;unfold maxLen at hs;have w:IntKind.i64.wrap (left-(t0.size:Int))=left-(t0.size:Int):=IntWalk.i64_in _ om;clear hs;by_cases q:left<(t0.size:Int)
 ·rw[qi om];exact fT (ai @w (eq_true om:(left-(t0.size:Int)<0)=True))
 have q':(left-(t0.size:Int)<0)=False:=eq_false om;refine fG (ai @w @q') ?_;obtain⟨L0,e0⟩:∃x,x=left-(t0.size:Int):=⟨_,rfl⟩;rw[<- e0];clear w q';refine ce @aJ @aJ (ZvQ g1 (left:=L0) om om) @aJ ?_;refine m60 λq L1 e1=>?_
 try rw[qM om,show left-((t0.size+(r1.length+ak r1):Nat):Int)=L1 by omega]
 exact fT @aJ
def ZFA(aq:bd (Zaf .op) row):aI e0 82 [.agg row,.agg row] [GW true]:=by
 obtain⟨t0,r1,p2,p3,i4,rfl,g0,g1,g2,g3,g4⟩:=Zh8 aq;refine gI 1108378143 Tryz.func82 ?_;refine eH @gQ @aJ (ZvR g1) ?_;exact dM @aJ @gQ
def ZDX(aq:bd (Zaf .op) row)(hb:ag row<=1048576):aT e0 58 [.agg row] [] (kw row):=by
 obtain⟨t0,r1,p2,p3,i4,rfl,g0,g1,g2,g3,g4⟩:=Zh8 aq;simp only[ag,jE]at hb;refine dX (ts:=[.cell 2 99]) [] 15 Tryz.func58 ?_;refine fB @aJ ?_;have F:=@aJ;refine cQ [] [1000] (ZuL g1 om) ?_;rintro r pm ⟨u1,E1,rfl,k1,rfl⟩;refine m7 ?_;refine ec @k1 @k1 ?_;obtain⟨E,fi⟩:∃E,jn [.set E1 (λw=>bp w (.sl r1) E1 u1)] [.set E (λw=>aV w [.A (.string t0),.sl r1,GV p2,GV p3,GS i4] E [.string t0,u1,.bool p2,.bool p3,.int .i64 i4])]:=⟨_,CN [.lits [.string t0],.sl E1 r1 u1,.lits [.bool p2,.bool p3,.int .i64 i4]]⟩
 refine pE [1000] [1000] fi ?_;exact(have F:=aJ;ee (R:=kw [.A (.string t0),.sl r1,GV p2,GV p3,GS i4]) [1000] (kw.mk (row:=[.A (.string t0),.sl r1,GV p2,GV p3,GS i4]) (us:=[.string t0,u1,.bool p2,.bool p3,.int .i64 i4]) (E:=E) rfl (by simp only[aY,Tbv,List.map_nil,List.all_cons,List.all_nil,Bool.and_true,Tar];exact⟨rfl,k1,rfl,rfl,rfl⟩)))
def ZDY(aq:bu (Zaf .op) rows)(h0:0<=left)(h1:left<=1048576):aI e0 18 [.I (.sl rows),GT left] [GT (sub left (rows.length+ak rows))]:=by
 refine uw λhm=>?_;unfold maxLen at hm;refine GB λw=>?_;have ez:ZaD 5 rows:=ov.2 aq.Ι;refine gI 33589299 Tryz.func18 ?_;refine m13 λq F x hx=>?_
 obtain⟨hx,hl⟩:=hx;by_cases am:x<rows.length
 ·refine tQ λr hr=>?_;have hq:=aq.get hr;obtain⟨ln,tk,dr⟩:=hq.take (n:=5) rfl;refine AE λwi qU qT=>?_
  skip
  have fe:=aj10 hr am bw ez (lT x rows.length) hq.cells ln tk dr (@Bc C);obtain⟨l,cw⟩:∃l,l=left-(rows.length:Int)-(ak (rows.take x):Int):=⟨_,rfl⟩;rw[<- cw];refine ce @fe @fe (ZFz hq (left:=l) om om) @fe ?_;by_cases q:l<((ag r:Nat):Int)
  ·exact En
  rw[qM (b:=ag r) om];have F:=aj3 (eq_false om:(l-((ag r:Nat):Int)<0)=False) @wi (om:left-(rows.length:Int)-(ak (rows.take (x+1)):Int)=l-((ag r:Nat):Int));refine gG ?_;exact⟨x+1,⟨am,om⟩,gw,gw,om⟩
 exact m20
def ZDZ(aq:bu (Zaf .op) rows):aI e0 39 [.I (.sl rows),.I (.sl rows)] [GW true]:=by
 refine uw λhm=>?_;unfold maxLen at hm;have ez:ZaD 5 rows:=ov.2 aq.Ι;refine gI 67126323 Tryz.func39 ?_;refine Gx λF x hx=>?_;by_cases am:x<rows.length
 ·refine tQ λr hr=>?_;have hq:=aq.get hr;obtain⟨ln,tk,dr⟩:=hq.take (n:=5) rfl;refine xO λfe=>?_;refine ce @fe @fe (ZFA hq) @fe ?_;exact vu
 exact B5
def Zzr(aq:bu (Zaf .op) rows)(hb:rows.length+ak rows<=1048576):aT e0 26 [.I (.sl rows)] [] (sU rows):=by
 have ez:ZaD 5 rows:=ov.2 aq.Ι;refine dX (ts:=[.slot 2]) [] 2077 Tryz.func26 ?_;refine Gy λF=>?_;refine gL (ι:=Nat×AT×(GO)) [3,4,11] [3,1000] (λx=>[(4,GU (x.1:Int)),(3,.Υ 3)]) (λx=>[(3,.Υ none 99 5 (x.2.1.map aY++List.replicate (rows.length-x.1) [C.A (.string .empty),C.sl [],GV false,GV false,GS 0])),(1000,.set x.2.2 (λw=>bH w (rows.take x.1) x.2.2 x.2.1))]) (λx=>x.1<=rows.length/\x.2.1.length=x.1) (λx=>rows.length-x.1) ((0,[],λ_=>False)) (⟨Taj _,rfl⟩) (λx hx=>?_)
 obtain⟨i,uss,E⟩:=x;obtain⟨hi,hn⟩:=hx;simp only at hi hn;dsimp only;by_cases am:i<rows.length
 ·refine GE λr hr=>?_;have hq:=aq.get hr;obtain⟨ln,tk,dr⟩:=hq.take (n:=5) rfl;refine m34 λwi fe k hk eK=>?_;have bl:(uss.map aY++List.replicate (k+1) [C.A (.string .empty),C.sl [],GV false,GV false,GS 0]).length=rows.length:=by simp;omega
  have bs:∀X,(uss.map aY++List.replicate (k+1) [C.A (.string .empty),C.sl [],GV false,GV false,GS 0]).set i X=(uss.map aY++[X])++List.replicate k [C.A (.string .empty),C.sl [],GV false,GV false,GS 0]:=λX=>Fw _ _ _ _ _ (by simp[hn]);have bg:(uss.map aY++List.replicate (k+1) [C.A (.string .empty),C.sl [],GV false,GV false,GS 0])[i]?=some [C.A (.string .empty),C.sl [],GV false,GV false,GS 0]:=by exact GA
  refine AH λnn F=>?_;refine cQ [] [1001] (ZDX hq om) ?_;rintro r' pm ⟨us,E2,rfl,hu,dV,rfl⟩;rw[ln]at hu;obtain⟨u0,u1,u2,u3,u4,rfl⟩:=len5 hu;have dV:bQ (.A u0)/\bQ (.A u1)/\bQ (.A u2)/\bQ (.A u3)/\bQ (.A u4):=by exact Ef
  obtain⟨k0,k1,k2,k3,k4⟩:=dV;have lr:aY [u0,u1,u2,u3,u4]=[.A u0,.A u1,.A u2,.A u3,.A u4]:=rfl;rw[lr];refine m7 ?_;refine fR (aj9 @am @bl @bs @bg @k0 @k1 @k2 @k3 @k4) ?_;refine pE [1000,1001] [1000] (CI (G':=λw=>bH w (rows.take (i+1)) (λb=>E b\/E2 b) (uss++[[u0,u1,u2,u3,u4]])) (λw h1 h2 hd=>?_) (bH.Κ _ _ _)) ?_
  ·rw[tks hr];exact m81
  have F:=aj5 @bs @wi @eK @lr ((@Tbw.{0,0}));refine gG ?_;exact⟨(i+1,uss++[[u0,u1,u2,u3,u4]],λb=>E b\/E2 b),⟨am,by simp[hn]⟩,gw,gw,om⟩
 exact m8
def ZrW(aq:bu (Zaf .str) rows)(h0:0<=left)(h1:left<=1048576):aI e0 46 [.I (.sl rows),GT left] [GT (sub left (rows.length+ak rows))]:=by
 refine uw λhm=>?_;unfold maxLen at hm;refine GB λw=>?_;refine vp λez=>?_;refine gI 67143731 Tryz.func46 ?_;by_cases q:left<(rows.length:Int)
 ·rw[qi om];exact fT (ai @w (eq_true om:(left-(rows.length:Int)<0)=True))
 have q':(left-(rows.length:Int)<0)=False:=eq_false om;refine fG (ai @w @q') ?_;have F:=aj4 @AU @Ziz @Int.natCast_zero @Int.sub_zero;refine gL (ι:=Nat) [1,4,5,15,26] [] (λx=>[(5,GU (x:Int)),(1,GU (left-(rows.length:Int)-(ak (rows.take x):Int)))]) (λx=>[]) (λx=>x<=rows.length/\0<=left-(rows.length:Int)-(ak (rows.take x):Int)) (λx=>rows.length-x) (0) (⟨Taj _,by simp[ak];omega⟩) (λx hx=>?_)
 obtain⟨hx,hl⟩:=hx;by_cases am:x<rows.length
 ·refine tQ λr hr=>?_;obtain⟨x0,rfl,g0⟩:=Ze8 (aq.get hr);refine AE λwi qU qT=>?_;have mP:ag [.A (.string x0)]=x0.size:=by simp[ag,jE]
  have fe:=aj5 hr am bw ez (lT x rows.length);obtain⟨l,cw⟩:∃l,l=left-(rows.length:Int)-(ak (rows.take x):Int):=⟨_,rfl⟩;rw[<- cw];have hs:=g0;unfold maxLen at hs;have w:IntKind.i64.wrap (l-(x0.size:Int))=l-(x0.size:Int):=IntWalk.i64_in _ om;by_cases q:l<(x0.size:Int)
  ·rw[qi om];exact fT (aj3 @w (eq_true om:(l-(x0.size:Int)<0)=True) @fe)
  have q':(l-(x0.size:Int)<0)=False:=eq_false om;refine fG (aj3 @w @q' @fe) ?_;have F:=aj3 @q' @wi (om:left-(rows.length:Int)-(ak (rows.take (x+1)):Int)=l-((x0.size:Nat):Int));refine gG ?_;exact⟨x+1,⟨am,om⟩,gw,gw,om⟩
 exact m20
def ZrX(aq:bu (Zaf .str) rows):aI e0 80 [.I (.sl rows),.I (.sl rows)] [GW true]:=by
 refine uw λhm=>?_;unfold maxLen at hm;refine vp λez=>?_;refine gI 33571891 Tryz.func80 ?_;refine m138 λF x hx=>?_;by_cases am:x<rows.length
 ·refine tQ λr hr=>?_;obtain⟨x0,rfl,g0⟩:=Ze8 (aq.get hr);exact m274
 exact B5
def Zql(aq:bu (Zaf .str) rows)(hb:rows.length+ak rows<=1048576):aT e0 56 [.I (.sl rows)] [] (sU rows):=by
 refine vp λez=>?_;refine dX (ts:=[.slot 2]) [] 2077 Tryz.func56 ?_;refine Gy λF=>?_;refine gL (ι:=Nat×AT×(GO)) [3,4,11] [3,1000] (λx=>[(4,GU (x.1:Int)),(3,.Υ 3)]) (λx=>[(3,.Υ none 9 1 (x.2.1.map aY++List.replicate (rows.length-x.1) [C.A (.string .empty)])),(1000,.set x.2.2 (λw=>bH w (rows.take x.1) x.2.2 x.2.1))]) (λx=>x.1<=rows.length/\x.2.1.length=x.1) (λx=>rows.length-x.1) ((0,[],λ_=>False)) (⟨Taj _,rfl⟩) (λx hx=>?_)
 obtain⟨i,uss,E⟩:=x;obtain⟨hi,hn⟩:=hx;simp only at hi hn;dsimp only;by_cases am:i<rows.length
 ·refine GE λr hr=>?_;obtain⟨x0,rfl,g0⟩:=Ze8 (aq.get hr);refine m202 λwi fe k hk eK=>?_;have bl:(uss.map aY++List.replicate (k+1) [C.A (.string .empty)]).length=rows.length:=by simp;omega
  have bs:∀X,(uss.map aY++List.replicate (k+1) [C.A (.string .empty)]).set i X=(uss.map aY++[X])++List.replicate k [C.A (.string .empty)]:=λX=>Fw _ _ _ _ _ (by simp[hn]);have bg:(uss.map aY++List.replicate (k+1) [C.A (.string .empty)])[i]?=some [C.A (.string .empty)]:=by exact GA
  refine pE [1000] [1000] (ZCC (G':=λw=>bH w (rows.take (i+1)) E (uss++[[.string x0]])) (λw h=>?_) (bH.Κ _ _ _)) ?_
  ·rw[tks hr];exact bH.snoc (S2:=λ_=>False) h (aV.lits (us:=[.string x0])) (λ_ h=>h) (λ_ h=>h.elim) (λ_ _ h=>h)
  have F:=aj8 @fe @bl @bs @bg @wi @eK @ZG8 ((@Tbw.{0,0}));refine gG ?_;exact⟨(i+1,uss++[[.string x0]],E),⟨am,by simp[hn]⟩,gw,gw,om⟩
 exact m8
def ZD0(aq:bd (Zaf .sub) row):aI e0 141 [.agg row,.agg row] [GW true]:=by
 obtain⟨i0,i1,rfl,g0,g1⟩:=ZiR aq;refine gI 16927 Tryz.func141 ?_;exact fT @gQ
def Zzs(aq:bd (Zaf .sub) row)(hb:ag row<=1048576):aT e0 103 [.agg row] [] (kw row):=by
 obtain⟨i0,i1,rfl,g0,g1⟩:=ZiR aq;simp only[ag,jE]at hb;refine dX (ts:=[.cell 2 153]) [] 15 Tryz.func103 ?_;refine fG @aJ ?_;obtain⟨E,fi⟩:∃E,jn [] [.set E (λw=>aV w [GS i0,GS i1] E [.int .i64 i0,.int .i64 i1])]:=⟨_,CN [.lits [.int .i64 i0,.int .i64 i1]]⟩;refine pE [] [1000] fi ?_;exact(have F:=aJ;ee (R:=kw [GS i0,GS i1]) [1000] (kw.mk (row:=[GS i0,GS i1]) (us:=[.int .i64 i0,.int .i64 i1]) (E:=E) rfl (by simp only[aY,Tbv,List.map_nil,List.all_cons,List.all_nil,Bool.and_true,Tar];exact⟨rfl,rfl⟩)))
def Zzt(aq:bu (Zaf .sub) rows)(h0:0<=left)(h1:left<=1048576):aI e0 47 [.I (.sl rows),GT left] [GT (sub left (rows.length+ak rows))]:=by
 refine uw λhm=>?_;unfold maxLen at hm;refine GB λw=>?_;rw[Zy1 (fs:=Zaf .sub) (by rfl) aq,Nat.add_zero];refine gI 1043 Tryz.func47 ?_;exact m87
def Zzu(aq:bu (Zaf .sub) rows):aI e0 81 [.I (.sl rows),.I (.sl rows)] [GW true]:=by
 refine uw λhm=>?_;unfold maxLen at hm;have ez:ZaD 2 rows:=ov.2 aq.Ι;refine gI 67126323 Tryz.func81 ?_;refine Gx λF x hx=>?_;by_cases am:x<rows.length
 ·refine tQ λr hr=>?_;have hq:=aq.get hr;obtain⟨ln,tk,dr⟩:=hq.take (n:=2) rfl;refine xO λfe=>?_;refine ce @fe @fe (ZD0 hq) @fe ?_;exact vu
 exact B5
def ZvS{rows:sh}(aq:bu (Zaf .sub) rows)(hb:rows.length+ak rows<=1048576):aT e0 57 [.I (.sl rows)] [] (sU rows):=by
 have ez:ZaD 2 rows:=ov.2 aq.Ι;refine dX (ts:=[.slot 2]) [] 2077 Tryz.func57 ?_;refine Gy λF=>?_;refine gL (ι:=Nat×AT×(GO)) [3,4,11] [3,1000] (λx=>[(4,GU (x.1:Int)),(3,.Υ 3)]) (λx=>[(3,.Υ none 153 2 (x.2.1.map aY++List.replicate (rows.length-x.1) [GS 0,GS 0])),(1000,.set x.2.2 (λw=>bH w (rows.take x.1) x.2.2 x.2.1))]) (λx=>x.1<=rows.length/\x.2.1.length=x.1) (λx=>rows.length-x.1) ((0,[],λ_=>False)) (⟨Taj _,rfl⟩) (λx hx=>?_)
 obtain⟨i,uss,E⟩:=x;obtain⟨hi,hn⟩:=hx;simp only at hi hn;dsimp only;by_cases am:i<rows.length
 ·refine GE λr hr=>?_;have hq:=aq.get hr;obtain⟨ln,tk,dr⟩:=hq.take (n:=2) rfl;refine m34 λwi fe k hk eK=>?_;have bl:(uss.map aY++List.replicate (k+1) [GS 0,GS 0]).length=rows.length:=by simp;omega
  have bs:∀X,(uss.map aY++List.replicate (k+1) [GS 0,GS 0]).set i X=(uss.map aY++[X])++List.replicate k [GS 0,GS 0]:=λX=>Fw _ _ _ _ _ (by simp[hn]);have bg:(uss.map aY++List.replicate (k+1) [GS 0,GS 0])[i]?=some [GS 0,GS 0]:=by exact GA
  refine AH λnn F=>?_;refine cQ [] [1001] (Zzs hq om) ?_;exact m267
 exact m8
def ZvT{row:we}(aq:bd (wI) row){left:Int}(h0:0<=left)(h1:left<=1048576):aI e0 17 [.agg row,GT left] [GT (sub left (ag row))]:=by
 obtain⟨r0,r1,rfl,g0,g1⟩:=ZgQ aq;rw[show ag [.sl r0,.sl r1]=(r0.length+ak r0)+(r1.length+ak r1) by simp only[ag,jE];omega];refine gI 66583 Tryz.func17 ?_;refine ce @aJ @aJ (ZrW g0 (left:=left) om om) @aJ ?_;refine m59 λq L0 e0=>?_;refine ce @aJ @aJ (Zzt g1 (left:=L0) om om) @aJ ?_;refine m60 λq L1 e1=>?_
 try rw[qM om,show left-(((r0.length+ak r0)+(r1.length+ak r1):Nat):Int)=L1 by omega]
 exact fT @aJ
def ZvU(aq:bd (wI) row):aI e0 38 [.agg row,.agg row] [GW true]:=by
 obtain⟨r0,r1,rfl,g0,g1⟩:=ZgQ aq;refine gI 66591 Tryz.func38 ?_;refine ce @gQ @aJ (ZrX g0) @aJ ?_;refine eH @gQ @aJ (Zzu g1) ?_;exact dM @aJ @gQ
def ZuM(aq:bd (wI) row)(hb:ag row<=1048576):aT e0 25 [.agg row] [] (kw row):=by
 obtain⟨r0,r1,rfl,g0,g1⟩:=ZgQ aq;simp only[ag,jE]at hb;refine dX (ts:=[.cell 2 39]) [] 15 Tryz.func25 ?_;refine fB @aJ ?_;have F:=@aJ;refine cQ [] [1000] (Zql g0 om) ?_;rintro r pm ⟨u0,E0,rfl,k0,rfl⟩;refine m7 ?_;refine fR @k0 ?_;refine fB @aJ ?_;have F:=@aJ;refine cQ [] [1001] (ZvS g1 om) ?_;rintro r pm ⟨u1,E1,rfl,k1,rfl⟩;refine m7 ?_
 refine ec @k1 (ai @k0 @k1) ?_;obtain⟨E,fi⟩:∃E,jn [.set E0 (λw=>bp w (.sl r0) E0 u0),.set E1 (λw=>bp w (.sl r1) E1 u1)] [.set E (λw=>aV w [.sl r0,.sl r1] E [u0,u1])]:=⟨_,CN [.sl E0 r0 u0,.sl E1 r1 u1]⟩;refine pE [1000,1001] [1000] fi ?_;exact(have F:=aJ;ee (R:=kw [.sl r0,.sl r1]) [1000] (kw.mk (row:=[.sl r0,.sl r1]) (us:=[u0,u1]) (E:=E) rfl (by simp only[aY,Tbv,List.map_nil,List.all_cons,List.all_nil,Bool.and_true,Tar];exact⟨k0,k1⟩)))
def ZpB(aq:bd (lZ) row)(h0:0<=left)(h1:left<=1048576):aI e0 4 [.agg row,GT left] [GT (sub left (ag row))]:=by
 obtain⟨r0,r1,r2,rfl,g0,g1,g2⟩:=Zd1 aq;rw[show ag [.sl r0,.sl r1,.sl r2]=ag [.sl r0,.sl r1]+(r2.length+ak r2) by simp only[ag,jE];omega];refine gI 66583 Tryz.func4 ?_;refine ce @aJ @aJ (ZvT (ZgR g0 g1) (left:=left) om om) @aJ ?_;by_cases q:left<((ag [.sl r0,.sl r1]:Nat):Int)
 ·rw[qi (b:=ag [.sl r0,.sl r1]) q]
  exact EA
 rw[qM (b:=ag [.sl r0,.sl r1]) om];have q':(left-((ag [.sl r0,.sl r1]:Nat):Int)<0)=False:=eq_false om;refine fG @q' ?_;obtain⟨L0,e0⟩:∃x,x=left-((ag [.sl r0,.sl r1]:Nat):Int):=⟨_,rfl⟩;rw[<- e0];clear q';refine ce @aJ @aJ (ZDY g2 (left:=L0) om om) @aJ ?_;by_cases q:L0<(((r2.length+ak r2):Nat):Int)
 ·rw[qi (b:=(r2.length+ak r2)) q]
  exact EA
 rw[qM (b:=(r2.length+ak r2)) om];have q':(L0-(((r2.length+ak r2):Nat):Int)<0)=False:=eq_false om;refine fG @q' ?_;obtain⟨L1,e1⟩:∃x,x=L0-(((r2.length+ak r2):Nat):Int):=⟨_,rfl⟩;rw[<- e1];clear q'
 try rw[qM om,show left-((ag [.sl r0,.sl r1]+(r2.length+ak r2):Nat):Int)=L1 by omega]
 exact fT @aJ
def ZpC(aq:bd (lZ) row):aI e0 11 [.agg row,.agg row] [GW true]:=by
 obtain⟨r0,r1,r2,rfl,g0,g1,g2⟩:=Zd1 aq;refine gI 66591 Tryz.func11 ?_;refine ce @gQ @aJ (ZvU (ZgR g0 g1)) @aJ ?_;refine eH @gQ @aJ (ZDZ g2) ?_;exact dM @aJ @gQ
def ZiG(aq:bd (lZ) row)(hb:ag row<=1048576):aT e0 7 [.agg row] [] (kw row):=by
 obtain⟨r0,r1,r2,rfl,g0,g1,g2⟩:=Zd1 aq;simp only[ag,jE]at hb;refine dX (ts:=[.cell 2 42]) [] 15 Tryz.func7 ?_;refine fB @aJ ?_;have F:=@aJ;refine cQ [] [1000] (ZuM (ZgR g0 g1) (by simp only[ag,jE];omega)) ?_;rintro r pm ⟨us,E0,rfl,hu,hc,rfl⟩;obtain⟨u0,u1,rfl⟩:=pr hu;have hc:bQ (.A u0)/\bQ (.A u1):=by exact Et
 obtain⟨k0,k1⟩:=hc;have lr0:aY [u0,u1]=[.A u0,.A u1]:=rfl;rw[lr0];refine m7 ?_;refine fR (ai @k0 @k1) ?_;refine fB @aJ ?_;have F:=@aJ;refine cQ [] [1001] (Zzr g2 om) ?_;rintro r pm ⟨u2,E2,rfl,k2,rfl⟩;refine m7 ?_;refine ec @k2 (aj3 @k2 @k0 @k1) ?_;obtain⟨E,fi⟩:∃E,jn [.set E0 (λw=>aV w [.sl r0,.sl r1] E0 [u0,u1]),.set E2 (λw=>bp w (.sl r2) E2 u2)] [.set E (λw=>aV w [.sl r0,.sl r1,.sl r2] E [u0,u1,u2])]:=⟨_,CN [.st E0 [.sl r0,.sl r1] [u0,u1],.sl E2 r2 u2]⟩
 refine pE [1000,1001] [1000] fi ?_;exact(have F:=aJ;ee (R:=kw [.sl r0,.sl r1,.sl r2]) [1000] (kw.mk (row:=[.sl r0,.sl r1,.sl r2]) (us:=[u0,u1,u2]) (E:=E) rfl (by simp only[aY,Tbv,List.map_nil,List.all_cons,List.all_nil,Bool.and_true,Tar];exact⟨k0,k1,k2⟩)))
def ZpD(aq:bd (lZ) row)(hb:ag row<=1048576):aI e0 7 [.agg row] [.agg row]:=ZtZ (ZiG aq hb)
def ZrY(aq:bd (Zaf .binding) row):aI e0 79 [.agg row,.agg row] [GW true]:=by
 obtain⟨i0,t1,i2,r3,i4,t5,i6,r7,rfl,g0,g1,g2,g3,g4,g5,g6,g7⟩:=Zhk aq;refine gI 66591 Tryz.func79 ?_;refine ce @gQ @aJ (ZhO (ZjY g0 g1 g2 g3)) @aJ ?_;refine eH @gQ @aJ (ZhO (ZjY g4 g5 g6 g7)) ?_;exact dM @aJ @gQ
def Zqm(aq:bu (Zaf .binding) rows):aI e0 37 [.I (.sl rows),.I (.sl rows)] [GW true]:=by
 refine uw λhm=>?_;unfold maxLen at hm;have ez:ZaD 8 rows:=ov.2 aq.Ι;refine gI 67126323 Tryz.func37 ?_;refine Gx λF x hx=>?_;by_cases am:x<rows.length
 ·refine tQ λr hr=>?_;have hq:=aq.get hr;obtain⟨ln,tk,dr⟩:=hq.take (n:=8) rfl;refine xO λfe=>?_;refine ce @fe @fe (ZrY hq) @fe ?_;exact vu
 exact B5
def ZpE(aq:bu (Zaf .bindings) rows):aI e0 10 [.I (.sl rows),.I (.sl rows)] [GW true]:=by
 refine uw λhm=>?_;unfold maxLen at hm;refine vp λez=>?_;refine gI 67126323 Tryz.func10 ?_;refine Gx λF x hx=>?_;by_cases am:x<rows.length
 ·refine tQ λr hr=>?_;obtain⟨r0,rfl,g0⟩:=ZgJ (aq.get hr);have fe:=aj5 hr am bw ez (lT x rows.length);refine ce @fe @fe (Zqm g0) @fe ?_;exact vu
 exact B5
end Go.Proofs.YtaenibhihgfehaaGreatDoor
