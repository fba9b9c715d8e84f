/-
  FnExactApplySubstitution returns true for every signature, list of bindings and term, and turns nothing: proved without conditions.
-/
import Derived.Test.YtffmjghcpgpfpaaGreatDoorBBase0
import Derived.Test.YtffmjghcpgpfpaaGreatDoorBBase1
import Derived.Test.YtffmjghcpgpfpaaGreatDoorBBase2
import Derived.Test.YtffmjghcpgpfpaaGreatDoorBBase3
import Derived.Test.YtffmjghcpgpfpaaGreatDoorBBase4
import Derived.Test.YtffmjghcpgpfpaaGreatDoorBApplySubstitutionCard0
import Derived.Test.YtffmjghcpgpfpaaGreatDoorBBaseL0
import Derived.Test.YtffmjghcpgpfpaaGreatDoorTie
import Derived.Test.YtffmjghcpgpfpaaGreatDoorCards
set_option linter.unusedSimpArgs false
set_option linter.unusedVariables false
set_option maxHeartbeats 400000000
namespace Go.Proofs.YtffmjghcpgpfpaaGreatDoor
open Go.RowKit
section
variable {g:Sgn} {l:List Bd}
theorem zRF:ZD8 (Zae zTm) false [.agg [.lit (.int .i64 0),.lit (.string ByteArray.empty),.lit (.int .i64 0),.lit (.slice none 0 0)],.one (.lit (.bool false))] [.set (fun _=>False) (fun w=>Zah w (Zae zTm) (fun _=>False) [.int .i64 0,.string ByteArray.empty,.int .i64 0,.slice none 0 0])]:=⟨[.int .i64 0,.string ByteArray.empty,.int .i64 0,.slice none 0 0],_,rfl,by rw [ZiN];rfl,rfl,rfl⟩
theorem ZFB:okTm zTm:=by simp [zTm,okTm,Zbo,I64,maxLen]
theorem ZFw:Zak (Zae zTm)<=1048576:=by rw [ZiN];simp [Zak,ZbY,Zag]
theorem ZFk {t:Tm}:Zak (Zae ((aS g l t).getD zTm))<=1048576:=by
 cases h:aS g l t with
 | none=>exact ZFw
 | some u=>exact ZCw (ZDU h)
theorem ZFx {t:Tm}:Zan (Zab .term) (Zae ((aS g l t).getD zTm)):=by
 refine Zwh _ ?_
 cases h:aS g l t with
 | none=>exact ZFB
 | some u=>exact ZaO.ok (ZDQ h) _ u (Nat.lt_succ_self _) (ZDU h).form
set_option maxRecDepth 100000 in
theorem ZEV {t:Tm} (hok:Zdc g) (hl:Zge l) (hb:(ZbW l).length+Zag (ZbW l)<=1048576) (ht:okTm t) (htb:Zak (Zae t)<=1048576):ConP e0 25 [.agg (Zaw g),.one (.sl (ZbW l)),.agg (Zae t)] [] (ZD8 (Zae ((aS g l t).getD zTm)) (aS g l t).isSome):=by
 rw [Zfq] at hb
 have hno:¬ (ZbB g=true∧ZcS g l=true∧Zby g t=true)->ZD8 (Zae ((aS g l t).getD zTm)) (aS g l t).isSome=ZD8 (Zae zTm) false:=fun h=>by unfold aS;rw [if_neg h];rfl
 by_cases hs:ZbB g=true
 rotate_left
 ·have cN:=ZB4 hok (fun h=>hs (Zg9 h))
  rw [hno fun h=>hs h.1]
  rw [Zaw] at cN ⊢
  refine gIP (ts:=[.cell 6 46,.slot 7]) [] 536872943 Tryz.func25 ?_
  (have F:=@tmz;have NN:Zai 1:=trivial;refine gGn ?_;clear F NN)
  refine gB ?_
  (have F:=@tmz;refine gC (cN) ?_;clear F)
  (have F:=@tmz;refine gR ?_;clear F)
  (have F:=@tmz;have NN:Zai 3:=trivial;refine gGn ?_;clear F NN)
  refine gB ?_
  refine (have F:=tmz;gX ?_)
  (have F:=@tmz;refine gR ?_;clear F)
  (have F:=@tmz;refine gG ?_;clear F)
  refine pE [] [1001] ZE5 ?_
  exact (have F:=tmz;gTP (R:=ZD8 (Zae zTm) false) [1001] zRF)
 have hg:=Zed.1 hs
 have cN:=ZDe hok hg
 rw [Zaw] at cN ⊢
 refine gIP (ts:=[.cell 6 46,.slot 7]) [] 536872943 Tryz.func25 ?_
 (have F:=@tmz;have NN:Zai 1:=trivial;refine gGn ?_;clear F NN)
 refine gB ?_
 (have F:=@tmz;refine gCP [] [1000] (cN) ?_;clear F)
 rintro r pm ⟨b,rfl,rfl⟩
 simp only [setA,retA,zipM,List.cons_append,List.nil_append]
 (have F:=@tmz;refine gR ?_;clear F)
 refine pM g b 1000 ?_
 have cX:=(Zo7 (mc:=.lit (.map (some b))) hg ht (Zgv htb)).m (g:=g) (b:=b)
 have cS:=ZDy (b:=b) hg hl (fun y hy=>Zgv (Zw8 hb y hy).2)
 have zz:∀ {X:Prop},X->X:=fun h=>h
 (have F:=@tmM;have NN:Zai 2:=trivial;refine gGn ?_;clear F NN)
 refine gB ?_
 (have F:=@tmM;refine gC (cS) ?_;clear F)
 cases h3:ZcS g l with
 | false =>
  rw [hno fun h=>by rw [h3] at h;cases h.2.1]
  (have F:=@tmM;refine gR ?_;clear F)
  (have F:=@tmM;have NN:Zai 3:=trivial;refine gGn ?_;clear F NN)
  refine gB ?_
  refine (have F:=tmM;gXm ?_)
  (have F:=@tmM;refine gR ?_;clear F)
  (have F:=@tmM;refine gG ?_;clear F)
  refine pE [] [1001] ZE5 ?_
  exact (have F:=tmM;gTP (R:=ZD8 (Zae zTm) false) [1001] zRF)
 | true =>
 (have F:=@tmM;refine gC (cX) ?_;clear F)
 cases h1:Zby g t with
 | false =>
  rw [hno fun h=>by rw [h1] at h;cases h.2.2]
  (have F:=@tmM;refine gR ?_;clear F)
  (have F:=@tmM;have NN:Zai 3:=trivial;refine gGn ?_;clear F NN)
  refine gB ?_
  refine (have F:=tmM;gXm ?_)
  (have F:=@tmM;refine gR ?_;clear F)
  (have F:=@tmM;refine gG ?_;clear F)
  refine pE [] [1001] ZE5 ?_
  exact (have F:=tmM;gTP (R:=ZD8 (Zae zTm) false) [1001] zRF)
 | true =>
 have hS:=Zmi.1 h3
 have ex:aS g l t=apT g l t:=by unfold aS;rw [if_pos ⟨hs,h3,h1⟩]
 have aX:=(ZDx (mc:=.lit (.map (some b))) hg hS _ (Nat.lt_succ_self _) (ZcP.1 h1)).m (g:=g) (b:=b)
 rw [<- ex] at aX
 have hcp:=(ZC2 _ (ZFk (g:=g) (l:=l) (t:=t))).m (g:=g) (b:=b)
 generalize aS g l t=px at aX hcp ⊢
 (have F:=@tmM;refine gR ?_;clear F)
 (have F:=@tmM;have NN:Zai 4:=trivial;refine gGn ?_;clear F NN)
 refine gB ?_
 (have F:=@tmM;refine gC (aX) ?_;clear F)
 (have F:=@tmM;refine gR ?_;clear F)
 (have F:=@tmM;have NN:Zai 5:=trivial;refine gGn ?_;clear F NN)
 refine gB ?_
 (have F:=@tmM;refine gCP [] [1001] (hcp) ?_;clear F)
 rintro r pm ⟨us,E2,rfl,hu',hok,rfl⟩
 have hu'':=hu'
 rw [Zkh] at hu'
 obtain ⟨u0,u1,u2,u3,rfl⟩:=len4 hu'
 obtain ⟨k0,k1,k2,k3⟩:=okc4 hok
 simp only [ZiO,setA,retA,zipM,List.cons_append,List.nil_append]
 (have F:=ai @tmM (ai @k0 (ai @k1 (ai @k2 @k3)));refine gR ?_;clear F)
 (have F:=@tmM;refine gG ?_;clear F)
 exact (have F:=tmM;gTP (R:=ZD8 (Zae (px.getD zTm)) px.isSome) [1001] ⟨[u0,u1,u2,u3],E2,rfl,hu'',hok,rfl⟩)
end
set_option maxRecDepth 100000 in
theorem ZEx {row0:List C} (hok0:Zan (sigF) row0) {rows1:List (List C)} (hok1:Zaq (Zab .binding) rows1) {row2:List C} (hok2:Zan (Zab .term) row2) {wr:List C} (hokw:Zan (Zab .term) wr) {R1:Bool} (hBw0:Zak row0<=1048576->rows1.length+Zag rows1<=1048576->Zak row2<=1048576->(Zak row0)+(rows1.length+Zag rows1)+(Zak row2)<=1048576->Zak wr<=1048576) (hsp0:Zak row0<=1048576->rows1.length+Zag rows1<=1048576->Zak row2<=1048576->(Zak row0)+(rows1.length+Zag rows1)+(Zak row2)<=1048576->Con e0 24 [.agg row0,.one (.sl rows1),.agg row2] [.agg wr,.one (.lit (.bool R1))]) (him0:Zak row0<=1048576->rows1.length+Zag rows1<=1048576->Zak row2<=1048576->(Zak row0)+(rows1.length+Zag rows1)+(Zak row2)<=1048576->ConP e0 25 [.agg row0,.one (.sl rows1),.agg row2] [] (ZD8 wr R1)):Con e0 5 [.agg row0,.one (.sl rows1),.agg row2] [.one (.lit (.bool true))]:=by
 have okc0:=hok0.cells
 obtain ⟨len0,tk0,dr0⟩:=hok0.take (n:=3) rfl
 have okc2:=hok2.cells
 obtain ⟨len2,tk2,dr2⟩:=hok2.take (n:=4) rfl
 have okcw:=hokw.cells
 obtain ⟨lenw,tkw,drw⟩:=hokw.take (n:=4) rfl
 refine gI 3146931352660315980813683006301119594889199 Tryz.func5 ?_
 (have F:=ai @okc0 (ai @len0 (ai @tk0 (ai @dr0 (ai @okc2 (ai @len2 (ai @tk2 (ai @dr2 (ai @ZBp (ai @okcw (ai @lenw (ai @tkw @drw)))))))))));refine gG ?_;clear F)
 have hL0_0:(0:Int)<=1048576:=by omega
 have hL0_1:(1048576:Int)<=1048576:=by omega
 refine gB ?_
 (have F:=ai @okc0 (ai @len0 (ai @tk0 (ai @dr0 (ai @okc2 (ai @len2 (ai @tk2 (ai @dr2 (ai @ZBp (ai @okcw (ai @lenw (ai @tkw @drw)))))))))));refine gC (ZBE hok0 hL0_0 hL0_1) ?_;clear F)
 (have F:=ai @okc0 (ai @len0 (ai @tk0 (ai @dr0 (ai @okc2 (ai @len2 (ai @tk2 (ai @dr2 (ai @ZBp (ai @okcw (ai @lenw (ai @tkw @drw)))))))))));refine gR ?_;clear F)
 by_cases hb0:((Zak row0:Nat):Int)<=1048576
 rotate_left
 ·have n1:sub 1048576 (Zak row0:Nat)=-1:=ZaS om
  have n2:(-1:Int) < 0:=by omega
  (have F:=ai @n1 @n2;refine gG ?_;exact gT)
 have nq:sub 1048576 (Zak row0:Nat)=1048576 - ((Zak row0:Nat):Nat):=Zbg om
 rw [nq]
 clear nq
 have hB0:Zak row0<=1048576:=by omega
 have hL1_0:(0:Int)<=1048576 - ((Zak row0:Nat):Nat):=by omega
 have hL1_1:(1048576:Int) - ((Zak row0:Nat):Nat)<=1048576:=by omega
 generalize hgl0:(1048576:Int) - ((Zak row0:Nat):Nat)=L1 at *
 have n2:¬ (L1 < 0):=by omega
 (have F:=ai @n2 (ai @okc0 (ai @len0 (ai @tk0 (ai @dr0 (ai @okc2 (ai @len2 (ai @tk2 (ai @dr2 (ai @ZBp (ai @okcw (ai @lenw (ai @tkw @drw))))))))))));refine gG ?_;clear F)
 clear n2 hb0
 refine gB ?_
 (have F:=ai @okc0 (ai @len0 (ai @tk0 (ai @dr0 (ai @okc2 (ai @len2 (ai @tk2 (ai @dr2 (ai @ZBp (ai @okcw (ai @lenw (ai @tkw @drw)))))))))));refine gC (ZCx hok1 hL1_0 hL1_1) ?_;clear F)
 (have F:=ai @okc0 (ai @len0 (ai @tk0 (ai @dr0 (ai @okc2 (ai @len2 (ai @tk2 (ai @dr2 (ai @ZBp (ai @okcw (ai @lenw (ai @tkw @drw)))))))))));refine gR ?_;clear F)
 by_cases hb1:((rows1.length+Zag rows1:Nat):Int)<=L1
 rotate_left
 ·have n1:sub L1 (rows1.length+Zag rows1:Nat)=-1:=ZaS om
  have n2:(-1:Int) < 0:=by omega
  (have F:=ai @n1 @n2;refine gG ?_;exact gT)
 have nq:sub L1 (rows1.length+Zag rows1:Nat)=L1 - ((rows1.length+Zag rows1:Nat):Nat):=Zbg om
 rw [nq]
 clear nq
 have hB1:rows1.length+Zag rows1<=1048576:=by omega
 have hL2_0:(0:Int)<=L1 - ((rows1.length+Zag rows1:Nat):Nat):=by omega
 have hL2_1:(L1:Int) - ((rows1.length+Zag rows1:Nat):Nat)<=1048576:=by omega
 generalize hgl1:(L1:Int) - ((rows1.length+Zag rows1:Nat):Nat)=L2 at *
 have n2:¬ (L2 < 0):=by omega
 (have F:=ai @n2 (ai @okc0 (ai @len0 (ai @tk0 (ai @dr0 (ai @okc2 (ai @len2 (ai @tk2 (ai @dr2 (ai @ZBp (ai @okcw (ai @lenw (ai @tkw @drw))))))))))));refine gG ?_;clear F)
 clear n2 hb1
 refine gB ?_
 (have F:=ai @okc0 (ai @len0 (ai @tk0 (ai @dr0 (ai @okc2 (ai @len2 (ai @tk2 (ai @dr2 (ai @ZBp (ai @okcw (ai @lenw (ai @tkw @drw)))))))))));refine gC (ZDu hok2 hL2_0 hL2_1) ?_;clear F)
 (have F:=ai @okc0 (ai @len0 (ai @tk0 (ai @dr0 (ai @okc2 (ai @len2 (ai @tk2 (ai @dr2 (ai @ZBp (ai @okcw (ai @lenw (ai @tkw @drw)))))))))));refine gR ?_;clear F)
 by_cases hb2:((Zak row2:Nat):Int)<=L2
 rotate_left
 ·have n1:sub L2 (Zak row2:Nat)=-1:=ZaS om
  have n2:(-1:Int) < 0:=by omega
  (have F:=ai @n1 @n2;refine gG ?_;exact gT)
 have nq:sub L2 (Zak row2:Nat)=L2 - ((Zak row2:Nat):Nat):=Zbg om
 rw [nq]
 clear nq
 have hB2:Zak row2<=1048576:=by omega
 have hL3_0:(0:Int)<=L2 - ((Zak row2:Nat):Nat):=by omega
 have hL3_1:(L2:Int) - ((Zak row2:Nat):Nat)<=1048576:=by omega
 generalize hgl2:(L2:Int) - ((Zak row2:Nat):Nat)=L3 at *
 have n2:¬ (L3 < 0):=by omega
 (have F:=ai @n2 (ai @okc0 (ai @len0 (ai @tk0 (ai @dr0 (ai @okc2 (ai @len2 (ai @tk2 (ai @dr2 (ai @ZBp (ai @okcw (ai @lenw (ai @tkw @drw))))))))))));refine gG ?_;clear F)
 clear n2 hb2
 have hBt:(Zak row0)+(rows1.length+Zag rows1)+(Zak row2)<=1048576:=by omega
 have hsp:=hsp0 hB0 hB1 hB2 hBt
 have him:=him0 hB0 hB1 hB2 hBt
 have hBw:=hBw0 hB0 hB1 hB2 hBt
 have hcw:cntTop wr<=16 * Zak wr:=ZEz _ _ hokw
 have cE:=ZDw hokw
 have cT0:=ZBF hok0 hB0
 have cP0:=ZEL hok0 hB0
 have cQ0:=ZBG hok0
 have hc0:cntTop row0<=16 * Zak row0:=ZEz _ _ hok0
 have cT1:=ZCz hok1 hB1
 have cP1:=ZES hok1 hB1
 have cQ1:=ZCy hok1
 have hc1:cntRows rows1<=16 * (rows1.length+Zag rows1):=ZEo _ _ (ZEF _) hok1
 have cT2:=ZDv hok2 hB2
 have cP2:=ZFf hok2 hB2
 have cQ2:=ZDw hok2
 have hc2:cntTop row2<=16 * Zak row2:=ZEz _ _ hok2
 refine gLt 10 9 11 ?_
 (have F:=ai @okc0 (ai @len0 (ai @tk0 (ai @dr0 (ai @okc2 (ai @len2 (ai @tk2 (ai @dr2 (ai @ZBp (ai @okcw (ai @lenw (ai @tkw @drw)))))))))));refine gC (cT0) ?_;clear F)
 (have F:=ai @okc0 (ai @len0 (ai @tk0 (ai @dr0 (ai @okc2 (ai @len2 (ai @tk2 (ai @dr2 (ai @ZBp (ai @okcw (ai @lenw (ai @tkw @drw)))))))))));refine gC (cT1) ?_;clear F)
 (have F:=ai @okc0 (ai @len0 (ai @tk0 (ai @dr0 (ai @okc2 (ai @len2 (ai @tk2 (ai @dr2 (ai @ZBp (ai @okcw (ai @lenw (ai @tkw @drw)))))))))));refine gC (cT2) ?_;clear F)
 (have F:=ai @okc0 (ai @len0 (ai @tk0 (ai @dr0 (ai @okc2 (ai @len2 (ai @tk2 (ai @dr2 (ai @ZBp (ai @okcw (ai @lenw (ai @tkw @drw)))))))))));refine gC (hsp) ?_;clear F)
 (have F:=ai @okc0 (ai @len0 (ai @tk0 (ai @dr0 (ai @okc2 (ai @len2 (ai @tk2 (ai @dr2 (ai @ZBp (ai @okcw (ai @lenw (ai @tkw @drw)))))))))));refine gR ?_;clear F)
 (have F:=ai @okc0 (ai @len0 (ai @tk0 (ai @dr0 (ai @okc2 (ai @len2 (ai @tk2 (ai @dr2 (ai @ZBp (ai @okcw (ai @lenw (ai @tkw @drw)))))))))));refine gG ?_;clear F)
 refine gB ?_
 (have F:=ai @okc0 (ai @len0 (ai @tk0 (ai @dr0 (ai @okc2 (ai @len2 (ai @tk2 (ai @dr2 (ai @ZBp (ai @okcw (ai @lenw (ai @tkw @drw)))))))))));refine gCP [] [1000] (cP0) ?_;clear F)
 rintro r pm ⟨us0,E0,rfl,hu0,cu0,rfl⟩
 rw [len0] at hu0
 obtain ⟨lu0,tu0,du0⟩:=ZEO hu0
 simp only [setA,retA,zipM,List.cons_append,List.nil_append]
 (have F:=ai @okc0 (ai @len0 (ai @tk0 (ai @dr0 (ai @okc2 (ai @len2 (ai @tk2 (ai @dr2 (ai @ZBp (ai @okcw (ai @lenw (ai @tkw (ai @drw (ai @lu0 (ai @tu0 (ai @du0 @cu0)))))))))))))));refine gR ?_;clear F)
 (have F:=ai @okc0 (ai @len0 (ai @tk0 (ai @dr0 (ai @okc2 (ai @len2 (ai @tk2 (ai @dr2 (ai @ZBp (ai @okcw (ai @lenw (ai @tkw (ai @drw (ai @lu0 (ai @tu0 (ai @du0 @cu0)))))))))))))));refine gG ?_;clear F)
 refine gB ?_
 (have F:=ai @okc0 (ai @len0 (ai @tk0 (ai @dr0 (ai @okc2 (ai @len2 (ai @tk2 (ai @dr2 (ai @ZBp (ai @okcw (ai @lenw (ai @tkw (ai @drw (ai @lu0 (ai @tu0 (ai @du0 @cu0)))))))))))))));refine gCP [] [1001] (cP1) ?_;clear F)
 rintro r pm ⟨v1,E1,rfl,cu1,rfl⟩
 simp only [setA,retA,zipM,List.cons_append,List.nil_append]
 (have F:=ai @okc0 (ai @len0 (ai @tk0 (ai @dr0 (ai @okc2 (ai @len2 (ai @tk2 (ai @dr2 (ai @ZBp (ai @okcw (ai @lenw (ai @tkw (ai @drw (ai @lu0 (ai @tu0 (ai @du0 (ai @cu0 @cu1))))))))))))))));refine gR ?_;clear F)
 (have F:=ai @okc0 (ai @len0 (ai @tk0 (ai @dr0 (ai @okc2 (ai @len2 (ai @tk2 (ai @dr2 (ai @ZBp (ai @okcw (ai @lenw (ai @tkw (ai @drw (ai @lu0 (ai @tu0 (ai @du0 (ai @cu0 @cu1))))))))))))))));refine gG ?_;clear F)
 refine gB ?_
 (have F:=ai @okc0 (ai @len0 (ai @tk0 (ai @dr0 (ai @okc2 (ai @len2 (ai @tk2 (ai @dr2 (ai @ZBp (ai @okcw (ai @lenw (ai @tkw (ai @drw (ai @lu0 (ai @tu0 (ai @du0 (ai @cu0 @cu1))))))))))))))));refine gCP [] [1002] (cP2) ?_;clear F)
 rintro r pm ⟨us2,E2,rfl,hu2,cu2,rfl⟩
 rw [len2] at hu2
 obtain ⟨lu2,tu2,du2⟩:=ZEO hu2
 simp only [setA,retA,zipM,List.cons_append,List.nil_append]
 (have F:=ai @okc0 (ai @len0 (ai @tk0 (ai @dr0 (ai @okc2 (ai @len2 (ai @tk2 (ai @dr2 (ai @ZBp (ai @okcw (ai @lenw (ai @tkw (ai @drw (ai @lu0 (ai @tu0 (ai @du0 (ai @cu0 (ai @cu1 (ai @lu2 (ai @tu2 (ai @du2 @cu2))))))))))))))))))));refine gR ?_;clear F)
 (have F:=ai @okc0 (ai @len0 (ai @tk0 (ai @dr0 (ai @okc2 (ai @len2 (ai @tk2 (ai @dr2 (ai @ZBp (ai @okcw (ai @lenw (ai @tkw (ai @drw (ai @lu0 (ai @tu0 (ai @du0 (ai @cu0 (ai @cu1 (ai @lu2 (ai @tu2 (ai @du2 @cu2))))))))))))))))))));refine gG ?_;clear F)
 refine gB ?_
 (have F:=ai @okc0 (ai @len0 (ai @tk0 (ai @dr0 (ai @okc2 (ai @len2 (ai @tk2 (ai @dr2 (ai @ZBp (ai @okcw (ai @lenw (ai @tkw (ai @drw (ai @lu0 (ai @tu0 (ai @du0 (ai @cu0 (ai @cu1 (ai @lu2 (ai @tu2 (ai @du2 @cu2))))))))))))))))))));refine gCP [1000,1001,1002] [1100,1000,1001,1002] (ZFi (lits:=[.agg (Za4 us0),.one (.lit v1),.agg (Za4 us2)]) [.set E0 (fun w=>Zah w row0 E0 us0),.set E1 (fun w=>Own w (.sl rows1) E1 v1),.set E2 (fun w=>Zah w row2 E2 us2)] him ⟨.tree List.mem_cons_self,.treeS (List.mem_cons_of_mem _ List.mem_cons_self),.tree (List.mem_cons_of_mem _ (List.mem_cons_of_mem _ List.mem_cons_self)),trivial⟩ rfl (fun _ _ h=>ZD8.lits h)) ?_;clear F)
 rintro r pm ⟨q1,⟨usg,Eg,rfl,hug,cug,rfl⟩,rfl⟩
 rw [lenw] at hug
 obtain ⟨lug,tug,dug⟩:=ZEO hug
 simp only [setA,retA,zipM,List.cons_append,List.nil_append]
 (have F:=ai @okc0 (ai @len0 (ai @tk0 (ai @dr0 (ai @okc2 (ai @len2 (ai @tk2 (ai @dr2 (ai @ZBp (ai @okcw (ai @lenw (ai @tkw (ai @drw (ai @lu0 (ai @tu0 (ai @du0 (ai @cu0 (ai @cu1 (ai @lu2 (ai @tu2 (ai @du2 (ai @cu2 (ai @lug (ai @tug (ai @dug @cug))))))))))))))))))))))));refine gR ?_;clear F)
 (have F:=ai @okc0 (ai @len0 (ai @tk0 (ai @dr0 (ai @okc2 (ai @len2 (ai @tk2 (ai @dr2 (ai @ZBp (ai @okcw (ai @lenw (ai @tkw (ai @drw (ai @lu0 (ai @tu0 (ai @du0 (ai @cu0 (ai @cu1 (ai @lu2 (ai @tu2 (ai @du2 (ai @cu2 (ai @lug (ai @tug (ai @dug @cug))))))))))))))))))))))));refine gG ?_;clear F)
 refine gB ?_
 (have F:=ai @okc0 (ai @len0 (ai @tk0 (ai @dr0 (ai @okc2 (ai @len2 (ai @tk2 (ai @dr2 (ai @ZBp (ai @okcw (ai @lenw (ai @tkw (ai @drw (ai @lu0 (ai @tu0 (ai @du0 (ai @cu0 (ai @cu1 (ai @lu2 (ai @tu2 (ai @du2 (ai @cu2 (ai @lug (ai @tug (ai @dug @cug))))))))))))))))))))))));refine gCP [1100] [1100] (ZEr (lits:=[.agg (Za4 usg),.agg wr]) [.set Eg (fun w=>Zah w wr Eg usg)] cE ⟨.tree List.mem_cons_self,.same,trivial⟩ rfl rfl) ?_;clear F)
 rintro r pm ⟨rfl,rfl⟩
 simp only [setA,retA,zipM,List.cons_append,List.nil_append]
 (have F:=ai @okc0 (ai @len0 (ai @tk0 (ai @dr0 (ai @okc2 (ai @len2 (ai @tk2 (ai @dr2 (ai @ZBp (ai @okcw (ai @lenw (ai @tkw (ai @drw (ai @lu0 (ai @tu0 (ai @du0 (ai @cu0 (ai @cu1 (ai @lu2 (ai @tu2 (ai @du2 (ai @cu2 (ai @lug (ai @tug (ai @dug (ai @cug @beq_self_eq_true.{0})))))))))))))))))))))))));refine gR ?_;clear F)
 (have F:=ai @okc0 (ai @len0 (ai @tk0 (ai @dr0 (ai @okc2 (ai @len2 (ai @tk2 (ai @dr2 (ai @ZBp (ai @okcw (ai @lenw (ai @tkw (ai @drw (ai @lu0 (ai @tu0 (ai @du0 (ai @cu0 (ai @cu1 (ai @lu2 (ai @tu2 (ai @du2 (ai @cu2 (ai @lug (ai @tug (ai @dug (ai @cug @beq_self_eq_true.{0})))))))))))))))))))))))));refine gG ?_;clear F)
 refine gB ?_
 (have F:=ai @okc0 (ai @len0 (ai @tk0 (ai @dr0 (ai @okc2 (ai @len2 (ai @tk2 (ai @dr2 (ai @ZBp (ai @okcw (ai @lenw (ai @tkw (ai @drw (ai @lu0 (ai @tu0 (ai @du0 (ai @cu0 (ai @cu1 (ai @lu2 (ai @tu2 (ai @du2 (ai @cu2 (ai @lug (ai @tug (ai @dug @cug))))))))))))))))))))))));refine gC (cT0) ?_;clear F)
 (have F:=ai @okc0 (ai @len0 (ai @tk0 (ai @dr0 (ai @okc2 (ai @len2 (ai @tk2 (ai @dr2 (ai @ZBp (ai @okcw (ai @lenw (ai @tkw (ai @drw (ai @lu0 (ai @tu0 (ai @du0 (ai @cu0 (ai @cu1 (ai @lu2 (ai @tu2 (ai @du2 (ai @cu2 (ai @lug (ai @tug (ai @dug @cug))))))))))))))))))))))));refine gCP [1000] [1000] (ZEr (lits:=[.agg (Za4 us0),.agg row0]) [.set E0 (fun w=>Zah w row0 E0 us0)] cQ0 ⟨.tree List.mem_cons_self,.same,trivial⟩ rfl rfl) ?_;clear F)
 rintro r pm ⟨rfl,rfl⟩
 simp only [setA,retA,zipM,List.cons_append,List.nil_append]
 (have F:=ai @okc0 (ai @len0 (ai @tk0 (ai @dr0 (ai @okc2 (ai @len2 (ai @tk2 (ai @dr2 (ai @ZBp (ai @okcw (ai @lenw (ai @tkw (ai @drw (ai @lu0 (ai @tu0 (ai @du0 (ai @cu0 (ai @cu1 (ai @lu2 (ai @tu2 (ai @du2 (ai @cu2 (ai @lug (ai @tug (ai @dug @cug))))))))))))))))))))))));refine gR ?_;clear F)
 (have F:=ai @okc0 (ai @len0 (ai @tk0 (ai @dr0 (ai @okc2 (ai @len2 (ai @tk2 (ai @dr2 (ai @ZBp (ai @okcw (ai @lenw (ai @tkw (ai @drw (ai @lu0 (ai @tu0 (ai @du0 (ai @cu0 (ai @cu1 (ai @lu2 (ai @tu2 (ai @du2 (ai @cu2 (ai @lug (ai @tug (ai @dug @cug))))))))))))))))))))))));refine gG ?_;clear F)
 refine gB ?_
 (have F:=ai @okc0 (ai @len0 (ai @tk0 (ai @dr0 (ai @okc2 (ai @len2 (ai @tk2 (ai @dr2 (ai @ZBp (ai @okcw (ai @lenw (ai @tkw (ai @drw (ai @lu0 (ai @tu0 (ai @du0 (ai @cu0 (ai @cu1 (ai @lu2 (ai @tu2 (ai @du2 (ai @cu2 (ai @lug (ai @tug (ai @dug @cug))))))))))))))))))))))));refine gC (cT1) ?_;clear F)
 (have F:=ai @okc0 (ai @len0 (ai @tk0 (ai @dr0 (ai @okc2 (ai @len2 (ai @tk2 (ai @dr2 (ai @ZBp (ai @okcw (ai @lenw (ai @tkw (ai @drw (ai @lu0 (ai @tu0 (ai @du0 (ai @cu0 (ai @cu1 (ai @lu2 (ai @tu2 (ai @du2 (ai @cu2 (ai @lug (ai @tug (ai @dug @cug))))))))))))))))))))))));refine gCP [1001] [1001] (ZEr (lits:=[.one (.lit v1),.one (.sl rows1)]) [.set E1 (fun w=>Own w (.sl rows1) E1 v1)] cQ1 ⟨.treeS List.mem_cons_self,.same,trivial⟩ rfl rfl) ?_;clear F)
 rintro r pm ⟨rfl,rfl⟩
 simp only [setA,retA,zipM,List.cons_append,List.nil_append]
 (have F:=ai @okc0 (ai @len0 (ai @tk0 (ai @dr0 (ai @okc2 (ai @len2 (ai @tk2 (ai @dr2 (ai @ZBp (ai @okcw (ai @lenw (ai @tkw (ai @drw (ai @lu0 (ai @tu0 (ai @du0 (ai @cu0 (ai @cu1 (ai @lu2 (ai @tu2 (ai @du2 (ai @cu2 (ai @lug (ai @tug (ai @dug @cug))))))))))))))))))))))));refine gR ?_;clear F)
 (have F:=ai @okc0 (ai @len0 (ai @tk0 (ai @dr0 (ai @okc2 (ai @len2 (ai @tk2 (ai @dr2 (ai @ZBp (ai @okcw (ai @lenw (ai @tkw (ai @drw (ai @lu0 (ai @tu0 (ai @du0 (ai @cu0 (ai @cu1 (ai @lu2 (ai @tu2 (ai @du2 (ai @cu2 (ai @lug (ai @tug (ai @dug @cug))))))))))))))))))))))));refine gG ?_;clear F)
 refine gB ?_
 (have F:=ai @okc0 (ai @len0 (ai @tk0 (ai @dr0 (ai @okc2 (ai @len2 (ai @tk2 (ai @dr2 (ai @ZBp (ai @okcw (ai @lenw (ai @tkw (ai @drw (ai @lu0 (ai @tu0 (ai @du0 (ai @cu0 (ai @cu1 (ai @lu2 (ai @tu2 (ai @du2 (ai @cu2 (ai @lug (ai @tug (ai @dug @cug))))))))))))))))))))))));refine gC (cT2) ?_;clear F)
 (have F:=ai @okc0 (ai @len0 (ai @tk0 (ai @dr0 (ai @okc2 (ai @len2 (ai @tk2 (ai @dr2 (ai @ZBp (ai @okcw (ai @lenw (ai @tkw (ai @drw (ai @lu0 (ai @tu0 (ai @du0 (ai @cu0 (ai @cu1 (ai @lu2 (ai @tu2 (ai @du2 (ai @cu2 (ai @lug (ai @tug (ai @dug @cug))))))))))))))))))))))));refine gCP [1002] [1002] (ZEr (lits:=[.agg (Za4 us2),.agg row2]) [.set E2 (fun w=>Zah w row2 E2 us2)] cQ2 ⟨.tree List.mem_cons_self,.same,trivial⟩ rfl rfl) ?_;clear F)
 rintro r pm ⟨rfl,rfl⟩
 simp only [setA,retA,zipM,List.cons_append,List.nil_append]
 (have F:=ai @okc0 (ai @len0 (ai @tk0 (ai @dr0 (ai @okc2 (ai @len2 (ai @tk2 (ai @dr2 (ai @ZBp (ai @okcw (ai @lenw (ai @tkw (ai @drw (ai @lu0 (ai @tu0 (ai @du0 (ai @cu0 (ai @cu1 (ai @lu2 (ai @tu2 (ai @du2 (ai @cu2 (ai @lug (ai @tug (ai @dug @cug))))))))))))))))))))))));refine gR ?_;clear F)
 (have F:=ai @okc0 (ai @len0 (ai @tk0 (ai @dr0 (ai @okc2 (ai @len2 (ai @tk2 (ai @dr2 (ai @ZBp (ai @okcw (ai @lenw (ai @tkw (ai @drw (ai @lu0 (ai @tu0 (ai @du0 (ai @cu0 (ai @cu1 (ai @lu2 (ai @tu2 (ai @du2 (ai @cu2 (ai @lug (ai @tug (ai @dug @cug))))))))))))))))))))))));refine gG ?_;clear F)
 refine gB ?_
 (have F:=ai @okc0 (ai @len0 (ai @tk0 (ai @dr0 (ai @okc2 (ai @len2 (ai @tk2 (ai @dr2 (ai @ZBp (ai @okcw (ai @lenw (ai @tkw (ai @drw (ai @lu0 (ai @tu0 (ai @du0 (ai @cu0 (ai @cu1 (ai @lu2 (ai @tu2 (ai @du2 (ai @cu2 (ai @lug (ai @tug (ai @dug @cug))))))))))))))))))))))));refine gCP [1000] [1000] (ZEH hok0 (1) E0 us0 om cu0 om om) ?_;clear F)
 rintro r pm ⟨F0,rfl,rfl⟩
 simp only [setA,retA,zipM,List.cons_append,List.nil_append]
 (have F:=ai @okc0 (ai @len0 (ai @tk0 (ai @dr0 (ai @okc2 (ai @len2 (ai @tk2 (ai @dr2 (ai @ZBp (ai @okcw (ai @lenw (ai @tkw (ai @drw (ai @lu0 (ai @tu0 (ai @du0 (ai @cu0 (ai @cu1 (ai @lu2 (ai @tu2 (ai @du2 (ai @cu2 (ai @lug (ai @tug (ai @dug @cug))))))))))))))))))))))));refine gR ?_;clear F)
 (have F:=ai @okc0 (ai @len0 (ai @tk0 (ai @dr0 (ai @okc2 (ai @len2 (ai @tk2 (ai @dr2 (ai @ZBp (ai @okcw (ai @lenw (ai @tkw (ai @drw (ai @lu0 (ai @tu0 (ai @du0 (ai @cu0 (ai @cu1 (ai @lu2 (ai @tu2 (ai @du2 (ai @cu2 (ai @lug (ai @tug (ai @dug @cug))))))))))))))))))))))));refine gG ?_;clear F)
 refine gB ?_
 (have F:=ai @okc0 (ai @len0 (ai @tk0 (ai @dr0 (ai @okc2 (ai @len2 (ai @tk2 (ai @dr2 (ai @ZBp (ai @okcw (ai @lenw (ai @tkw (ai @drw (ai @lu0 (ai @tu0 (ai @du0 (ai @cu0 (ai @cu1 (ai @lu2 (ai @tu2 (ai @du2 (ai @cu2 (ai @lug (ai @tug (ai @dug @cug))))))))))))))))))))))));refine gCP [1001] [1001] (ZEN hok1 (1+(cntTop row0:Int)) E1 v1 om om) ?_;clear F)
 rintro r pm ⟨F1,rfl,rfl⟩
 simp only [setA,retA,zipM,List.cons_append,List.nil_append]
 (have F:=ai @okc0 (ai @len0 (ai @tk0 (ai @dr0 (ai @okc2 (ai @len2 (ai @tk2 (ai @dr2 (ai @ZBp (ai @okcw (ai @lenw (ai @tkw (ai @drw (ai @lu0 (ai @tu0 (ai @du0 (ai @cu0 (ai @cu1 (ai @lu2 (ai @tu2 (ai @du2 (ai @cu2 (ai @lug (ai @tug (ai @dug @cug))))))))))))))))))))))));refine gR ?_;clear F)
 (have F:=ai @okc0 (ai @len0 (ai @tk0 (ai @dr0 (ai @okc2 (ai @len2 (ai @tk2 (ai @dr2 (ai @ZBp (ai @okcw (ai @lenw (ai @tkw (ai @drw (ai @lu0 (ai @tu0 (ai @du0 (ai @cu0 (ai @cu1 (ai @lu2 (ai @tu2 (ai @du2 (ai @cu2 (ai @lug (ai @tug (ai @dug @cug))))))))))))))))))))))));refine gG ?_;clear F)
 refine gB ?_
 (have F:=ai @okc0 (ai @len0 (ai @tk0 (ai @dr0 (ai @okc2 (ai @len2 (ai @tk2 (ai @dr2 (ai @ZBp (ai @okcw (ai @lenw (ai @tkw (ai @drw (ai @lu0 (ai @tu0 (ai @du0 (ai @cu0 (ai @cu1 (ai @lu2 (ai @tu2 (ai @du2 (ai @cu2 (ai @lug (ai @tug (ai @dug @cug))))))))))))))))))))))));refine gCP [1002] [1002] (ZEE hok2 (1+(cntTop row0:Int)+(cntRows rows1:Int)) E2 us2 om cu2 om om) ?_;clear F)
 rintro r pm ⟨F2,rfl,rfl⟩
 simp only [setA,retA,zipM,List.cons_append,List.nil_append]
 (have F:=ai @okc0 (ai @len0 (ai @tk0 (ai @dr0 (ai @okc2 (ai @len2 (ai @tk2 (ai @dr2 (ai @ZBp (ai @okcw (ai @lenw (ai @tkw (ai @drw (ai @lu0 (ai @tu0 (ai @du0 (ai @cu0 (ai @cu1 (ai @lu2 (ai @tu2 (ai @du2 (ai @cu2 (ai @lug (ai @tug (ai @dug @cug))))))))))))))))))))))));refine gR ?_;clear F)
 (have F:=ai @okc0 (ai @len0 (ai @tk0 (ai @dr0 (ai @okc2 (ai @len2 (ai @tk2 (ai @dr2 (ai @ZBp (ai @okcw (ai @lenw (ai @tkw (ai @drw (ai @lu0 (ai @tu0 (ai @du0 (ai @cu0 (ai @cu1 (ai @lu2 (ai @tu2 (ai @du2 (ai @cu2 (ai @lug (ai @tug (ai @dug @cug))))))))))))))))))))))));refine gG ?_;clear F)
 have nk:(1+(cntTop row0:Int)+(cntRows rows1:Int)+(cntTop row2:Int) < 0)=False:=eq_false om
 refine gB ?_
 (have F:=ai @okc0 (ai @len0 (ai @tk0 (ai @dr0 (ai @okc2 (ai @len2 (ai @tk2 (ai @dr2 (ai @ZBp (ai @okcw (ai @lenw (ai @tkw (ai @drw (ai @lu0 (ai @tu0 (ai @du0 (ai @cu0 (ai @cu1 (ai @lu2 (ai @tu2 (ai @du2 (ai @cu2 (ai @lug (ai @tug (ai @dug (ai @cug @nk)))))))))))))))))))))))));refine gCP [1100] [1100] (ZEr (lits:=[.agg (Za4 usg),.agg wr]) [.set Eg (fun w=>Zah w wr Eg usg)] cE ⟨.tree List.mem_cons_self,.same,trivial⟩ rfl rfl) ?_;clear F)
 rintro r pm ⟨rfl,rfl⟩
 simp only [setA,retA,zipM,List.cons_append,List.nil_append]
 (have F:=ai @okc0 (ai @len0 (ai @tk0 (ai @dr0 (ai @okc2 (ai @len2 (ai @tk2 (ai @dr2 (ai @ZBp (ai @okcw (ai @lenw (ai @tkw (ai @drw (ai @lu0 (ai @tu0 (ai @du0 (ai @cu0 (ai @cu1 (ai @lu2 (ai @tu2 (ai @du2 (ai @cu2 (ai @lug (ai @tug (ai @dug (ai @cug (ai @nk @beq_self_eq_true.{0}))))))))))))))))))))))))));refine gR ?_;clear F)
 (have F:=ai @okc0 (ai @len0 (ai @tk0 (ai @dr0 (ai @okc2 (ai @len2 (ai @tk2 (ai @dr2 (ai @ZBp (ai @okcw (ai @lenw (ai @tkw (ai @drw (ai @lu0 (ai @tu0 (ai @du0 (ai @cu0 (ai @cu1 (ai @lu2 (ai @tu2 (ai @du2 (ai @cu2 (ai @lug (ai @tug (ai @dug (ai @cug (ai @nk @beq_self_eq_true.{0}))))))))))))))))))))))))));refine gG ?_;clear F)
 refine gB ?_
 (have F:=ai @okc0 (ai @len0 (ai @tk0 (ai @dr0 (ai @okc2 (ai @len2 (ai @tk2 (ai @dr2 (ai @ZBp (ai @okcw (ai @lenw (ai @tkw (ai @drw (ai @lu0 (ai @tu0 (ai @du0 (ai @cu0 (ai @cu1 (ai @lu2 (ai @tu2 (ai @du2 (ai @cu2 (ai @lug (ai @tug (ai @dug (ai @cug @nk)))))))))))))))))))))))));refine gCP [1100] [1100] (ZEE hokw 1 Eg usg om cug om om) ?_;clear F)
 rintro r pm ⟨Fg,rfl,rfl⟩
 simp only [setA,retA,zipM,List.cons_append,List.nil_append]
 (have F:=ai @okc0 (ai @len0 (ai @tk0 (ai @dr0 (ai @okc2 (ai @len2 (ai @tk2 (ai @dr2 (ai @ZBp (ai @okcw (ai @lenw (ai @tkw (ai @drw (ai @lu0 (ai @tu0 (ai @du0 (ai @cu0 (ai @cu1 (ai @lu2 (ai @tu2 (ai @du2 (ai @cu2 (ai @lug (ai @tug (ai @dug (ai @cug @nk)))))))))))))))))))))))));refine gR ?_;clear F)
 (have F:=ai @okc0 (ai @len0 (ai @tk0 (ai @dr0 (ai @okc2 (ai @len2 (ai @tk2 (ai @dr2 (ai @ZBp (ai @okcw (ai @lenw (ai @tkw (ai @drw (ai @lu0 (ai @tu0 (ai @du0 (ai @cu0 (ai @cu1 (ai @lu2 (ai @tu2 (ai @du2 (ai @cu2 (ai @lug (ai @tug (ai @dug (ai @cug @nk)))))))))))))))))))))))));refine gG ?_;clear F)
 have nm:(1+(cntTop wr:Int) < 0)=False:=eq_false om
 have cH:=ZE9 hokw om 1 om om
 refine gB ?_
 (have F:=ai @okc0 (ai @len0 (ai @tk0 (ai @dr0 (ai @okc2 (ai @len2 (ai @tk2 (ai @dr2 (ai @ZBp (ai @okcw (ai @lenw (ai @tkw (ai @drw (ai @lu0 (ai @tu0 (ai @du0 (ai @cu0 (ai @cu1 (ai @lu2 (ai @tu2 (ai @du2 (ai @cu2 (ai @lug (ai @tug (ai @dug (ai @cug (ai @nk @nm))))))))))))))))))))))))));refine gCP [1100] [1100] (ZEr (lits:=[.agg (Za4 usg),.one (.lit (.int .i64 1))]) [.set Fg (fun w=>Zah w (ZEd 1 wr) Fg usg)] cH ⟨.tree List.mem_cons_self,.same,trivial⟩ rfl rfl) ?_;clear F)
 rintro r pm ⟨rfl,rfl⟩
 simp only [setA,retA,zipM,List.cons_append,List.nil_append]
 (have F:=ai @okc0 (ai @len0 (ai @tk0 (ai @dr0 (ai @okc2 (ai @len2 (ai @tk2 (ai @dr2 (ai @ZBp (ai @okcw (ai @lenw (ai @tkw (ai @drw (ai @lu0 (ai @tu0 (ai @du0 (ai @cu0 (ai @cu1 (ai @lu2 (ai @tu2 (ai @du2 (ai @cu2 (ai @lug (ai @tug (ai @dug (ai @cug (ai @nk @nm))))))))))))))))))))))))));refine gR ?_;clear F)
 (have F:=ai @okc0 (ai @len0 (ai @tk0 (ai @dr0 (ai @okc2 (ai @len2 (ai @tk2 (ai @dr2 (ai @ZBp (ai @okcw (ai @lenw (ai @tkw (ai @drw (ai @lu0 (ai @tu0 (ai @du0 (ai @cu0 (ai @cu1 (ai @lu2 (ai @tu2 (ai @du2 (ai @cu2 (ai @lug (ai @tug (ai @dug (ai @cug (ai @nk (ai @nm @beq_self_eq_true.{0})))))))))))))))))))))))))));refine gG ?_;clear F)
 have cD:=ZFt him
 refine gLt 10 9 11 ?_
 (have F:=ai @okc0 (ai @len0 (ai @tk0 (ai @dr0 (ai @okc2 (ai @len2 (ai @tk2 (ai @dr2 (ai @ZBp (ai @okcw (ai @lenw (ai @tkw @drw)))))))))));refine gC (cT0) ?_;clear F)
 (have F:=ai @okc0 (ai @len0 (ai @tk0 (ai @dr0 (ai @okc2 (ai @len2 (ai @tk2 (ai @dr2 (ai @ZBp (ai @okcw (ai @lenw (ai @tkw @drw)))))))))));refine gC (cT1) ?_;clear F)
 (have F:=ai @okc0 (ai @len0 (ai @tk0 (ai @dr0 (ai @okc2 (ai @len2 (ai @tk2 (ai @dr2 (ai @ZBp (ai @okcw (ai @lenw (ai @tkw @drw)))))))))));refine gC (cT2) ?_;clear F)
 (have F:=ai @okc0 (ai @len0 (ai @tk0 (ai @dr0 (ai @okc2 (ai @len2 (ai @tk2 (ai @dr2 (ai @ZBp (ai @okcw (ai @lenw (ai @tkw (ai @drw (ai @lu0 (ai @tu0 (ai @du0 (ai @cu0 (ai @cu1 (ai @lu2 (ai @tu2 (ai @du2 (ai @cu2 (ai @lug (ai @tug (ai @dug (ai @cug (ai @nk @nm))))))))))))))))))))))))));refine gC (cD) ?_;clear F)
 (have F:=ai @okc0 (ai @len0 (ai @tk0 (ai @dr0 (ai @okc2 (ai @len2 (ai @tk2 (ai @dr2 (ai @ZBp (ai @okcw (ai @lenw (ai @tkw (ai @drw (ai @lu0 (ai @tu0 (ai @du0 (ai @cu0 (ai @cu1 (ai @lu2 (ai @tu2 (ai @du2 (ai @cu2 (ai @lug (ai @tug (ai @dug (ai @cug (ai @nk @nm))))))))))))))))))))))))));refine gR ?_;clear F)
 (have F:=ai @okc0 (ai @len0 (ai @tk0 (ai @dr0 (ai @okc2 (ai @len2 (ai @tk2 (ai @dr2 (ai @ZBp (ai @okcw (ai @lenw (ai @tkw (ai @drw (ai @lu0 (ai @tu0 (ai @du0 (ai @cu0 (ai @cu1 (ai @lu2 (ai @tu2 (ai @du2 (ai @cu2 (ai @lug (ai @tug (ai @dug (ai @cug (ai @nk @nm))))))))))))))))))))))))));refine gG ?_;clear F)
 refine gB ?_
 (have F:=ai @okc0 (ai @len0 (ai @tk0 (ai @dr0 (ai @okc2 (ai @len2 (ai @tk2 (ai @dr2 (ai @ZBp (ai @okcw (ai @lenw (ai @tkw (ai @drw (ai @lu0 (ai @tu0 (ai @du0 (ai @cu0 (ai @cu1 (ai @lu2 (ai @tu2 (ai @du2 (ai @cu2 (ai @lug (ai @tug (ai @dug (ai @cug (ai @nk @nm))))))))))))))))))))))))));refine gC (cE) ?_;clear F)
 (have F:=ai @okc0 (ai @len0 (ai @tk0 (ai @dr0 (ai @okc2 (ai @len2 (ai @tk2 (ai @dr2 (ai @ZBp (ai @okcw (ai @lenw (ai @tkw (ai @drw (ai @lu0 (ai @tu0 (ai @du0 (ai @cu0 (ai @cu1 (ai @lu2 (ai @tu2 (ai @du2 (ai @cu2 (ai @lug (ai @tug (ai @dug (ai @cug (ai @nk (ai @nm @beq_self_eq_true.{0})))))))))))))))))))))))))));refine gR ?_;clear F)
 (have F:=ai @okc0 (ai @len0 (ai @tk0 (ai @dr0 (ai @okc2 (ai @len2 (ai @tk2 (ai @dr2 (ai @ZBp (ai @okcw (ai @lenw (ai @tkw (ai @drw (ai @lu0 (ai @tu0 (ai @du0 (ai @cu0 (ai @cu1 (ai @lu2 (ai @tu2 (ai @du2 (ai @cu2 (ai @lug (ai @tug (ai @dug (ai @cug (ai @nk (ai @nm @beq_self_eq_true.{0})))))))))))))))))))))))))));refine gG ?_;clear F)
 refine gB ?_
 (have F:=ai @okc0 (ai @len0 (ai @tk0 (ai @dr0 (ai @okc2 (ai @len2 (ai @tk2 (ai @dr2 (ai @ZBp (ai @okcw (ai @lenw (ai @tkw (ai @drw (ai @lu0 (ai @tu0 (ai @du0 (ai @cu0 (ai @cu1 (ai @lu2 (ai @tu2 (ai @du2 (ai @cu2 (ai @lug (ai @tug (ai @dug (ai @cug (ai @nk @nm))))))))))))))))))))))))));refine gCP [1100] [1100] (ZEr (lits:=[.agg (Za4 usg),.one (.lit (.int .i64 1))]) [.set Fg (fun w=>Zah w (ZEd 1 wr) Fg usg)] cH ⟨.tree List.mem_cons_self,.same,trivial⟩ rfl rfl) ?_;clear F)
 rintro r pm ⟨rfl,rfl⟩
 simp only [setA,retA,zipM,List.cons_append,List.nil_append]
 (have F:=ai @okc0 (ai @len0 (ai @tk0 (ai @dr0 (ai @okc2 (ai @len2 (ai @tk2 (ai @dr2 (ai @ZBp (ai @okcw (ai @lenw (ai @tkw (ai @drw (ai @lu0 (ai @tu0 (ai @du0 (ai @cu0 (ai @cu1 (ai @lu2 (ai @tu2 (ai @du2 (ai @cu2 (ai @lug (ai @tug (ai @dug (ai @cug (ai @nk @nm))))))))))))))))))))))))));refine gR ?_;clear F)
 (have F:=ai @okc0 (ai @len0 (ai @tk0 (ai @dr0 (ai @okc2 (ai @len2 (ai @tk2 (ai @dr2 (ai @ZBp (ai @okcw (ai @lenw (ai @tkw (ai @drw (ai @lu0 (ai @tu0 (ai @du0 (ai @cu0 (ai @cu1 (ai @lu2 (ai @tu2 (ai @du2 (ai @cu2 (ai @lug (ai @tug (ai @dug (ai @cug (ai @nk (ai @nm @beq_self_eq_true.{0})))))))))))))))))))))))))));refine gG ?_;exact gT)
theorem ZEp (w:World) (hT:ZcX w) (row0:List C) (S0:Nat->Prop) (us0:List Value) (hok0:Zan (sigF) row0) (hv0:Zaa w S0 row0 us0) (rows1:List (List C)) (S1:Nat->Prop) (u1:Value) (hok1:Zaq (Zab .binding) rows1) (hv1:Rep w S1 (.sl rows1) u1) (row2:List C) (S2:Nat->Prop) (us2:List Value) (hok2:Zan (Zab .term) row2) (hv2:Zaa w S2 row2 us2) :
  Calls Tryz.prog 5 #[(.agg us0.toArray:Value),u1,(.agg us2.toArray:Value)] w fun e w'=>e=.returned (.bool true)∧Below w.heap.size w w':=by
 obtain ⟨g,rfl,k0⟩:=ZDK hok0
 obtain ⟨l,rfl,k1⟩:=ZCW hok1
 obtain ⟨t,rfl,k2⟩:=ZDR hok2
 have hc:=(ZEx hok0 hok1 hok2 (ZFx) (fun b0 b1 b2 bt=>ZFk) (fun b0 b1 b2 bt=>ZCA k0 k1 (by rw [<- Zfq];exact b1) k2 b2) (fun b0 b1 b2 bt=>ZEV k0 k1 b1 k2 b2)).2 w (fun b=>b < w.heap.size∧b≠2) [(.agg us0.toArray:Value),u1,(.agg us2.toArray:Value)] (fun b hb=>⟨hb.1,hb.2⟩) (ZDM hT) hT
  ⟨⟨us0,rfl,Zaa.off (ZDL hT) _ _ _ hok0 hv0.inside'⟩,Rep.off (ZDL hT) (.sl .binding) _ _ (by simpa only [okC] using hok1) ((Rep.inside _ _ hv1).mono (fun b hb=>hb.2)),⟨us2,rfl,Zaa.off (ZDL hT) _ _ _ hok2 hv2.inside'⟩,trivial⟩
 refine hc.mono fun e w' ⟨v,h1,h2,h3,h4⟩=>⟨?_,h2.belowT hT h3⟩
 have h4:v=.bool true:=by simpa [retA,ARel,DRel,Rep] using h4
 rw [h1,h4]
end Go.Proofs.YtffmjghcpgpfpaaGreatDoor
namespace Go.Proofs.YtffmjghcpgpfpaaGreatDoor
open Go.ChangeShapes Go.WideShapes Go.ChangeAt Go.RowKit Go.Deep
set_option maxRecDepth 100000 in
theorem ZEj (os:Os) (started:os.Started) (H:Type) (enc:TypeId × Value->H) :
  ReturnsInHanded {} Tryz.checked os 5 .any (fun w args=>(Rows.fnExactApplySubstitutionSpec.pre enc Tryz.prog Tryz.f5 Rows.fnExactApplySubstitutionRow.domain false w args∧laidMetH Tryz.prog ZnH w)∧sizedMet enc Tryz.prog Tryz.f5 (OpenSpec.ofChange Rows.fnExactApplySubstitutionSpec) false w args) (Rows.fnExactApplySubstitutionSpec.post enc Tryz.prog Tryz.f5 false true false false):=by
 refine ZCP (C:=Tryz.checked) (X:=fun w _=>laidMetH Tryz.prog ZnH w) (fun _ _ _ hh h=>h.of_heap hh) own started (by kernel_rfl) Tryz.func5
  (ChangeSpec.witness_shaped (enc:=enc) (C:=Tryz.checked) (os:=os) (X:=fun w _=>laidMetH Tryz.prog ZnH w) false (World.doorLaid Tryz.prog 24 os) #[.agg #[.slice none 0 0,.slice none 0 0,.slice none 0 0],.slice none 0 0,.agg #[.int .i64 0,.string .empty,.int .i64 0,.slice none 0 0]] 8 rfl (World.shaped_of_RefB (by kernel_rfl) (by kernel_rfl)) (by kernel_rfl) (by kernel_rfl) (by kernel_rfl) (ZDB os _)) ?_
 intro W base args ds gs before hval0 hW _ _ hL hS _
 have hT:=ZDC hL hS
 have hval:∀ (j:Nat) t v,Tryz.f5.params[j]?=some t->args[j]?=some v->Value.okWide Tryz.prog W .any base t v:=hval0
 have hW':=hW
 obtain ⟨p,q,hA0,hV,rfl,_,_⟩:=hW
 have hA:DataW.TrodAll enc Tryz.prog W 0 (fun _=>true) true Tryz.f5.params.toList args.toList ds p:=hA0
 rw [Tryz.params5] at hA hval
 obtain ⟨v0,vs0,d0,ds0,p0,q0,hargs0,hd0,hp0,h0,r0⟩:=trodAll_cons hA
 obtain ⟨v1,vs1,d1,ds1,p1,q1,hargs1,hd1,hp1,h1,r1⟩:=trodAll_cons r0
 obtain ⟨v2,vs2,d2,ds2,p2,q2,hargs2,hd2,hp2,h2,r2⟩:=trodAll_cons r1
 obtain ⟨e3,e3d,_⟩:=trodAll_nil r2
 rw [e3] at hargs2
 rw [hargs2] at hargs1
 rw [hargs1] at hargs0
 obtain rfl:args=#[v0,v1,v2]:=by cases args;simp_all
 rw [e3d] at hd2
 rw [hd2] at hd1
 rw [hd1] at hd0
 subst hd0
 obtain ⟨rfl,rfl⟩:=trodVars_none hV
 obtain ⟨cs0,rfl,_⟩:=okWide_struct Tryz.underlying28 (hval 0 28 v0 rfl rfl)
 obtain ⟨fuel0,hf0⟩:=h0
 obtain ⟨row0,hok0,hrep0⟩:=ZDz ZDJ fuel0 _ _ _ _ ZCD hf0
 have e0c:(Value.agg cs0).cells.toList.toArray=cs0:=by simp [Value.cells]
 obtain ⟨fuel1,hf1⟩:=h1
 have hone1:=ZDj Tryz.underlying52 (hval 1 52 v1 rfl rfl)
 rw [hone1] at hf1
 obtain ⟨row1,hok1,hrep1⟩:=ZDz ZDJ fuel1 _ _ _ _ ZCB hf1
 obtain ⟨rows1,hok1',hrep1'⟩:=ZDG hok1 hrep1
 obtain ⟨cs2,rfl,_⟩:=okWide_struct Tryz.underlying32 (hval 2 32 v2 rfl rfl)
 obtain ⟨fuel2,hf2⟩:=h2
 obtain ⟨row2,hok2,hrep2⟩:=ZDz ZDJ fuel2 _ _ _ _ Zeu hf2
 have e2c:(Value.agg cs2).cells.toList.toArray=cs2:=by simp [Value.cells]
 have hlaw:=ZEp W hT row0 _ _ hok0 hrep0 rows1 _ _ hok1' hrep1' row2 _ _ hok2 hrep2
 rw [e0c,e2c] at hlaw
 refine hlaw.mono fun e W' ⟨he,hb⟩=>?_
 subst he
 exact ⟨_,rfl,ZDA ZDF rfl rfl Tryz.underlying4 (by rw [Tryz.params5];decide +kernel) hW' rfl hb⟩
set_option maxRecDepth 100000 in
theorem ZEk:joinedFacts Tryz.checked.prog 5 Tryz.f5 Rows.fnExactApplySubstitutionSpec Rows.fnExactApplySubstitutionRow=true:=by
 unfold joinedFacts
 simp only [Bool.and_eq_true]
 and_intros
 all_goals as_aux_lemma=>kernel_rfl
theorem ZD6:Tryz.checked.prog.funcNamed Rows.fnExactApplySubstitutionRow.func=some 5:=by kernel_rfl
theorem ZEy:Rows.FnExactApplySubstitutionSaid :=
 OpenClaim.holds_of_wide 5 Tryz.f5 rfl rfl rfl rfl rfl rfl rfl ⟨rfl,rfl,rfl,rfl,rfl⟩ rfl rfl rfl rfl rfl ZD6 Tryz.func5 ZEk
  (of_decide_eq_true (by kernel_rfl)) (by unfold Func.isWrapper;rw [if_neg (of_decide_eq_false (by kernel_rfl))];exact ⟨rfl,rfl⟩)
  (fun os started H enc _=>ZEj os started H enc)
theorem applySubstitution_holds_card:Rows.FnExactApplySubstitutionCardSaid :=
 Claim7.holds_tied_plain_at .later [] [.data,.data,.data] true _ false ZEy (fun _ h=>by cases h) (by kernel_rfl) (fun _ h=>by cases h) fnExactApplySubstitution_row_tie rfl ⟨rfl,rfl⟩ (by kernel_rfl) rfl
  (fun f fn hf hfn=>by
   obtain rfl:f=5:=Option.some.inj (ZD6.symm.trans hf) |>.symm
   obtain rfl:fn=Tryz.f5:=(Option.some.inj (Tryz.func5.symm.trans hfn)).symm
   refine ⟨by kernel_rfl,fun j t ht=>?_⟩
   rw [Tryz.params5] at ht
   have hm:=Array.mem_of_getElem? ht
   have hw:([28,52,32]:List TypeId).all (fun t=>!Tryz.prog.wantsStandIn t)=true:=by kernel_rfl
   have:=List.all_eq_true.1 hw t (by simpa using hm)
   have h2:Tryz.prog.wantsStandIn t=false:=by simpa using this
   exact h2)
  (by kernel_rfl)
#print axioms applySubstitution_holds_card
end Go.Proofs.YtffmjghcpgpfpaaGreatDoor
