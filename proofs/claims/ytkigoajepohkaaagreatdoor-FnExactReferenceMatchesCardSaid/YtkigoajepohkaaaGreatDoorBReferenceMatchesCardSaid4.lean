/-
  Part of a proof.
-/
import Derived.Test.YtkigoajepohkaaaGreatDoorBReferenceMatchesCardSaid0
import Derived.Test.YtkigoajepohkaaaGreatDoorBReferenceMatchesCardSaid1
import Derived.Test.YtkigoajepohkaaaGreatDoorBReferenceMatchesCardSaid2
import Derived.Test.YtkigoajepohkaaaGreatDoorBReferenceMatchesCardSaid3
set_option linter.unusedSimpArgs false
set_option linter.unusedVariables false
set_option maxHeartbeats 400000000
set_option maxRecDepth 100000
namespace Go.Proofs.YtkigoajepohkaaaGreatDoor
open Go.RowKit
variable {rows:List (List C)} {row:List C} {left:Int}
theorem Zmd (hok:Zam (Zae .binding) rows):Zdr 46 rows:=by
 intro k E v hk hb;refine gIP (ts:=[.slot 4]) [1000] 563 Tryz.func46 ?_;refine fG @e0P ?_;by_cases hne:rows=[]
 ·subst hne;refine pEx [1000] [1000] Zgo ?_;rintro ⟨a,cap⟩ rfl;have F:=@hk;refine gL (ι:=Unit) [1,5,9] [] (fun x=>[(5,.d (.one (.lit (.int .i64 0)))),(1,.d (.one (.lit (.int .i64 k))))]) (fun x=>[]) (fun x=>True) (fun x=>0) (()) (trivial) (fun x hx=>?_);clear F;have q1:((0:Int) < 0)=False:=eq_false (by decide);have q2:((0:Int) < ((0:Nat):Int))=False:=eq_false (by decide);refine fG (ai @q1 @q2) ?_;have F:=hk
  refine gTP (R:=fun r pm=>∃ E',r=[.one (.lit (.int .i64 (k+(cntRows []:Nat))))]∧pm=[.set E' (fun w=>Own w (.sl (Zal k [])) E' (.slice a 0 cap))]) [1000] ⟨E,by simp only [cntRows,Int.natCast_zero,Int.add_zero];rfl,by simp only [Zal];rfl⟩
 ·have hrl:rowsLen 8 rows:=Zam.rowsLen hok;refine pEx [1000] [1000,1001] (Zfg hne hrl) ?_;rintro ⟨a,cap,ety,uss,E1⟩ ⟨rfl,hl,hmx⟩;simp only at hl ⊢;unfold maxLen at hmx;refine pE [] [1002] Zb4 ?_;have F:=aj4 @Zcx @Zd0 @Int.add_zero @Int.natCast_zero;refine gL (ι:=Nat × List (List Value) × (Nat->Prop) × (Nat->Prop)) [1,5,9] [1000,1001,1002] (fun x=>[(5,.d (.one (.lit (.int .i64 (x.1:Int))))),(1,.d (.one (.lit (.int .i64 (k+(cntRows (rows.take x.1):Nat))))))]) (fun x=>[(1000,.buf (some (a,cap)) ety 8 (x.2.1.map Zah)),(1001,.set x.2.2.1 (fun w=>Zao w (rows.drop x.1) x.2.2.1 (x.2.1.drop x.1))),(1002,.set x.2.2.2 (fun w=>Zao w (Zal k (rows.take x.1)) x.2.2.2 (x.2.1.take x.1)))]) (fun x=>x.1<=rows.length∧x.2.1.length=rows.length) (fun x=>rows.length - x.1) ((0,uss,E1,fun _=>False)) (⟨Taj _,hl⟩) (fun x hx=>?_);clear F
  obtain ⟨i,us,E2,E3⟩:=x;obtain ⟨hi,hn⟩:=hx;simp only at hi hn;dsimp only;by_cases hlt:i < rows.length
  ·obtain ⟨r,hr⟩:∃ r,rows[i]?=some r:=⟨_,Taa hlt⟩;obtain ⟨u,hu⟩:∃ u,us[i]?=some u:=⟨_,Taa om⟩;obtain ⟨i0,t1,i2,r3,i4,t5,i6,r7,rfl,g0,g1,g2,g3,g4,g5,g6,g7⟩:=Zgr (hok.get hr);have hm3:=Zgt g3;have hm7:=Zgt g7;have hc1:cntRows (rows.take (i+1))=cntRows (rows.take i)+(6+cntRows r3+cntRows r7):=by
    rw [Zb9 hr,Zc2];simp only [ZbV,cntC];try omega
   have hc2:=Zce rows (i+1);rw [Zch hr,Zch hu];refine pEx [1001] [1001] (Zfh rfl) ?_;rintro ⟨⟩ hlit;obtain ⟨u3,u7,rfl⟩:∃ u3 u7,u=[.int .i64 i0,.string t1,.int .i64 i2,u3,.int .i64 i4,.string t5,.int .i64 i6,u7]:=by
    match u,hlit with
    | [_,_,_,u3,_,_,_,u7],⟨rfl,rfl,rfl,rfl,rfl,rfl,_⟩=>exact ⟨u3,u7,rfl⟩
   refine pEx (f:=fun (x:(Nat->Prop) × (Nat->Nat->Prop))=>[.set x.1 (fun w=>Zao w (rows.drop (i+1)) x.1 (us.drop (i+1))),.set (x.2 0) (fun w=>Own w (.sl r3) (x.2 0) u3),.set (x.2 1) (fun w=>Own w (.sl r7) (x.2 1) u7)]) [1001] [1001,1003,1004] (Zgp rfl) ?_;rintro ⟨E4,Es⟩ -;dsimp only;have hkk0:0<=k+(cntRows (rows.take i):Int):=om;have hkk1:k+(cntRows (rows.take i):Int)+((6+cntRows r3+cntRows r7:Nat):Int)<=1000000000:=om
   generalize hkk:k+(cntRows (rows.take i):Int)=kk at hkk0 hkk1 ⊢;have q1:=lT i rows.length;have q2:i < rows.length:=hlt;have hs:∀ X:List C,((us.map Zah).set i X)[i]?=some X:=fun X=>ZfQ (by rw [ZaH,hn];omega) X;have lr:Zah [.int .i64 i0,.string t1,.int .i64 i2,u3,.int .i64 i4,.string t5,.int .i64 i6,u7]=[.lit (.int .i64 i0),.lit (.string t1),.lit (.int .i64 i2),.lit (u3),.lit (.int .i64 i4),.lit (.string t5),.lit (.int .i64 i6),.lit (u7)]:=rfl
   have w0:IntKind.i64.wrap (kk+1)=kk+1:=IntWalk.i64_in _ om;have w1:IntKind.i64.wrap (kk+1+1)=kk+1+1:=IntWalk.i64_in _ om;have w2:IntKind.i64.wrap (kk+1+1+1)=kk+1+1+1:=IntWalk.i64_in _ om;have w4:IntKind.i64.wrap (kk+1+1+1+(cntRows r3:Int)+1)=kk+1+1+1+(cntRows r3:Int)+1:=IntWalk.i64_in _ om;have w5:IntKind.i64.wrap (kk+1+1+1+(cntRows r3:Int)+1+1)=kk+1+1+1+(cntRows r3:Int)+1+1:=IntWalk.i64_in _ om
   have w6:IntKind.i64.wrap (kk+1+1+1+(cntRows r3:Int)+1+1+1)=kk+1+1+1+(cntRows r3:Int)+1+1+1:=IntWalk.i64_in _ om;have wi:IntKind.i64.wrap ((i:Int)+1)=(i:Int)+1:=IntWalk.i64_in _ om;refine fB (aj16 @q1 @hl @hn @hu @lr @ZaH @ZaS @hs @w0 @w1 @w2 @w4 @w5 @w6 @q2 @ZaZ) ?_;refine fC (aj16 @q1 @hl @hn @hu @lr @ZaH @ZaS @hs @w0 @w1 @w2 @w4 @w5 @w6 @q2 @ZaZ) (ZcT (kk+1) om om) ?_;refine fR (aj16 @q1 @hl @hn @hu @lr @ZaH @ZaS @hs @w0 @w1 @w2 @w4 @w5 @w6 @q2 @ZaZ) ?_
   refine fB (aj16 @q1 @hl @hn @hu @lr @ZaH @ZaS @hs @w0 @w1 @w2 @w4 @w5 @w6 @q2 @ZaZ) ?_;have F:=aj16 @q1 @hl @hn @hu @lr @ZaH @ZaS @hs @w0 @w1 @w2 @w4 @w5 @w6 @q2 @ZaZ;refine gCP [1003] [1003] (hm3 (kk+1+1+1) (Es 0) u3 om om) ?_;clear F;rintro r pm ⟨F3,rfl,rfl⟩;simp only [setA,retA,zipM,Taf,Tah];refine fR (aj16 @q1 @hl @hn @hu @lr @ZaH @ZaS @hs @w0 @w1 @w2 @w4 @w5 @w6 @q2 @ZaZ) ?_;refine fB (aj16 @q1 @hl @hn @hu @lr @ZaH @ZaS @hs @w0 @w1 @w2 @w4 @w5 @w6 @q2 @ZaZ) ?_
   refine fC (aj16 @q1 @hl @hn @hu @lr @ZaH @ZaS @hs @w0 @w1 @w2 @w4 @w5 @w6 @q2 @ZaZ) (ZcT (kk+1+1+1+(cntRows r3:Int)+1) om om) ?_;refine fR (aj16 @q1 @hl @hn @hu @lr @ZaH @ZaS @hs @w0 @w1 @w2 @w4 @w5 @w6 @q2 @ZaZ) ?_;refine fB (aj16 @q1 @hl @hn @hu @lr @ZaH @ZaS @hs @w0 @w1 @w2 @w4 @w5 @w6 @q2 @ZaZ) ?_;have F:=aj16 @q1 @hl @hn @hu @lr @ZaH @ZaS @hs @w0 @w1 @w2 @w4 @w5 @w6 @q2 @ZaZ;refine gCP [1004] [1004] (hm7 (kk+1+1+1+(cntRows r3:Int)+1+1+1) (Es 1) u7 om om) ?_;clear F
   rintro r pm ⟨F7,rfl,rfl⟩;simp only [setA,retA,zipM,Taf,Tah];refine fR (aj16 @q1 @hl @hn @hu @lr @ZaH @ZaS @hs @w0 @w1 @w2 @w4 @w5 @w6 @q2 @ZaZ) ?_;obtain ⟨E6,hre⟩:∃ E6,Zbe [.set E3 (fun w=>Zao w (Zal k (rows.take i)) E3 (us.take i)),.set F3 (fun w=>Own w (.sl (Zal (kk+1+1+1) r3)) F3 u3),.set F7 (fun w=>Own w (.sl (Zal (kk+1+1+1+(cntRows r3:Int)+1+1+1) r7)) F7 u7)] [.set E6 (fun w=>Zao w (Zal k (rows.take (i+1))) E6 ((us.set i [.int .i64 (kk),.string (txt (kk+1)),.int .i64 (kk+1+1),u3,.int .i64 (kk+1+1+1+(cntRows r3:Int)),.string (txt (kk+1+1+1+(cntRows r3:Int)+1)),.int .i64 (kk+1+1+1+(cntRows r3:Int)+1+1),u7]).take (i+1)))]:=by
    have hz:=Zgq (E:=E3) (done:=Zal k (rows.take i)) (ud:=us.take i) (cs:=[.lit (.int .i64 (kk)),.lit (.string (txt (kk+1))),.lit (.int .i64 (kk+1+1)),.sl (Zal (kk+1+1+1) r3),.lit (.int .i64 (kk+1+1+1+(cntRows r3:Int))),.lit (.string (txt (kk+1+1+1+(cntRows r3:Int)+1))),.lit (.int .i64 (kk+1+1+1+(cntRows r3:Int)+1+1)),.sl (Zal (kk+1+1+1+(cntRows r3:Int)+1+1+1) r7)]) (us:=[.int .i64 (kk),.string (txt (kk+1)),.int .i64 (kk+1+1),u3,.int .i64 (kk+1+1+1+(cntRows r3:Int)),.string (txt (kk+1+1+1+(cntRows r3:Int)+1)),.int .i64 (kk+1+1+1+(cntRows r3:Int)+1+1),u7]) (Es:=fun k=>match k with | 0=>F3 | _=>F7) rfl ⟨rfl,rfl,rfl,rfl,rfl,rfl,trivial⟩
    rw [Zb9 hr,ZcM,hkk,ZeF om];simp only [ZcL,mkC,mkV,cntC,Int.natCast_one];exact ⟨_,hz⟩
   refine pE [1002,1003,1004] [1002] hre ?_;have e1:((us.set i [.int .i64 (kk),.string (txt (kk+1)),.int .i64 (kk+1+1),u3,.int .i64 (kk+1+1+1+(cntRows r3:Int)),.string (txt (kk+1+1+1+(cntRows r3:Int)+1)),.int .i64 (kk+1+1+1+(cntRows r3:Int)+1+1),u7]).map Zah)=(us.map Zah).set i [.lit (.int .i64 (kk)),.lit (.string (txt (kk+1))),.lit (.int .i64 (kk+1+1)),.lit (u3),.lit (.int .i64 (kk+1+1+1+(cntRows r3:Int))),.lit (.string (txt (kk+1+1+1+(cntRows r3:Int)+1))),.lit (.int .i64 (kk+1+1+1+(cntRows r3:Int)+1+1)),.lit (u7)]:=by rw [List.map_set];rfl
   have e2:=Zfb us i [.int .i64 (kk),.string (txt (kk+1)),.int .i64 (kk+1+1),u3,.int .i64 (kk+1+1+1+(cntRows r3:Int)),.string (txt (kk+1+1+1+(cntRows r3:Int)+1)),.int .i64 (kk+1+1+1+(cntRows r3:Int)+1+1),u7];have e5:k+(cntRows (rows.take (i+1)):Int)=kk+1+1+1+(cntRows r3:Int)+1+1+1+(cntRows r7:Int):=by rw [hc1];omega
   have hn2:(us.set i [.int .i64 (kk),.string (txt (kk+1)),.int .i64 (kk+1+1),u3,.int .i64 (kk+1+1+1+(cntRows r3:Int)),.string (txt (kk+1+1+1+(cntRows r3:Int)+1)),.int .i64 (kk+1+1+1+(cntRows r3:Int)+1+1),u7]).length=rows.length:=by rw [ZaS,hn]
   generalize us.set i [.int .i64 (kk),.string (txt (kk+1)),.int .i64 (kk+1+1),u3,.int .i64 (kk+1+1+1+(cntRows r3:Int)),.string (txt (kk+1+1+1+(cntRows r3:Int)+1)),.int .i64 (kk+1+1+1+(cntRows r3:Int)+1+1),u7]=us2 at e1 e2 hn2 ⊢;rw [<- e1,<- e2];have F:=aj10 @wi @e5 @hl @w0 @w1 @w2 @w4 @w5 @w6 @hn;refine gG ?_;exact ⟨(i+1,us2,E4,E6),⟨hlt,hn2⟩,gw,gw,om⟩
  ·obtain rfl:i=rows.length:=by omega
   have q1:=lF rows.length rows.length;rw [Tap,List.take_of_length_le (Nat.le_of_eq hn)];refine fG (aj3 @q1 @hl @hn) ?_;obtain ⟨E6,hre⟩:∃ E6,Zbe [.buf (some (a,cap)) ety 8 (us.map Zah),.set E3 (fun w=>Zao w (Zal k rows) E3 us)] [.set E6 (fun w=>Own w (.sl (Zal k rows)) E6 (.slice a uss.length cap))]:=by
    rw [hl,<- hn];exact ⟨_,Zb6 (fun w h=>h) (Own.stable _ _ _)⟩
   refine pE [1000,1002] [1000] hre ?_;have F:=hk;exact gTP (R:=fun r pm=>∃ E',r=[.one (.lit (.int .i64 (k+(cntRows rows:Nat))))]∧pm=[.set E' (fun w=>Own w (.sl (Zal k rows)) E' (.slice a uss.length cap))]) [1000] ⟨E6,rfl,rfl⟩
theorem Zme (hok:Zam (Zae .binding) rows):Zdr 46 rows:=Zmd hok
theorem Zk5 (hok:Zam (Zae .bindings) rows):Zdr 15 rows:=by
 intro k E v hk hb;refine gIP (ts:=[.slot 4]) [1000] 563 Tryz.func15 ?_;refine fG @e0P ?_;by_cases hne:rows=[]
 ·subst hne;refine pEx [1000] [1000] Zgo ?_;rintro ⟨a,cap⟩ rfl;have F:=@hk;refine gL (ι:=Unit) [1,5,9] [] (fun x=>[(5,.d (.one (.lit (.int .i64 0)))),(1,.d (.one (.lit (.int .i64 k))))]) (fun x=>[]) (fun x=>True) (fun x=>0) (()) (trivial) (fun x hx=>?_);clear F;have q1:((0:Int) < 0)=False:=eq_false (by decide);have q2:((0:Int) < ((0:Nat):Int))=False:=eq_false (by decide);refine fG (ai @q1 @q2) ?_;have F:=hk
  refine gTP (R:=fun r pm=>∃ E',r=[.one (.lit (.int .i64 (k+(cntRows []:Nat))))]∧pm=[.set E' (fun w=>Own w (.sl (Zal k [])) E' (.slice a 0 cap))]) [1000] ⟨E,by simp only [cntRows,Int.natCast_zero,Int.add_zero];rfl,by simp only [Zal];rfl⟩
 ·have hrl:rowsLen 1 rows:=Zam.rowsLen hok;refine pEx [1000] [1000,1001] (Zfg hne hrl) ?_;rintro ⟨a,cap,ety,uss,E1⟩ ⟨rfl,hl,hmx⟩;simp only at hl ⊢;unfold maxLen at hmx;refine pE [] [1002] Zb4 ?_;have F:=aj4 @Zcx @Zd0 @Int.add_zero @Int.natCast_zero;refine gL (ι:=Nat × List (List Value) × (Nat->Prop) × (Nat->Prop)) [1,5,9] [1000,1001,1002] (fun x=>[(5,.d (.one (.lit (.int .i64 (x.1:Int))))),(1,.d (.one (.lit (.int .i64 (k+(cntRows (rows.take x.1):Nat))))))]) (fun x=>[(1000,.buf (some (a,cap)) ety 1 (x.2.1.map Zah)),(1001,.set x.2.2.1 (fun w=>Zao w (rows.drop x.1) x.2.2.1 (x.2.1.drop x.1))),(1002,.set x.2.2.2 (fun w=>Zao w (Zal k (rows.take x.1)) x.2.2.2 (x.2.1.take x.1)))]) (fun x=>x.1<=rows.length∧x.2.1.length=rows.length) (fun x=>rows.length - x.1) ((0,uss,E1,fun _=>False)) (⟨Taj _,hl⟩) (fun x hx=>?_);clear F
  obtain ⟨i,us,E2,E3⟩:=x;obtain ⟨hi,hn⟩:=hx;simp only at hi hn;dsimp only;by_cases hlt:i < rows.length
  ·obtain ⟨r,hr⟩:∃ r,rows[i]?=some r:=⟨_,Taa hlt⟩;obtain ⟨u,hu⟩:∃ u,us[i]?=some u:=⟨_,Taa om⟩;obtain ⟨r0,rfl,g0⟩:=ZfP (hok.get hr);have hm0:=Zme g0;have hc1:cntRows (rows.take (i+1))=cntRows (rows.take i)+(cntRows r0):=by
    rw [Zb9 hr,Zc2];simp only [ZbV,cntC];try omega
   have hc2:=Zce rows (i+1);rw [Zch hr,Zch hu];refine pEx [1001] [1001] (Zfh rfl) ?_;rintro ⟨⟩ hlit;obtain ⟨u0,rfl⟩:∃ u0,u=[u0]:=by
    match u,hlit with
    | [u0],_=>exact ⟨u0,rfl⟩
   refine pEx (f:=fun (x:(Nat->Prop) × (Nat->Nat->Prop))=>[.set x.1 (fun w=>Zao w (rows.drop (i+1)) x.1 (us.drop (i+1))),.set (x.2 0) (fun w=>Own w (.sl r0) (x.2 0) u0)]) [1001] [1001,1003] (Zgp rfl) ?_;rintro ⟨E4,Es⟩ -;dsimp only;have hkk0:0<=k+(cntRows (rows.take i):Int):=om;have hkk1:k+(cntRows (rows.take i):Int)+((cntRows r0:Nat):Int)<=1000000000:=om;generalize hkk:k+(cntRows (rows.take i):Int)=kk at hkk0 hkk1 ⊢
   have q1:=lT i rows.length;have q2:i < rows.length:=hlt;have hs:∀ X:List C,((us.map Zah).set i X)[i]?=some X:=fun X=>ZfQ (by rw [ZaH,hn];omega) X;have lr:Zah [u0]=[.lit (u0)]:=rfl;have wi:IntKind.i64.wrap ((i:Int)+1)=(i:Int)+1:=IntWalk.i64_in _ om;refine fB (aj10 @q1 @hl @hn @hu @lr @ZaH @ZaS @hs @q2 @ZaZ) ?_;have F:=aj10 @q1 @hl @hn @hu @lr @ZaH @ZaS @hs @q2 @ZaZ;refine gCP [1003] [1003] (hm0 (kk) (Es 0) u0 om om) ?_;clear F
   rintro r pm ⟨F0,rfl,rfl⟩;simp only [setA,retA,zipM,Taf,Tah];refine fR (aj10 @q1 @hl @hn @hu @lr @ZaH @ZaS @hs @q2 @ZaZ) ?_;obtain ⟨E6,hre⟩:∃ E6,Zbe [.set E3 (fun w=>Zao w (Zal k (rows.take i)) E3 (us.take i)),.set F0 (fun w=>Own w (.sl (Zal (kk) r0)) F0 u0)] [.set E6 (fun w=>Zao w (Zal k (rows.take (i+1))) E6 ((us.set i [u0]).take (i+1)))]:=by
    have hz:=Zgq (E:=E3) (done:=Zal k (rows.take i)) (ud:=us.take i) (cs:=[.sl (Zal (kk) r0)]) (us:=[u0]) (Es:=fun _=>F0) rfl trivial;rw [Zb9 hr,ZcM,hkk,ZeF om];simp only [ZcL,mkC,mkV,cntC,Int.natCast_one];exact ⟨_,hz⟩
   have hset:us.set i [u0]=us:=by
    obtain ⟨hl',he⟩:=Tad.1 hu;rw [<- he];exact List.set_getElem_self hl'
   rw [hset] at hre;refine pE [1002,1003] [1002] hre ?_;have e5:k+(cntRows (rows.take (i+1)):Int)=kk+(cntRows r0:Int):=by rw [hc1];omega
   have F:=aj4 @wi @e5 @hl @hn;refine gG ?_;exact ⟨(i+1,us,E4,E6),⟨hlt,hn⟩,gw,gw,om⟩
  ·obtain rfl:i=rows.length:=by omega
   have q1:=lF rows.length rows.length;rw [Tap,List.take_of_length_le (Nat.le_of_eq hn)];refine fG (aj3 @q1 @hl @hn) ?_;obtain ⟨E6,hre⟩:∃ E6,Zbe [.buf (some (a,cap)) ety 1 (us.map Zah),.set E3 (fun w=>Zao w (Zal k rows) E3 us)] [.set E6 (fun w=>Own w (.sl (Zal k rows)) E6 (.slice a uss.length cap))]:=by
    rw [hl,<- hn];exact ⟨_,Zb6 (fun w h=>h) (Own.stable _ _ _)⟩
   refine pE [1000,1002] [1000] hre ?_;have F:=hk;exact gTP (R:=fun r pm=>∃ E',r=[.one (.lit (.int .i64 (k+(cntRows rows:Nat))))]∧pm=[.set E' (fun w=>Own w (.sl (Zal k rows)) E' (.slice a uss.length cap))]) [1000] ⟨E6,rfl,rfl⟩
theorem Zk6 (hok:Zam (Zae .bindings) rows):Zdr 15 rows:=Zk5 hok
theorem Zmf (hok:Zam (Zae .binding) rows) (hmx:rows.length+bulkRows rows<=1048576):Zjf 47 rows:=by
 intro k hk hb;have hrb:ZaC 8 (Zal k rows)=true:=Zp3 k hok.rowsLen;have hml:=ZgG k rows;refine gI (ts:=[.slot 4]) 9905940528262939097185124915 Tryz.func47 ?_;refine fG @e0P ?_;have F:=aj4 @Zcx @Zd0 @Int.add_zero @Int.natCast_zero;refine gL (ι:=Nat) [1,4,5,9,19,30,40,52,60,71,81,93] [] (fun x=>[(5,.d (.one (.lit (.int .i64 (x:Int))))),(1,.d (.one (.lit (.int .i64 (k+(cntRows (rows.take x):Nat))))))]) (fun x=>[]) (fun x=>x<=rows.length) (fun x=>rows.length - x) (0) (Taj _) (fun x hx=>?_);clear F
 by_cases hlt:x < rows.length
 ·obtain ⟨r,hr⟩:∃ r,rows[x]?=some r:=⟨_,Taa hlt⟩;have hbr:=Zco hr;obtain ⟨i0,t1,i2,r3,i4,t5,i6,r7,rfl,_,_,_,g3,_,_,_,g7⟩:=Zgr (hok.get hr);simp only [bulkRow,ZbG] at hbr;have hm3:=Zjs g3 om;have hm7:=Zjs g7 om;have hc1:cntRows (rows.take (x+1))=cntRows (rows.take x)+(6+cntRows r3+cntRows r7):=by
   rw [Zb9 hr,Zc2];simp only [ZbV,cntC];omega
  have hc2:=Zce rows (x+1);have hg:=ZgJ k hr;simp only [ZcL,mkC,mkV,cntC,Int.natCast_one] at hg;have e5:k+(cntRows (rows.take (x+1)):Int)=k+(cntRows (rows.take x):Int)+1+1+1+(cntRows r3:Int)+1+1+1+(cntRows r7:Int):=by rw [hc1];omega
  have b1:k+(cntRows (rows.take x):Int)+6+cntRows r3+cntRows r7<=1000000000:=om;have b0:0<=k+(cntRows (rows.take x):Int):=om;generalize k+(cntRows (rows.take x):Int)=kk at hg e5 b1 b0 ⊢;have q1:=lT x rows.length;have w1:IntKind.i64.wrap (kk+1)=kk+1:=IntWalk.i64_in _ om;have w2:IntKind.i64.wrap (kk+1+1)=kk+1+1:=IntWalk.i64_in _ om;have w3:IntKind.i64.wrap (kk+1+1+1)=kk+1+1+1:=IntWalk.i64_in _ om;have w4:IntKind.i64.wrap ((x:Int)+1)=(x:Int)+1:=IntWalk.i64_in _ om
  have q5:(kk+1+1+1+(cntRows r3:Int) < 0)=False:=eq_false om;refine fB (aj6 @q1 @hml @hrb @hg @beq_self_eq_true.{0} @w1) ?_;refine fC (aj4 @q1 @hml @hrb @hg) (ZcT (kk+1) om om) ?_;refine fR (aj5 @q1 @hml @hrb @hg @beq_self_eq_true.{0}) ?_;refine fB (aj8 @q1 @hml @hrb @hg @beq_self_eq_true.{0} @w1 @w2 @w3) ?_;refine fC (aj4 @q1 @hml @hrb @hg) (hm3 (kk+1+1+1) om om) ?_;refine fR @q1 ?_;generalize hj:kk+1+1+1+(cntRows r3:Int)=jj at hg e5 q5 ⊢
  have v1:IntKind.i64.wrap (jj+1)=jj+1:=IntWalk.i64_in _ om;have v2:IntKind.i64.wrap (jj+1+1)=jj+1+1:=IntWalk.i64_in _ om;have v3:IntKind.i64.wrap (jj+1+1+1)=jj+1+1+1:=IntWalk.i64_in _ om;have q6:(jj+1+1+1+(cntRows r7:Int) < 0)=False:=eq_false om;refine fB (aj7 @q1 @q5 @hml @hrb @hg @beq_self_eq_true.{0} @v1) ?_;refine fC (aj4 @q1 @hml @hrb @hg) (ZcT (jj+1) om om) ?_;refine fR (aj5 @q1 @hml @hrb @hg @beq_self_eq_true.{0}) ?_
  refine fB (aj8 @q1 @hml @hrb @hg @beq_self_eq_true.{0} @v1 @v2 @v3) ?_;refine fC (aj4 @q1 @hml @hrb @hg) (hm7 (jj+1+1+1) om om) ?_;refine fR @q1 ?_;have F:=aj3 @q6 @w4 @e5;refine gG ?_;exact ⟨x+1,hlt,gw,gw,om⟩
 ·obtain rfl:x=rows.length:=by omega
  have q1:=lF rows.length rows.length;rw [Tap];exact fD (ai @q1 @hml)
theorem Zk7 (hok:Zam (Zae .bindings) rows) (hmx:rows.length<=1048576∧∀ r∈rows,bulkRow r<=1048576):Zjf 16 rows:=by
 intro k hk hb;have hrb:ZaC 1 (Zal k rows)=true:=Zp3 k hok.rowsLen;have hml:=ZgG k rows;refine gI (ts:=[.slot 4]) 524851 Tryz.func16 ?_;refine fG @e0P ?_;have F:=aj4 @Zcx @Zd0 @Int.add_zero @Int.natCast_zero;refine gL (ι:=Nat) [1,4,5,9,19] [] (fun x=>[(5,.d (.one (.lit (.int .i64 (x:Int))))),(1,.d (.one (.lit (.int .i64 (k+(cntRows (rows.take x):Nat))))))]) (fun x=>[]) (fun x=>x<=rows.length) (fun x=>rows.length - x) (0) (Taj _) (fun x hx=>?_);clear F
 by_cases hlt:x < rows.length
 ·obtain ⟨r,hr⟩:∃ r,rows[x]?=some r:=⟨_,Taa hlt⟩;have hbr:=hmx.2 r (Tac hr);have hmx1:=hmx.1;have hnd:=Zcb hr;obtain ⟨r0,rfl,g0⟩:=ZfP (hok.get hr);simp only [bulkRow,ZbG] at hbr;simp only [Za7,Zc3] at hnd;have hm0:=Zmf g0 om;have hc1:cntRows (rows.take (x+1))=cntRows (rows.take x)+(cntRows r0):=by
   rw [Zb9 hr,Zc2];simp only [ZbV,cntC];try omega
  have hc2:=Zce rows (x+1);have hg:=ZgJ k hr;simp only [ZcL,mkC,mkV,cntC,Int.natCast_one] at hg;have e5:k+(cntRows (rows.take (x+1)):Int)=k+(cntRows (rows.take x):Int)+(cntRows r0:Int):=by rw [hc1];omega
  have b1:k+(cntRows (rows.take x):Int)+((cntRows r0:Nat):Int)<=1000000000:=om;have b0:0<=k+(cntRows (rows.take x):Int):=om;generalize k+(cntRows (rows.take x):Int)=kk at hg e5 b1 b0 ⊢;have q1:=lT x rows.length;have wx:IntKind.i64.wrap ((x:Int)+1)=(x:Int)+1:=IntWalk.i64_in _ om;have q0a:(kk+(cntRows r0:Int) < 0)=False:=eq_false om;refine fB (aj6 @q1 @hml @hrb @hg @beq_self_eq_true.{0} @q0a) ?_;refine fC (aj6 @q1 @hml @hrb @hg @beq_self_eq_true.{0} @q0a) (hm0 (kk) om om) ?_
  refine fR (aj6 @q1 @hml @hrb @hg @beq_self_eq_true.{0} @q0a) ?_;have F:=aj8 @wx @e5 @q1 @hml @hrb @hg @beq_self_eq_true.{0} @q0a;refine gG ?_;exact ⟨x+1,hlt,gw,gw,om⟩
 ·obtain rfl:x=rows.length:=by omega
  have q1:=lF rows.length rows.length;rw [Tap];exact fD (ai @q1 @hml)
theorem Zk8 (hok:Zam (Zae .bindings) rows) (hmx:rows.length<=1048576∧∀ r∈rows,bulkRow r<=1048576):Zjf 16 rows:=Zk7 hok hmx
theorem Zpm (t:TN):(Zae t).length<=16:=by cases t <;> decide
mutual
theorem ZE5:∀ (f:F) (c:C),okC f c->cntC c<=1+16 * ZbG c
 | f,.lit v,_=>by simp only [cntC];omega
 | .sl t,.sl rows,h=>by
  have:=Zjg (Zae t) rows (Zpm t) (by simpa [okC] using h);simp only [cntC,ZbG];omega
 | .int,.sl _,h=>by simp [okC] at h
 | .str,.sl _,h=>by simp [okC] at h
 | .bool,.sl _,h=>by simp [okC] at h
 | f,.ptr _,_=>by simp [cntC]
 | f,.fn _ _,_=>by simp [cntC]
theorem Zjg:∀ (fs:List F) (rows:List (List C)),fs.length<=16->Zam fs rows->cntRows rows<=16 * (rows.length+bulkRows rows)
 | fs,[],_,_=>by simp [cntRows]
 | fs,r::rs,hl,h=>by
  simp only [Zam] at h;have h1:=Zpn fs r h.1;have h2:=Zjg fs rs hl h.2;simp only [cntRows,bulkRows,Tag];omega
theorem Zpn:∀ (fs:List F) (cs:List C),Zan fs cs->ZbV cs<=fs.length+16 * bulkRow cs
 | [],[],_=>by simp [ZbV]
 | f::fs,c::cs,h=>by
  simp only [Zan] at h;have h1:=ZE5 f c h.1;have h2:=Zpn fs cs h.2;simp only [ZbV,bulkRow,Tag];omega
 | [],_::_,h=>by simp [Zan] at h
 | _::_,[],h=>by simp [Zan] at h
end
theorem ZhQ:∀ (fs:List F) (cs:List C),Zan fs cs->cntTop cs<=16 * bulkRow cs
 | [],[],_=>by simp [cntTop]
 | f::fs,c::cs,h=>by
  simp only [Zan] at h;have h2:=ZhQ fs cs h.2
  cases c with
  | lit v=>simp only [cntTop,bulkRow];omega
  | sl rows =>
   cases f with
   | sl t =>
    have:=Zjg (Zae t) rows (Zpm t) (by simpa [okC] using h.1);simp only [cntTop,bulkRow,ZbG];omega
   | _=>simp [okC] at h
  | ptr _=>simp only [cntTop,bulkRow];omega
  | fn _ _=>simp only [cntTop,bulkRow];omega
 | [],_::_,h=>by simp [Zan] at h
 | _::_,[],h=>by simp [Zan] at h
theorem Zmg {us:List Value} {n:Nat} (h:us.length=n):(Zah us).length=n∧(Zah us).take n=Zah us∧(Zah us).drop n=[]:=by
 have hl:(Zah us).length=n:=by unfold Zah;rw [Tay];exact h
 exact ⟨hl,List.take_of_length_le (Nat.le_of_eq hl),List.drop_of_length_le (Nat.le_of_eq hl)⟩
theorem Zjt (hok:Zan (Zae .term) row) (HTerm:∀ (rows:List (List C)),Zca rows < Za7 row->Zam (Zae .term) rows->∀ {left:Int},0<=left->left<=1048576->Con e0 19 [.one (.sl rows),.one (.lit (.int .i64 left))] [.one (.lit (.int .i64 (sub left (rows.length+bulkRows rows))))]) (h0:0<=left) (h1:left<=1048576):Con e0 5 [.agg row,.one (.lit (.int .i64 left))] [.one (.lit (.int .i64 (sub left (bulkRow row))))]:=by
 obtain ⟨i0,t1,i2,r3,rfl,g0,g1,g2,g3⟩:=Zda hok;rw [show bulkRow [.lit (.int .i64 i0),.lit (.string t1),.lit (.int .i64 i2),.sl r3]=t1.size+(r3.length+bulkRows r3) by simp only [bulkRow,ZbG];omega];refine gI 133143 Tryz.func5 ?_;have hs:=g1;unfold maxLen at hs;have w:IntKind.i64.wrap (left - (t1.size:Int))=left - (t1.size:Int):=IntWalk.i64_in _ om;clear hs;by_cases q:left < (t1.size:Int)
 ·rw [Zbf om];have q':(left - (t1.size:Int) < 0)=True:=eq_true om;exact fT (ai @w @q')
 have q':(left - (t1.size:Int) < 0)=False:=eq_false om;refine fG (ai @w @q') ?_;obtain ⟨L0,e0⟩:∃ x,x=left - (t1.size:Int):=⟨_,rfl⟩;rw [<- e0];clear w q';refine fB @e0P ?_;refine fC @e0P (HTerm r3 (by simp only [Za7,Zc3];omega) g3 (left:=L0) om om) ?_;refine fR @e0P ?_;by_cases q:L0 < (((r3.length+bulkRows r3):Nat):Int)
 ·rw [Zbf (b:=(r3.length+bulkRows r3)) q]
  try rw [Zbf om]
  have q':=lT (-1) 0;exact fT @q'
 rw [ZbR (b:=(r3.length+bulkRows r3)) om];have q':(L0 - (((r3.length+bulkRows r3):Nat):Int) < 0)=False:=eq_false om;refine fG @q' ?_;obtain ⟨L1,e1⟩:∃ x,x=L0 - (((r3.length+bulkRows r3):Nat):Int):=⟨_,rfl⟩;rw [<- e1];clear q'
 try rw [ZbR om,show left - ((t1.size+(r3.length+bulkRows r3):Nat):Int)=L1 by omega]
 exact fT @e0P
theorem Zju (hok:Zan (Zae .term) row) (HTerm:∀ (rows:List (List C)),Zca rows < Za7 row->Zam (Zae .term) rows->Con e0 42 [.one (.sl rows),.one (.sl rows)] [.one (.lit (.bool true))]):Con e0 12 [.agg row,.agg row] [.one (.lit (.bool true))]:=by
 obtain ⟨i0,t1,i2,r3,rfl,g0,g1,g2,g3⟩:=Zda hok;refine gI 34095647 Tryz.func12 ?_;refine fB (@beq_self_eq_true.{0}) ?_;refine fC @e0P (HTerm r3 (by simp only [Za7,Zc3];omega) g3) ?_;refine fR @e0P ?_;exact fT (@beq_self_eq_true.{0})
theorem Ziu (hok:Zan (Zae .term) row) (HTerm:∀ (rows:List (List C)),Zca rows < Za7 row->Zam (Zae .term) rows->rows.length+bulkRows rows<=1048576->ConP e0 27 [.one (.sl rows)] [] (Zct rows)) (hb:bulkRow row<=1048576):ConP e0 8 [.agg row] [] (Zb2 row):=by
 obtain ⟨i0,t1,i2,r3,rfl,g0,g1,g2,g3⟩:=Zda hok;simp only [bulkRow,ZbG] at hb;refine gIP (ts:=[.cell 2 46]) [] 15 Tryz.func8 ?_;refine fB @e0P ?_;have F:=@e0P;refine gCP [] [1000] (HTerm r3 (by simp only [Za7,Zc3];omega) g3 om) ?_;clear F;rintro r pm ⟨u3,E3,rfl,k3,rfl⟩;simp only [setA,retA,zipM,Taf,Tah];refine fR @k3 ?_;refine fG @k3 ?_;obtain ⟨E,hre⟩:∃ E,Zbe [.set E3 (fun w=>Own w (.sl r3) E3 u3)] [.set E (fun w=>Zaf w [.lit (.int .i64 i0),.lit (.string t1),.lit (.int .i64 i2),.sl r3] E [.int .i64 i0,.string t1,.int .i64 i2,u3])]:=⟨_,ZfO [.lits [.int .i64 i0,.string t1,.int .i64 i2],.sl E3 r3 u3]⟩
 refine pE [1000] [1000] hre ?_;have hm:=Zb2.mk (row:=[.lit (.int .i64 i0),.lit (.string t1),.lit (.int .i64 i2),.sl r3]) (us:=[.int .i64 i0,.string t1,.int .i64 i2,u3]) (E:=E) rfl (by simp only [Zah,Tbv,List.map_nil,List.all_cons,List.all_nil,Bool.and_true,Tar];exact ⟨rfl,rfl,rfl,k3⟩);exact (have F:=e0P;gTP (R:=Zb2 [.lit (.int .i64 i0),.lit (.string t1),.lit (.int .i64 i2),.sl r3]) [1000] hm)
theorem Zoi (hok:Zam (Zae .term) rows) (h:∀ (i:Nat) r,rows[i]?=some r->∀ {left:Int},0<=left->left<=1048576->Con e0 5 [.agg r,.one (.lit (.int .i64 left))] [.one (.lit (.int .i64 (sub left (bulkRow r))))]) (h0:0<=left) (h1:left<=1048576):Con e0 19 [.one (.sl rows),.one (.lit (.int .i64 left))] [.one (.lit (.int .i64 (sub left (rows.length+bulkRows rows))))]:=by
 refine ZcZ (by kernel_rfl) fun hm=>?_;unfold maxLen at hm;have w:IntKind.i64.wrap (left - (rows.length:Int))=left - (rows.length:Int):=IntWalk.i64_in _ om;have hrb:ZaC 4 rows=true:=Zbl.2 hok.rowsLen;refine gI 33589299 Tryz.func19 ?_;by_cases q:left < (rows.length:Int)
 ·rw [Zbf om];have q':(left - (rows.length:Int) < 0)=True:=eq_true om;exact fT (ai @w @q')
 have q':(left - (rows.length:Int) < 0)=False:=eq_false om;refine fG (ai @w @q') ?_;have F:=aj4 @tk0 @Zhs @Int.natCast_zero @Int.sub_zero;refine gL (ι:=Nat) [1,4,5,15,25] [] (fun x=>[(5,.d (.one (.lit (.int .i64 (x:Int))))),(1,.d (.one (.lit (.int .i64 (left - (rows.length:Int) - (bulkRows (rows.take x):Int))))))]) (fun x=>[]) (fun x=>x<=rows.length∧0<=left - (rows.length:Int) - (bulkRows (rows.take x):Int)) (fun x=>rows.length - x) (0) (⟨Taj _,by simp [bulkRows];omega⟩) (fun x hx=>?_);clear F
 obtain ⟨hx,hl⟩:=hx;by_cases hlt:x < rows.length
 ·obtain ⟨r,hr⟩:∃ r,rows[x]?=some r:=⟨_,Taa hlt⟩;have hq:=hok.get hr;obtain ⟨ln,tk,dr⟩:=hq.take (n:=4) rfl;have okc:=hq.cells;have q1:=lT x rows.length;have wi:=Zau (k:=x) om;have hbt:=Zf9 hr;have hbl:=Zes rows (x+1)
  skip
  have fe:=aj10 hr hlt Zap hrb q1 okc ln tk dr (@Zaz C);obtain ⟨l,hle⟩:∃ l,l=left - (rows.length:Int) - (bulkRows (rows.take x):Int):=⟨_,rfl⟩;rw [<- hle];refine fB @fe ?_;refine fC @fe (h x _ hr (left:=l) om om) ?_;refine fR @fe ?_;by_cases q:l < ((bulkRow r:Nat):Int)
  ·rw [Zbf (b:=bulkRow r) q,Zbf om];have q':=lT (-1) 0;exact fT @q'
  rw [ZbR (b:=bulkRow r) om];have q':(l - ((bulkRow r:Nat):Int) < 0)=False:=eq_false om;have e:left - (rows.length:Int) - (bulkRows (rows.take (x+1)):Int)=l - ((bulkRow r:Nat):Int):=om;have F:=aj3 @q' @wi @e;refine gG ?_;exact ⟨x+1,⟨hlt,om⟩,gw,gw,om⟩
 ·obtain rfl:x=rows.length:=by omega
  have q1:=lF rows.length rows.length;rw [Tap] at hl ⊢;rw [ZbR om,show left - ((rows.length+bulkRows rows:Nat):Int)=left - (rows.length:Int) - (bulkRows rows:Int) by omega];exact fT @q1
theorem Zoj (hok:Zam (Zae .term) rows) (h:∀ (i:Nat) r,rows[i]?=some r->Con e0 12 [.agg r,.agg r] [.one (.lit (.bool true))]):Con e0 42 [.one (.sl rows),.one (.sl rows)] [.one (.lit (.bool true))]:=by
 refine ZcZ (by kernel_rfl) fun hm=>?_;unfold maxLen at hm;have hrb:ZaC 4 rows=true:=Zbl.2 hok.rowsLen;refine gI 67126323 Tryz.func42 ?_;refine fG (@beq_self_eq_true.{0}) ?_;have F:=@e0P;refine gL (ι:=Nat) [4,5,14,26] [] (fun x=>[(5,.d (.one (.lit (.int .i64 (x:Int)))))]) (fun x=>[]) (fun x=>x<=rows.length) (fun x=>rows.length - x) (0) (Taj _) (fun x hx=>?_);clear F;by_cases hlt:x < rows.length
 ·obtain ⟨r,hr⟩:∃ r,rows[x]?=some r:=⟨_,Taa hlt⟩;have hq:=hok.get hr;obtain ⟨ln,tk,dr⟩:=hq.take (n:=4) rfl;have okc:=hq.cells;have q1:=lT x rows.length;have wi:=Zau (k:=x) om;have fe:=aj10 hr hlt Zap hrb q1 okc ln tk dr (@Zaz C);refine fB @fe ?_;refine fC @fe (h x _ hr) ?_;refine fR @fe ?_;have F:=@wi;refine gG ?_;exact ⟨x+1,hlt,gw,gw,om⟩
 ·obtain rfl:x=rows.length:=by omega
  have q1:=lF rows.length rows.length;exact fT @q1
theorem ZnB (hok:Zam (Zae .term) rows) (h:∀ (i:Nat) r,rows[i]?=some r->bulkRow r<=1048576->ConP e0 8 [.agg r] [] (Zb2 r)) (hb:rows.length+bulkRows rows<=1048576):ConP e0 27 [.one (.sl rows)] [] (Zct rows):=by
 have hrb:ZaC 4 rows=true:=Zbl.2 hok.rowsLen;have hmx:((rows.length:Int)<=(maxApp:Int))=True:=eq_true (by unfold maxApp;omega);refine gIP (ts:=[.slot 2]) [] 2077 Tryz.func27 ?_;refine fG (ai @hmx @Tby) ?_;refine pE [] [1000] Zb4 ?_;have F:=aj3 @nla @Nat.sub_zero @tk0;refine gL (ι:=Nat × List (List Value) × (Nat->Prop)) [3,4,11] [3,1000] (fun x=>[(4,.d (.one (.lit (.int .i64 (x.1:Int))))),(3,.buf 3)]) (fun x=>[(3,.buf none 46 4 (x.2.1.map Zah++List.replicate (rows.length - x.1) [C.lit (.int .i64 0),C.lit (.string .empty),C.lit (.int .i64 0),C.sl []])),(1000,.set x.2.2 (fun w=>Zao w (rows.take x.1) x.2.2 x.2.1))]) (fun x=>x.1<=rows.length∧x.2.1.length=x.1) (fun x=>rows.length - x.1) ((0,[],fun _=>False)) (⟨Taj _,rfl⟩) (fun x hx=>?_);clear F
 obtain ⟨i,uss,E⟩:=x;obtain ⟨hi,hn⟩:=hx;simp only at hi hn;dsimp only;by_cases hlt:i < rows.length
 ·obtain ⟨r,hr⟩:∃ r,rows[i]?=some r:=⟨_,Taa hlt⟩;have hq:=hok.get hr;obtain ⟨ln,tk,dr⟩:=hq.take (n:=4) rfl;have okc:=hq.cells;have q1:=lT i rows.length;have wi:=Zau (k:=i) om;have fe:=aj10 hr hlt Zap hrb q1 okc ln tk dr (@Zaz C);obtain ⟨k,hk⟩:∃ k,rows.length - i=k+1:=⟨rows.length - i - 1,om⟩;have hk2:rows.length - (i+1)=k:=om;rw [hk];have bl:(uss.map Zah++List.replicate (k+1) [C.lit (.int .i64 0),C.lit (.string .empty),C.lit (.int .i64 0),C.sl []]).length=rows.length:=by simp;omega
  have bs:∀ X,(uss.map Zah++List.replicate (k+1) [C.lit (.int .i64 0),C.lit (.string .empty),C.lit (.int .i64 0),C.sl []]).set i X=(uss.map Zah++[X])++List.replicate k [C.lit (.int .i64 0),C.lit (.string .empty),C.lit (.int .i64 0),C.sl []]:=fun X=>ZgT _ _ _ _ _ (by simp [hn]);have bg:(uss.map Zah++List.replicate (k+1) [C.lit (.int .i64 0),C.lit (.string .empty),C.lit (.int .i64 0),C.sl []])[i]?=some [C.lit (.int .i64 0),C.lit (.string .empty),C.lit (.int .i64 0),C.sl []]:=by rw [Tbq (by simp;omega),Tbs,if_pos (by simp;omega)]
  have hbr:=Zco hr;refine fB (ai @fe @bl) ?_;have F:=ai @fe @bl;refine gCP [] [1001] (h i _ hr om) ?_;clear F;rintro r' pm ⟨us,E2,rfl,hu,hok2,rfl⟩;rw [ln] at hu;obtain ⟨u0,u1,u2,u3,rfl⟩:=len4 hu;have hok2:Zas (.lit u0)=true∧Zas (.lit u1)=true∧Zas (.lit u2)=true∧Zas (.lit u3)=true:=by simpa [Zah,Tar,and_assoc] using hok2
  obtain ⟨k0,k1,k2,k3⟩:=hok2;have lr:Zah [u0,u1,u2,u3]=[.lit u0,.lit u1,.lit u2,.lit u3]:=rfl;rw [lr];simp only [setA,retA,zipM,Taf,Tah];refine fR (aj8 @hlt @bl @bs @bg @k0 @k1 @k2 @k3) ?_;refine pE [1000,1001] [1000] (Zgm (G':=fun w=>Zao w (rows.take (i+1)) (fun b=>E b∨E2 b) (uss++[[u0,u1,u2,u3]])) (fun w h1 h2 hd=>?_) (Zao.stable _ _ _)) ?_
  ·rw [tks hr];exact Zao.snoc h1 h2 (fun _ h=>.inl h) (fun _ h=>.inr h) hd
  have F:=aj5 @bs @wi @hk2 @lr ((@Tbw.{0,0}));refine gG ?_;exact ⟨(i+1,uss++[[u0,u1,u2,u3]],fun b=>E b∨E2 b),⟨hlt,by simp [hn]⟩,gw,gw,om⟩
 ·obtain rfl:i=rows.length:=by omega
  have q1:=lF rows.length rows.length;rw [Nat.sub_self,List.replicate_zero,List.append_nil,Tap];refine fG @q1 ?_;refine pS 2 fun a cap=>?_;refine pE [2,1000] [1000] (Zb6 (fun w h=>h) (Own.stable _ _ _)) ?_;exact (have F:=e0P;gTP (R:=Zct rows) [1000] ⟨.slice a uss.length cap,_,rfl,rfl,rfl⟩)
theorem Zww (n:Nat):(∀ rows,Zca rows < n->Zam (Zae .term) rows->∀ {left:Int},0<=left->left<=1048576->Con e0 19 [.one (.sl rows),.one (.lit (.int .i64 left))] [.one (.lit (.int .i64 (sub left (rows.length+bulkRows rows))))]):=by
 induction n with
 | zero=>exact fun rows h=>absurd h om
 | succ n ih =>
  exact fun rows hn hok {left} h0 h1=>Zoi hok (fun i r hr left h0 h1=>Zjt (hok.get hr) (fun rows2 h2 ok2=>ih rows2 (by have:=Zcb hr;omega) ok2) h0 h1) h0 h1
theorem ZnC (hok:Zan (Zae .term) row) (h0:0<=left) (h1:left<=1048576):Con e0 5 [.agg row,.one (.lit (.int .i64 left))] [.one (.lit (.int .i64 (sub left (bulkRow row))))]:=Zjt hok (fun rows _ ok=>(Zww _) rows (Tan _) ok) h0 h1
theorem Zwx (n:Nat):(∀ rows,Zca rows < n->Zam (Zae .term) rows->Con e0 42 [.one (.sl rows),.one (.sl rows)] [.one (.lit (.bool true))]):=by
 induction n with
 | zero=>exact fun rows h=>absurd h om
 | succ n ih =>
  exact fun rows hn hok=>Zoj hok (fun i r hr=>Zju (hok.get hr) (fun rows2 h2 ok2=>ih rows2 (by have:=Zcb hr;omega) ok2))
theorem ZgK (hok:Zan (Zae .term) row):Con e0 12 [.agg row,.agg row] [.one (.lit (.bool true))]:=Zju hok (fun rows _ ok=>(Zwx _) rows (Tan _) ok)
theorem Zwy (n:Nat):(∀ rows,Zca rows < n->Zam (Zae .term) rows->rows.length+bulkRows rows<=1048576->ConP e0 27 [.one (.sl rows)] [] (Zct rows)):=by
 induction n with
 | zero=>exact fun rows h=>absurd h om
 | succ n ih =>
  exact fun rows hn hok hb=>ZnB hok (fun i r hr hb=>Ziu (hok.get hr) (fun rows2 h2 ok2=>ih rows2 (by have:=Zcb hr;omega) ok2) hb) hb
theorem Zh2 (hok:Zan (Zae .term) row) (hb:bulkRow row<=1048576):ConP e0 8 [.agg row] [] (Zb2 row):=Ziu hok (fun rows _ ok=>(Zwy _) rows (Tan _) ok) hb
theorem ZnD (hok:Zan (Zae .term) row) (hb:bulkRow row<=1048576):Con e0 8 [.agg row] [.agg row]:=ZrZ (Zh2 hok hb)
theorem Zwz (hok:Zam (Zae .int) rows) (h0:0<=left) (h1:left<=1048576):Con e0 181 [.one (.sl rows),.one (.lit (.int .i64 left))] [.one (.lit (.int .i64 (sub left (rows.length+bulkRows rows))))]:=by
 refine ZcZ (by kernel_rfl) fun hm=>?_;unfold maxLen at hm;have w:IntKind.i64.wrap (left - (rows.length:Int))=left - (rows.length:Int):=IntWalk.i64_in _ om;rw [Zwq (fs:=Zae .int) (by rfl) hok,Nat.add_zero];refine gI 1043 Tryz.func181 ?_;by_cases q:left < (rows.length:Int)
 ·rw [Zbf om];have q':(left - (rows.length:Int) < 0)=True:=eq_true om;exact fT (ai @w @q')
 have q':(left - (rows.length:Int) < 0)=False:=eq_false om;rw [ZbR om];exact fT (ai @w @q')
theorem ZwA (hok:Zam (Zae .int) rows):Con e0 199 [.one (.sl rows),.one (.sl rows)] [.one (.lit (.bool true))]:=by
 refine ZcZ (by kernel_rfl) fun hm=>?_;unfold maxLen at hm;have hrb:ZaC 1 rows=true:=Zbl.2 hok.rowsLen;refine gI 33571891 Tryz.func199 ?_;refine fG (@beq_self_eq_true.{0}) ?_;have F:=@e0P;refine gL (ι:=Nat) [4,5,14,25] [] (fun x=>[(5,.d (.one (.lit (.int .i64 (x:Int)))))]) (fun x=>[]) (fun x=>x<=rows.length) (fun x=>rows.length - x) (0) (Taj _) (fun x hx=>?_);clear F;by_cases hlt:x < rows.length
 ·obtain ⟨r,hr⟩:∃ r,rows[x]?=some r:=⟨_,Taa hlt⟩;obtain ⟨x0,rfl,g0⟩:=ZhE (hok.get hr);have q1:=lT x rows.length;have wi:=Zau (k:=x) om;have fe:=aj5 hr hlt Zap hrb q1;have F:=aj3 @beq_self_eq_true.{0} @wi @fe;refine gG ?_;exact ⟨x+1,hlt,gw,gw,om⟩
 ·obtain rfl:x=rows.length:=by omega
  have q1:=lF rows.length rows.length;exact fT @q1
theorem Zs7 (hok:Zam (Zae .int) rows) (hb:rows.length+bulkRows rows<=1048576):ConP e0 184 [.one (.sl rows)] [] (Zct rows):=by
 have hrb:ZaC 1 rows=true:=Zbl.2 hok.rowsLen;have hmx:((rows.length:Int)<=(maxApp:Int))=True:=eq_true (by unfold maxApp;omega);refine gIP (ts:=[.slot 2]) [] 2077 Tryz.func184 ?_;refine fG (ai @hmx @Tby) ?_;refine pE [] [1000] Zb4 ?_;have F:=aj3 @nla @Nat.sub_zero @tk0;refine gL (ι:=Nat × List (List Value) × (Nat->Prop)) [3,4,11] [3,1000] (fun x=>[(4,.d (.one (.lit (.int .i64 (x.1:Int))))),(3,.buf 3)]) (fun x=>[(3,.buf none 3 1 (x.2.1.map Zah++List.replicate (rows.length - x.1) [C.lit (.int .i64 0)])),(1000,.set x.2.2 (fun w=>Zao w (rows.take x.1) x.2.2 x.2.1))]) (fun x=>x.1<=rows.length∧x.2.1.length=x.1) (fun x=>rows.length - x.1) ((0,[],fun _=>False)) (⟨Taj _,rfl⟩) (fun x hx=>?_);clear F
 obtain ⟨i,uss,E⟩:=x;obtain ⟨hi,hn⟩:=hx;simp only at hi hn;dsimp only;by_cases hlt:i < rows.length
 ·obtain ⟨r,hr⟩:∃ r,rows[i]?=some r:=⟨_,Taa hlt⟩;obtain ⟨x0,rfl,g0⟩:=ZhE (hok.get hr);have q1:=lT i rows.length;have wi:=Zau (k:=i) om;have fe:=aj5 hr hlt Zap hrb q1;obtain ⟨k,hk⟩:∃ k,rows.length - i=k+1:=⟨rows.length - i - 1,om⟩;have hk2:rows.length - (i+1)=k:=om;rw [hk];have bl:(uss.map Zah++List.replicate (k+1) [C.lit (.int .i64 0)]).length=rows.length:=by simp;omega
  have bs:∀ X,(uss.map Zah++List.replicate (k+1) [C.lit (.int .i64 0)]).set i X=(uss.map Zah++[X])++List.replicate k [C.lit (.int .i64 0)]:=fun X=>ZgT _ _ _ _ _ (by simp [hn]);have bg:(uss.map Zah++List.replicate (k+1) [C.lit (.int .i64 0)])[i]?=some [C.lit (.int .i64 0)]:=by rw [Tbq (by simp;omega),Tbs,if_pos (by simp;omega)]
  refine pE [1000] [1000] (ZzL (G':=fun w=>Zao w (rows.take (i+1)) E (uss++[[.int .i64 x0]])) (fun w h=>?_) (Zao.stable _ _ _)) ?_
  ·rw [tks hr];exact Zao.snoc (S2:=fun _=>False) h (Zaf.lits (us:=[.int .i64 x0])) (fun _ h=>h) (fun _ h=>h.elim) (fun _ _ h=>h)
  have F:=aj8 @fe @bl @bs @bg @wi @hk2 @ZEb ((@Tbw.{0,0}));refine gG ?_;exact ⟨(i+1,uss++[[.int .i64 x0]],E),⟨hlt,by simp [hn]⟩,gw,gw,om⟩
 ·obtain rfl:i=rows.length:=by omega
  have q1:=lF rows.length rows.length;rw [Nat.sub_self,List.replicate_zero,List.append_nil,Tap];refine fG @q1 ?_;refine pS 2 fun a cap=>?_;refine pE [2,1000] [1000] (Zb6 (fun w h=>h) (Own.stable _ _ _)) ?_;exact (have F:=e0P;gTP (R:=Zct rows) [1000] ⟨.slice a uss.length cap,_,rfl,rfl,rfl⟩)
theorem ZwB (hok:Zan (Zae .decl) row) (h0:0<=left) (h1:left<=1048576):Con e0 154 [.agg row,.one (.lit (.int .i64 left))] [.one (.lit (.int .i64 (sub left (bulkRow row))))]:=by
 obtain ⟨r0,i1,rfl,g0,g1⟩:=Zfm hok;rw [show bulkRow [.sl r0,.lit (.int .i64 i1)]=(r0.length+bulkRows r0) by simp only [bulkRow,ZbG];omega];refine gI 1047 Tryz.func154 ?_;refine fB @e0P ?_;refine fC @e0P (Zwz g0 (left:=left) om om) ?_;refine fR @e0P ?_;by_cases q:left < (((r0.length+bulkRows r0):Nat):Int)
 ·rw [Zbf (b:=(r0.length+bulkRows r0)) q]
  try rw [Zbf om]
  have q':=lT (-1) 0;exact fT @q'
 rw [ZbR (b:=(r0.length+bulkRows r0)) om];have q':(left - (((r0.length+bulkRows r0):Nat):Int) < 0)=False:=eq_false om;refine fG @q' ?_;obtain ⟨L0,e0⟩:∃ x,x=left - (((r0.length+bulkRows r0):Nat):Int):=⟨_,rfl⟩;rw [<- e0];clear q'
 try rw [ZbR om,show left - (((r0.length+bulkRows r0):Nat):Int)=L0 by omega]
 exact fT @e0P
theorem ZwC (hok:Zan (Zae .decl) row):Con e0 180 [.agg row,.agg row] [.one (.lit (.bool true))]:=by
 obtain ⟨r0,i1,rfl,g0,g1⟩:=Zfm hok;refine gI 33823 Tryz.func180 ?_;refine fB (@beq_self_eq_true.{0}) ?_;refine fC @e0P (ZwA g0) ?_;refine fR @e0P ?_;exact fT (@beq_self_eq_true.{0})
theorem Zs8 (hok:Zan (Zae .decl) row) (hb:bulkRow row<=1048576):ConP e0 164 [.agg row] [] (Zb2 row):=by
 obtain ⟨r0,i1,rfl,g0,g1⟩:=Zfm hok;simp only [bulkRow,ZbG] at hb;refine gIP (ts:=[.cell 2 159]) [] 15 Tryz.func164 ?_;refine fB @e0P ?_;have F:=@e0P;refine gCP [] [1000] (Zs7 g0 om) ?_;clear F;rintro r pm ⟨u0,E0,rfl,k0,rfl⟩;simp only [setA,retA,zipM,Taf,Tah];refine fR @k0 ?_;refine fG @k0 ?_;obtain ⟨E,hre⟩:∃ E,Zbe [.set E0 (fun w=>Own w (.sl r0) E0 u0)] [.set E (fun w=>Zaf w [.sl r0,.lit (.int .i64 i1)] E [u0,.int .i64 i1])]:=⟨_,ZfO [.sl E0 r0 u0,.lits [.int .i64 i1]]⟩
 refine pE [1000] [1000] hre ?_;have hm:=Zb2.mk (row:=[.sl r0,.lit (.int .i64 i1)]) (us:=[u0,.int .i64 i1]) (E:=E) rfl (by simp only [Zah,Tbv,List.map_nil,List.all_cons,List.all_nil,Bool.and_true,Tar];exact ⟨k0,rfl⟩);exact (have F:=e0P;gTP (R:=Zb2 [.sl r0,.lit (.int .i64 i1)]) [1000] hm)
theorem Zs9 (hok:Zam (Zae .decl) rows) (h0:0<=left) (h1:left<=1048576):Con e0 98 [.one (.sl rows),.one (.lit (.int .i64 left))] [.one (.lit (.int .i64 (sub left (rows.length+bulkRows rows))))]:=by
 refine ZcZ (by kernel_rfl) fun hm=>?_;unfold maxLen at hm;have w:IntKind.i64.wrap (left - (rows.length:Int))=left - (rows.length:Int):=IntWalk.i64_in _ om;have hrb:ZaC 2 rows=true:=Zbl.2 hok.rowsLen;refine gI 33589299 Tryz.func98 ?_;by_cases q:left < (rows.length:Int)
 ·rw [Zbf om];have q':(left - (rows.length:Int) < 0)=True:=eq_true om;exact fT (ai @w @q')
 have q':(left - (rows.length:Int) < 0)=False:=eq_false om;refine fG (ai @w @q') ?_;have F:=aj4 @tk0 @Zhs @Int.natCast_zero @Int.sub_zero;refine gL (ι:=Nat) [1,4,5,15,25] [] (fun x=>[(5,.d (.one (.lit (.int .i64 (x:Int))))),(1,.d (.one (.lit (.int .i64 (left - (rows.length:Int) - (bulkRows (rows.take x):Int))))))]) (fun x=>[]) (fun x=>x<=rows.length∧0<=left - (rows.length:Int) - (bulkRows (rows.take x):Int)) (fun x=>rows.length - x) (0) (⟨Taj _,by simp [bulkRows];omega⟩) (fun x hx=>?_);clear F
 obtain ⟨hx,hl⟩:=hx;by_cases hlt:x < rows.length
 ·obtain ⟨r,hr⟩:∃ r,rows[x]?=some r:=⟨_,Taa hlt⟩;have hq:=hok.get hr;obtain ⟨ln,tk,dr⟩:=hq.take (n:=2) rfl;have okc:=hq.cells;have q1:=lT x rows.length;have wi:=Zau (k:=x) om;have hbt:=Zf9 hr;have hbl:=Zes rows (x+1)
  skip
  have fe:=aj10 hr hlt Zap hrb q1 okc ln tk dr (@Zaz C);obtain ⟨l,hle⟩:∃ l,l=left - (rows.length:Int) - (bulkRows (rows.take x):Int):=⟨_,rfl⟩;rw [<- hle];refine fB @fe ?_;refine fC @fe (ZwB hq (left:=l) om om) ?_;refine fR @fe ?_;by_cases q:l < ((bulkRow r:Nat):Int)
  ·rw [Zbf (b:=bulkRow r) q,Zbf om];have q':=lT (-1) 0;exact fT @q'
  rw [ZbR (b:=bulkRow r) om];have q':(l - ((bulkRow r:Nat):Int) < 0)=False:=eq_false om;have e:left - (rows.length:Int) - (bulkRows (rows.take (x+1)):Int)=l - ((bulkRow r:Nat):Int):=om;have F:=aj3 @q' @wi @e;refine gG ?_;exact ⟨x+1,⟨hlt,om⟩,gw,gw,om⟩
 ·obtain rfl:x=rows.length:=by omega
  have q1:=lF rows.length rows.length;rw [Tap] at hl ⊢;rw [ZbR om,show left - ((rows.length+bulkRows rows:Nat):Int)=left - (rows.length:Int) - (bulkRows rows:Int) by omega];exact fT @q1
theorem Zta (hok:Zam (Zae .decl) rows):Con e0 152 [.one (.sl rows),.one (.sl rows)] [.one (.lit (.bool true))]:=by
 refine ZcZ (by kernel_rfl) fun hm=>?_;unfold maxLen at hm;have hrb:ZaC 2 rows=true:=Zbl.2 hok.rowsLen;refine gI 67126323 Tryz.func152 ?_;refine fG (@beq_self_eq_true.{0}) ?_;have F:=@e0P;refine gL (ι:=Nat) [4,5,14,26] [] (fun x=>[(5,.d (.one (.lit (.int .i64 (x:Int)))))]) (fun x=>[]) (fun x=>x<=rows.length) (fun x=>rows.length - x) (0) (Taj _) (fun x hx=>?_);clear F;by_cases hlt:x < rows.length
 ·obtain ⟨r,hr⟩:∃ r,rows[x]?=some r:=⟨_,Taa hlt⟩;have hq:=hok.get hr;obtain ⟨ln,tk,dr⟩:=hq.take (n:=2) rfl;have okc:=hq.cells;have q1:=lT x rows.length;have wi:=Zau (k:=x) om;have fe:=aj10 hr hlt Zap hrb q1 okc ln tk dr (@Zaz C);refine fB @fe ?_;refine fC @fe (ZwC hq) ?_;refine fR @fe ?_;have F:=@wi;refine gG ?_;exact ⟨x+1,hlt,gw,gw,om⟩
 ·obtain rfl:x=rows.length:=by omega
  have q1:=lF rows.length rows.length;exact fT @q1
theorem Zr8 (hok:Zam (Zae .decl) rows) (hb:rows.length+bulkRows rows<=1048576):ConP e0 118 [.one (.sl rows)] [] (Zct rows):=by
 have hrb:ZaC 2 rows=true:=Zbl.2 hok.rowsLen;have hmx:((rows.length:Int)<=(maxApp:Int))=True:=eq_true (by unfold maxApp;omega);refine gIP (ts:=[.slot 2]) [] 2077 Tryz.func118 ?_;refine fG (ai @hmx @Tby) ?_;refine pE [] [1000] Zb4 ?_;have F:=aj3 @nla @Nat.sub_zero @tk0;refine gL (ι:=Nat × List (List Value) × (Nat->Prop)) [3,4,11] [3,1000] (fun x=>[(4,.d (.one (.lit (.int .i64 (x.1:Int))))),(3,.buf 3)]) (fun x=>[(3,.buf none 159 2 (x.2.1.map Zah++List.replicate (rows.length - x.1) [C.sl [],C.lit (.int .i64 0)])),(1000,.set x.2.2 (fun w=>Zao w (rows.take x.1) x.2.2 x.2.1))]) (fun x=>x.1<=rows.length∧x.2.1.length=x.1) (fun x=>rows.length - x.1) ((0,[],fun _=>False)) (⟨Taj _,rfl⟩) (fun x hx=>?_);clear F
 obtain ⟨i,uss,E⟩:=x;obtain ⟨hi,hn⟩:=hx;simp only at hi hn;dsimp only;by_cases hlt:i < rows.length
 ·obtain ⟨r,hr⟩:∃ r,rows[i]?=some r:=⟨_,Taa hlt⟩;have hq:=hok.get hr;obtain ⟨ln,tk,dr⟩:=hq.take (n:=2) rfl;have okc:=hq.cells;have q1:=lT i rows.length;have wi:=Zau (k:=i) om;have fe:=aj10 hr hlt Zap hrb q1 okc ln tk dr (@Zaz C);obtain ⟨k,hk⟩:∃ k,rows.length - i=k+1:=⟨rows.length - i - 1,om⟩;have hk2:rows.length - (i+1)=k:=om;rw [hk];have bl:(uss.map Zah++List.replicate (k+1) [C.sl [],C.lit (.int .i64 0)]).length=rows.length:=by simp;omega
  have bs:∀ X,(uss.map Zah++List.replicate (k+1) [C.sl [],C.lit (.int .i64 0)]).set i X=(uss.map Zah++[X])++List.replicate k [C.sl [],C.lit (.int .i64 0)]:=fun X=>ZgT _ _ _ _ _ (by simp [hn]);have bg:(uss.map Zah++List.replicate (k+1) [C.sl [],C.lit (.int .i64 0)])[i]?=some [C.sl [],C.lit (.int .i64 0)]:=by rw [Tbq (by simp;omega),Tbs,if_pos (by simp;omega)]
  have hbr:=Zco hr;refine fB (ai @fe @bl) ?_;have F:=ai @fe @bl;refine gCP [] [1001] (Zs8 hq om) ?_;clear F;rintro r' pm ⟨us,E2,rfl,hu,hok2,rfl⟩;rw [ln] at hu;obtain ⟨u0,u1,rfl⟩:=len2 hu;have hok2:Zas (.lit u0)=true∧Zas (.lit u1)=true:=by simpa [Zah,Tar,and_assoc] using hok2
  obtain ⟨k0,k1⟩:=hok2;have lr:Zah [u0,u1]=[.lit u0,.lit u1]:=rfl;rw [lr];simp only [setA,retA,zipM,Taf,Tah];refine fR (aj6 @hlt @bl @bs @bg @k0 @k1) ?_;refine pE [1000,1001] [1000] (Zgm (G':=fun w=>Zao w (rows.take (i+1)) (fun b=>E b∨E2 b) (uss++[[u0,u1]])) (fun w h1 h2 hd=>?_) (Zao.stable _ _ _)) ?_
  ·rw [tks hr];exact Zao.snoc h1 h2 (fun _ h=>.inl h) (fun _ h=>.inr h) hd
  have F:=aj5 @bs @wi @hk2 @lr ((@Tbw.{0,0}));refine gG ?_;exact ⟨(i+1,uss++[[u0,u1]],fun b=>E b∨E2 b),⟨hlt,by simp [hn]⟩,gw,gw,om⟩
 ·obtain rfl:i=rows.length:=by omega
  have q1:=lF rows.length rows.length;rw [Nat.sub_self,List.replicate_zero,List.append_nil,Tap];refine fG @q1 ?_;refine pS 2 fun a cap=>?_;refine pE [2,1000] [1000] (Zb6 (fun w h=>h) (Own.stable _ _ _)) ?_;exact (have F:=e0P;gTP (R:=Zct rows) [1000] ⟨.slice a uss.length cap,_,rfl,rfl,rfl⟩)
theorem ZCE (hok:Zan (Zae .op) row) (h0:0<=left) (h1:left<=1048576):Con e0 50 [.agg row,.one (.lit (.int .i64 left))] [.one (.lit (.int .i64 (sub left (bulkRow row))))]:=by
 obtain ⟨t0,r1,p2,p3,i4,rfl,g0,g1,g2,g3,g4⟩:=Zg3 hok;rw [show bulkRow [.lit (.string t0),.sl r1,.lit (.bool p2),.lit (.bool p3),.lit (.int .i64 i4)]=t0.size+(r1.length+bulkRows r1) by simp only [bulkRow,ZbG];omega];refine gI 133143 Tryz.func50 ?_;have hs:=g0;unfold maxLen at hs;have w:IntKind.i64.wrap (left - (t0.size:Int))=left - (t0.size:Int):=IntWalk.i64_in _ om;clear hs;by_cases q:left < (t0.size:Int)
 ·rw [Zbf om];have q':(left - (t0.size:Int) < 0)=True:=eq_true om;exact fT (ai @w @q')
 have q':(left - (t0.size:Int) < 0)=False:=eq_false om;refine fG (ai @w @q') ?_;obtain ⟨L0,e0⟩:∃ x,x=left - (t0.size:Int):=⟨_,rfl⟩;rw [<- e0];clear w q';refine fB @e0P ?_;refine fC @e0P (Zs9 g1 (left:=L0) om om) ?_;refine fR @e0P ?_;by_cases q:L0 < (((r1.length+bulkRows r1):Nat):Int)
 ·rw [Zbf (b:=(r1.length+bulkRows r1)) q]
  try rw [Zbf om]
  have q':=lT (-1) 0;exact fT @q'
 rw [ZbR (b:=(r1.length+bulkRows r1)) om];have q':(L0 - (((r1.length+bulkRows r1):Nat):Int) < 0)=False:=eq_false om;refine fG @q' ?_;obtain ⟨L1,e1⟩:∃ x,x=L0 - (((r1.length+bulkRows r1):Nat):Int):=⟨_,rfl⟩;rw [<- e1];clear q'
 try rw [ZbR om,show left - ((t0.size+(r1.length+bulkRows r1):Nat):Int)=L1 by omega]
 exact fT @e0P
theorem ZCF (hok:Zan (Zae .op) row):Con e0 92 [.agg row,.agg row] [.one (.lit (.bool true))]:=by
 obtain ⟨t0,r1,p2,p3,i4,rfl,g0,g1,g2,g3,g4⟩:=Zg3 hok;refine gI 1108378143 Tryz.func92 ?_;refine fB (@beq_self_eq_true.{0}) ?_;refine fC @e0P (Zta g1) ?_;refine fR @e0P ?_;exact fT (@beq_self_eq_true.{0})
theorem ZAY (hok:Zan (Zae .op) row) (hb:bulkRow row<=1048576):ConP e0 67 [.agg row] [] (Zb2 row):=by
 obtain ⟨t0,r1,p2,p3,i4,rfl,g0,g1,g2,g3,g4⟩:=Zg3 hok;simp only [bulkRow,ZbG] at hb;refine gIP (ts:=[.cell 2 110]) [] 15 Tryz.func67 ?_;refine fB @e0P ?_;have F:=@e0P;refine gCP [] [1000] (Zr8 g1 om) ?_;clear F;rintro r pm ⟨u1,E1,rfl,k1,rfl⟩;simp only [setA,retA,zipM,Taf,Tah];refine fR @k1 ?_;refine fG @k1 ?_;obtain ⟨E,hre⟩:∃ E,Zbe [.set E1 (fun w=>Own w (.sl r1) E1 u1)] [.set E (fun w=>Zaf w [.lit (.string t0),.sl r1,.lit (.bool p2),.lit (.bool p3),.lit (.int .i64 i4)] E [.string t0,u1,.bool p2,.bool p3,.int .i64 i4])]:=⟨_,ZfO [.lits [.string t0],.sl E1 r1 u1,.lits [.bool p2,.bool p3,.int .i64 i4]]⟩
 refine pE [1000] [1000] hre ?_;have hm:=Zb2.mk (row:=[.lit (.string t0),.sl r1,.lit (.bool p2),.lit (.bool p3),.lit (.int .i64 i4)]) (us:=[.string t0,u1,.bool p2,.bool p3,.int .i64 i4]) (E:=E) rfl (by simp only [Zah,Tbv,List.map_nil,List.all_cons,List.all_nil,Bool.and_true,Tar];exact ⟨rfl,k1,rfl,rfl,rfl⟩);exact (have F:=e0P;gTP (R:=Zb2 [.lit (.string t0),.sl r1,.lit (.bool p2),.lit (.bool p3),.lit (.int .i64 i4)]) [1000] hm)
theorem ZAZ (hok:Zam (Zae .op) rows) (h0:0<=left) (h1:left<=1048576):Con e0 18 [.one (.sl rows),.one (.lit (.int .i64 left))] [.one (.lit (.int .i64 (sub left (rows.length+bulkRows rows))))]:=by
 refine ZcZ (by kernel_rfl) fun hm=>?_;unfold maxLen at hm;have w:IntKind.i64.wrap (left - (rows.length:Int))=left - (rows.length:Int):=IntWalk.i64_in _ om;have hrb:ZaC 5 rows=true:=Zbl.2 hok.rowsLen;refine gI 33589299 Tryz.func18 ?_;by_cases q:left < (rows.length:Int)
 ·rw [Zbf om];have q':(left - (rows.length:Int) < 0)=True:=eq_true om;exact fT (ai @w @q')
 have q':(left - (rows.length:Int) < 0)=False:=eq_false om;refine fG (ai @w @q') ?_;have F:=aj4 @tk0 @Zhs @Int.natCast_zero @Int.sub_zero;refine gL (ι:=Nat) [1,4,5,15,25] [] (fun x=>[(5,.d (.one (.lit (.int .i64 (x:Int))))),(1,.d (.one (.lit (.int .i64 (left - (rows.length:Int) - (bulkRows (rows.take x):Int))))))]) (fun x=>[]) (fun x=>x<=rows.length∧0<=left - (rows.length:Int) - (bulkRows (rows.take x):Int)) (fun x=>rows.length - x) (0) (⟨Taj _,by simp [bulkRows];omega⟩) (fun x hx=>?_);clear F
 obtain ⟨hx,hl⟩:=hx;by_cases hlt:x < rows.length
 ·obtain ⟨r,hr⟩:∃ r,rows[x]?=some r:=⟨_,Taa hlt⟩;have hq:=hok.get hr;obtain ⟨ln,tk,dr⟩:=hq.take (n:=5) rfl;have okc:=hq.cells;have q1:=lT x rows.length;have wi:=Zau (k:=x) om;have hbt:=Zf9 hr;have hbl:=Zes rows (x+1)
  skip
  have fe:=aj10 hr hlt Zap hrb q1 okc ln tk dr (@Zaz C);obtain ⟨l,hle⟩:∃ l,l=left - (rows.length:Int) - (bulkRows (rows.take x):Int):=⟨_,rfl⟩;rw [<- hle];refine fB @fe ?_;refine fC @fe (ZCE hq (left:=l) om om) ?_;refine fR @fe ?_;by_cases q:l < ((bulkRow r:Nat):Int)
  ·rw [Zbf (b:=bulkRow r) q,Zbf om];have q':=lT (-1) 0;exact fT @q'
  rw [ZbR (b:=bulkRow r) om];have q':(l - ((bulkRow r:Nat):Int) < 0)=False:=eq_false om;have e:left - (rows.length:Int) - (bulkRows (rows.take (x+1)):Int)=l - ((bulkRow r:Nat):Int):=om;have F:=aj3 @q' @wi @e;refine gG ?_;exact ⟨x+1,⟨hlt,om⟩,gw,gw,om⟩
 ·obtain rfl:x=rows.length:=by omega
  have q1:=lF rows.length rows.length;rw [Tap] at hl ⊢;rw [ZbR om,show left - ((rows.length+bulkRows rows:Nat):Int)=left - (rows.length:Int) - (bulkRows rows:Int) by omega];exact fT @q1
theorem ZA0 (hok:Zam (Zae .op) rows):Con e0 41 [.one (.sl rows),.one (.sl rows)] [.one (.lit (.bool true))]:=by
 refine ZcZ (by kernel_rfl) fun hm=>?_;unfold maxLen at hm;have hrb:ZaC 5 rows=true:=Zbl.2 hok.rowsLen;refine gI 67126323 Tryz.func41 ?_;refine fG (@beq_self_eq_true.{0}) ?_;have F:=@e0P;refine gL (ι:=Nat) [4,5,14,26] [] (fun x=>[(5,.d (.one (.lit (.int .i64 (x:Int)))))]) (fun x=>[]) (fun x=>x<=rows.length) (fun x=>rows.length - x) (0) (Taj _) (fun x hx=>?_);clear F;by_cases hlt:x < rows.length
 ·obtain ⟨r,hr⟩:∃ r,rows[x]?=some r:=⟨_,Taa hlt⟩;have hq:=hok.get hr;obtain ⟨ln,tk,dr⟩:=hq.take (n:=5) rfl;have okc:=hq.cells;have q1:=lT x rows.length;have wi:=Zau (k:=x) om;have fe:=aj10 hr hlt Zap hrb q1 okc ln tk dr (@Zaz C);refine fB @fe ?_;refine fC @fe (ZCF hq) ?_;refine fR @fe ?_;have F:=@wi;refine gG ?_;exact ⟨x+1,hlt,gw,gw,om⟩
 ·obtain rfl:x=rows.length:=by omega
  have q1:=lF rows.length rows.length;exact fT @q1
theorem ZwD (hok:Zam (Zae .op) rows) (hb:rows.length+bulkRows rows<=1048576):ConP e0 26 [.one (.sl rows)] [] (Zct rows):=by
 have hrb:ZaC 5 rows=true:=Zbl.2 hok.rowsLen;have hmx:((rows.length:Int)<=(maxApp:Int))=True:=eq_true (by unfold maxApp;omega);refine gIP (ts:=[.slot 2]) [] 2077 Tryz.func26 ?_;refine fG (ai @hmx @Tby) ?_;refine pE [] [1000] Zb4 ?_;have F:=aj3 @nla @Nat.sub_zero @tk0;refine gL (ι:=Nat × List (List Value) × (Nat->Prop)) [3,4,11] [3,1000] (fun x=>[(4,.d (.one (.lit (.int .i64 (x.1:Int))))),(3,.buf 3)]) (fun x=>[(3,.buf none 110 5 (x.2.1.map Zah++List.replicate (rows.length - x.1) [C.lit (.string .empty),C.sl [],C.lit (.bool false),C.lit (.bool false),C.lit (.int .i64 0)])),(1000,.set x.2.2 (fun w=>Zao w (rows.take x.1) x.2.2 x.2.1))]) (fun x=>x.1<=rows.length∧x.2.1.length=x.1) (fun x=>rows.length - x.1) ((0,[],fun _=>False)) (⟨Taj _,rfl⟩) (fun x hx=>?_);clear F
 obtain ⟨i,uss,E⟩:=x;obtain ⟨hi,hn⟩:=hx;simp only at hi hn;dsimp only;by_cases hlt:i < rows.length
 ·obtain ⟨r,hr⟩:∃ r,rows[i]?=some r:=⟨_,Taa hlt⟩;have hq:=hok.get hr;obtain ⟨ln,tk,dr⟩:=hq.take (n:=5) rfl;have okc:=hq.cells;have q1:=lT i rows.length;have wi:=Zau (k:=i) om;have fe:=aj10 hr hlt Zap hrb q1 okc ln tk dr (@Zaz C);obtain ⟨k,hk⟩:∃ k,rows.length - i=k+1:=⟨rows.length - i - 1,om⟩;have hk2:rows.length - (i+1)=k:=om;rw [hk];have bl:(uss.map Zah++List.replicate (k+1) [C.lit (.string .empty),C.sl [],C.lit (.bool false),C.lit (.bool false),C.lit (.int .i64 0)]).length=rows.length:=by simp;omega
  have bs:∀ X,(uss.map Zah++List.replicate (k+1) [C.lit (.string .empty),C.sl [],C.lit (.bool false),C.lit (.bool false),C.lit (.int .i64 0)]).set i X=(uss.map Zah++[X])++List.replicate k [C.lit (.string .empty),C.sl [],C.lit (.bool false),C.lit (.bool false),C.lit (.int .i64 0)]:=fun X=>ZgT _ _ _ _ _ (by simp [hn]);have bg:(uss.map Zah++List.replicate (k+1) [C.lit (.string .empty),C.sl [],C.lit (.bool false),C.lit (.bool false),C.lit (.int .i64 0)])[i]?=some [C.lit (.string .empty),C.sl [],C.lit (.bool false),C.lit (.bool false),C.lit (.int .i64 0)]:=by rw [Tbq (by simp;omega),Tbs,if_pos (by simp;omega)]
  have hbr:=Zco hr;refine fB (ai @fe @bl) ?_;have F:=ai @fe @bl;refine gCP [] [1001] (ZAY hq om) ?_;clear F;rintro r' pm ⟨us,E2,rfl,hu,hok2,rfl⟩;rw [ln] at hu;obtain ⟨u0,u1,u2,u3,u4,rfl⟩:=len5 hu;have hok2:Zas (.lit u0)=true∧Zas (.lit u1)=true∧Zas (.lit u2)=true∧Zas (.lit u3)=true∧Zas (.lit u4)=true:=by simpa [Zah,Tar,and_assoc] using hok2
  obtain ⟨k0,k1,k2,k3,k4⟩:=hok2;have lr:Zah [u0,u1,u2,u3,u4]=[.lit u0,.lit u1,.lit u2,.lit u3,.lit u4]:=rfl;rw [lr];simp only [setA,retA,zipM,Taf,Tah];refine fR (aj9 @hlt @bl @bs @bg @k0 @k1 @k2 @k3 @k4) ?_;refine pE [1000,1001] [1000] (Zgm (G':=fun w=>Zao w (rows.take (i+1)) (fun b=>E b∨E2 b) (uss++[[u0,u1,u2,u3,u4]])) (fun w h1 h2 hd=>?_) (Zao.stable _ _ _)) ?_
  ·rw [tks hr];exact Zao.snoc h1 h2 (fun _ h=>.inl h) (fun _ h=>.inr h) hd
  have F:=aj5 @bs @wi @hk2 @lr ((@Tbw.{0,0}));refine gG ?_;exact ⟨(i+1,uss++[[u0,u1,u2,u3,u4]],fun b=>E b∨E2 b),⟨hlt,by simp [hn]⟩,gw,gw,om⟩
 ·obtain rfl:i=rows.length:=by omega
  have q1:=lF rows.length rows.length;rw [Nat.sub_self,List.replicate_zero,List.append_nil,Tap];refine fG @q1 ?_;refine pS 2 fun a cap=>?_;refine pE [2,1000] [1000] (Zb6 (fun w h=>h) (Own.stable _ _ _)) ?_;exact (have F:=e0P;gTP (R:=Zct rows) [1000] ⟨.slice a uss.length cap,_,rfl,rfl,rfl⟩)
theorem ZpG (hok:Zam (Zae .str) rows) (h0:0<=left) (h1:left<=1048576):Con e0 48 [.one (.sl rows),.one (.lit (.int .i64 left))] [.one (.lit (.int .i64 (sub left (rows.length+bulkRows rows))))]:=by
 refine ZcZ (by kernel_rfl) fun hm=>?_;unfold maxLen at hm;have w:IntKind.i64.wrap (left - (rows.length:Int))=left - (rows.length:Int):=IntWalk.i64_in _ om;have hrb:ZaC 1 rows=true:=Zbl.2 hok.rowsLen;refine gI 67143731 Tryz.func48 ?_;by_cases q:left < (rows.length:Int)
 ·rw [Zbf om];have q':(left - (rows.length:Int) < 0)=True:=eq_true om;exact fT (ai @w @q')
 have q':(left - (rows.length:Int) < 0)=False:=eq_false om;refine fG (ai @w @q') ?_;have F:=aj4 @tk0 @Zhs @Int.natCast_zero @Int.sub_zero;refine gL (ι:=Nat) [1,4,5,15,26] [] (fun x=>[(5,.d (.one (.lit (.int .i64 (x:Int))))),(1,.d (.one (.lit (.int .i64 (left - (rows.length:Int) - (bulkRows (rows.take x):Int))))))]) (fun x=>[]) (fun x=>x<=rows.length∧0<=left - (rows.length:Int) - (bulkRows (rows.take x):Int)) (fun x=>rows.length - x) (0) (⟨Taj _,by simp [bulkRows];omega⟩) (fun x hx=>?_);clear F
 obtain ⟨hx,hl⟩:=hx;by_cases hlt:x < rows.length
 ·obtain ⟨r,hr⟩:∃ r,rows[x]?=some r:=⟨_,Taa hlt⟩;obtain ⟨x0,rfl,g0⟩:=Zey (hok.get hr);have q1:=lT x rows.length;have wi:=Zau (k:=x) om;have hbt:=Zf9 hr;have hbl:=Zes rows (x+1);have hbe:bulkRow [.lit (.string x0)]=x0.size:=by simp [bulkRow,ZbG]
  have fe:=aj5 hr hlt Zap hrb q1;obtain ⟨l,hle⟩:∃ l,l=left - (rows.length:Int) - (bulkRows (rows.take x):Int):=⟨_,rfl⟩;rw [<- hle];have hs:=g0;unfold maxLen at hs;have w:IntKind.i64.wrap (l - (x0.size:Int))=l - (x0.size:Int):=IntWalk.i64_in _ om;by_cases q:l < (x0.size:Int)
  ·rw [Zbf om];have q':(l - (x0.size:Int) < 0)=True:=eq_true om;exact fT (aj3 @w @q' @fe)
  have q':(l - (x0.size:Int) < 0)=False:=eq_false om;refine fG (aj3 @w @q' @fe) ?_;have e:left - (rows.length:Int) - (bulkRows (rows.take (x+1)):Int)=l - ((x0.size:Nat):Int):=om;have F:=aj3 @q' @wi @e;refine gG ?_;exact ⟨x+1,⟨hlt,om⟩,gw,gw,om⟩
 ·obtain rfl:x=rows.length:=by omega
  have q1:=lF rows.length rows.length;rw [Tap] at hl ⊢;rw [ZbR om,show left - ((rows.length+bulkRows rows:Nat):Int)=left - (rows.length:Int) - (bulkRows rows:Int) by omega];exact fT @q1
theorem ZpH (hok:Zam (Zae .str) rows):Con e0 90 [.one (.sl rows),.one (.sl rows)] [.one (.lit (.bool true))]:=by
 refine ZcZ (by kernel_rfl) fun hm=>?_;unfold maxLen at hm;have hrb:ZaC 1 rows=true:=Zbl.2 hok.rowsLen;refine gI 33571891 Tryz.func90 ?_;refine fG (@beq_self_eq_true.{0}) ?_;have F:=@e0P;refine gL (ι:=Nat) [4,5,14,25] [] (fun x=>[(5,.d (.one (.lit (.int .i64 (x:Int)))))]) (fun x=>[]) (fun x=>x<=rows.length) (fun x=>rows.length - x) (0) (Taj _) (fun x hx=>?_);clear F;by_cases hlt:x < rows.length
 ·obtain ⟨r,hr⟩:∃ r,rows[x]?=some r:=⟨_,Taa hlt⟩;obtain ⟨x0,rfl,g0⟩:=Zey (hok.get hr);have q1:=lT x rows.length;have wi:=Zau (k:=x) om;have fe:=aj5 hr hlt Zap hrb q1;have F:=aj3 @beq_self_eq_true.{0} @wi @fe;refine gG ?_;exact ⟨x+1,hlt,gw,gw,om⟩
 ·obtain rfl:x=rows.length:=by omega
  have q1:=lF rows.length rows.length;exact fT @q1
theorem Zok (hok:Zam (Zae .str) rows) (hb:rows.length+bulkRows rows<=1048576):ConP e0 65 [.one (.sl rows)] [] (Zct rows):=by
 have hrb:ZaC 1 rows=true:=Zbl.2 hok.rowsLen;have hmx:((rows.length:Int)<=(maxApp:Int))=True:=eq_true (by unfold maxApp;omega);refine gIP (ts:=[.slot 2]) [] 2077 Tryz.func65 ?_;refine fG (ai @hmx @Tby) ?_;refine pE [] [1000] Zb4 ?_;have F:=aj3 @nla @Nat.sub_zero @tk0;refine gL (ι:=Nat × List (List Value) × (Nat->Prop)) [3,4,11] [3,1000] (fun x=>[(4,.d (.one (.lit (.int .i64 (x.1:Int))))),(3,.buf 3)]) (fun x=>[(3,.buf none 9 1 (x.2.1.map Zah++List.replicate (rows.length - x.1) [C.lit (.string .empty)])),(1000,.set x.2.2 (fun w=>Zao w (rows.take x.1) x.2.2 x.2.1))]) (fun x=>x.1<=rows.length∧x.2.1.length=x.1) (fun x=>rows.length - x.1) ((0,[],fun _=>False)) (⟨Taj _,rfl⟩) (fun x hx=>?_);clear F
 obtain ⟨i,uss,E⟩:=x;obtain ⟨hi,hn⟩:=hx;simp only at hi hn;dsimp only;by_cases hlt:i < rows.length
 ·obtain ⟨r,hr⟩:∃ r,rows[i]?=some r:=⟨_,Taa hlt⟩;obtain ⟨x0,rfl,g0⟩:=Zey (hok.get hr);have q1:=lT i rows.length;have wi:=Zau (k:=i) om;have fe:=aj5 hr hlt Zap hrb q1;obtain ⟨k,hk⟩:∃ k,rows.length - i=k+1:=⟨rows.length - i - 1,om⟩;have hk2:rows.length - (i+1)=k:=om;rw [hk];have bl:(uss.map Zah++List.replicate (k+1) [C.lit (.string .empty)]).length=rows.length:=by simp;omega
  have bs:∀ X,(uss.map Zah++List.replicate (k+1) [C.lit (.string .empty)]).set i X=(uss.map Zah++[X])++List.replicate k [C.lit (.string .empty)]:=fun X=>ZgT _ _ _ _ _ (by simp [hn]);have bg:(uss.map Zah++List.replicate (k+1) [C.lit (.string .empty)])[i]?=some [C.lit (.string .empty)]:=by rw [Tbq (by simp;omega),Tbs,if_pos (by simp;omega)]
  refine pE [1000] [1000] (ZzL (G':=fun w=>Zao w (rows.take (i+1)) E (uss++[[.string x0]])) (fun w h=>?_) (Zao.stable _ _ _)) ?_
  ·rw [tks hr];exact Zao.snoc (S2:=fun _=>False) h (Zaf.lits (us:=[.string x0])) (fun _ h=>h) (fun _ h=>h.elim) (fun _ _ h=>h)
  have F:=aj8 @fe @bl @bs @bg @wi @hk2 @ZEb ((@Tbw.{0,0}));refine gG ?_;exact ⟨(i+1,uss++[[.string x0]],E),⟨hlt,by simp [hn]⟩,gw,gw,om⟩
 ·obtain rfl:i=rows.length:=by omega
  have q1:=lF rows.length rows.length;rw [Nat.sub_self,List.replicate_zero,List.append_nil,Tap];refine fG @q1 ?_;refine pS 2 fun a cap=>?_;refine pE [2,1000] [1000] (Zb6 (fun w h=>h) (Own.stable _ _ _)) ?_;exact (have F:=e0P;gTP (R:=Zct rows) [1000] ⟨.slice a uss.length cap,_,rfl,rfl,rfl⟩)
theorem ZA1 (hok:Zan (Zae .sub) row):Con e0 151 [.agg row,.agg row] [.one (.lit (.bool true))]:=by
 obtain ⟨i0,i1,rfl,g0,g1⟩:=ZhF hok;refine gI 16927 Tryz.func151 ?_;exact fT (@beq_self_eq_true.{0})
theorem ZwE (hok:Zan (Zae .sub) row) (hb:bulkRow row<=1048576):ConP e0 117 [.agg row] [] (Zb2 row):=by
 obtain ⟨i0,i1,rfl,g0,g1⟩:=ZhF hok;simp only [bulkRow,ZbG] at hb;refine gIP (ts:=[.cell 2 150]) [] 15 Tryz.func117 ?_;refine fG @e0P ?_;obtain ⟨E,hre⟩:∃ E,Zbe [] [.set E (fun w=>Zaf w [.lit (.int .i64 i0),.lit (.int .i64 i1)] E [.int .i64 i0,.int .i64 i1])]:=⟨_,ZfO [.lits [.int .i64 i0,.int .i64 i1]]⟩;refine pE [] [1000] hre ?_;have hm:=Zb2.mk (row:=[.lit (.int .i64 i0),.lit (.int .i64 i1)]) (us:=[.int .i64 i0,.int .i64 i1]) (E:=E) rfl (by simp only [Zah,Tbv,List.map_nil,List.all_cons,List.all_nil,Bool.and_true,Tar];exact ⟨rfl,rfl⟩)
 exact (have F:=e0P;gTP (R:=Zb2 [.lit (.int .i64 i0),.lit (.int .i64 i1)]) [1000] hm)
theorem ZwF (hok:Zam (Zae .sub) rows) (h0:0<=left) (h1:left<=1048576):Con e0 49 [.one (.sl rows),.one (.lit (.int .i64 left))] [.one (.lit (.int .i64 (sub left (rows.length+bulkRows rows))))]:=by
 refine ZcZ (by kernel_rfl) fun hm=>?_;unfold maxLen at hm;have w:IntKind.i64.wrap (left - (rows.length:Int))=left - (rows.length:Int):=IntWalk.i64_in _ om;rw [Zwq (fs:=Zae .sub) (by rfl) hok,Nat.add_zero];refine gI 1043 Tryz.func49 ?_;by_cases q:left < (rows.length:Int)
 ·rw [Zbf om];have q':(left - (rows.length:Int) < 0)=True:=eq_true om;exact fT (ai @w @q')
 have q':(left - (rows.length:Int) < 0)=False:=eq_false om;rw [ZbR om];exact fT (ai @w @q')
theorem ZwG (hok:Zam (Zae .sub) rows):Con e0 91 [.one (.sl rows),.one (.sl rows)] [.one (.lit (.bool true))]:=by
 refine ZcZ (by kernel_rfl) fun hm=>?_;unfold maxLen at hm;have hrb:ZaC 2 rows=true:=Zbl.2 hok.rowsLen;refine gI 67126323 Tryz.func91 ?_;refine fG (@beq_self_eq_true.{0}) ?_;have F:=@e0P;refine gL (ι:=Nat) [4,5,14,26] [] (fun x=>[(5,.d (.one (.lit (.int .i64 (x:Int)))))]) (fun x=>[]) (fun x=>x<=rows.length) (fun x=>rows.length - x) (0) (Taj _) (fun x hx=>?_);clear F;by_cases hlt:x < rows.length
 ·obtain ⟨r,hr⟩:∃ r,rows[x]?=some r:=⟨_,Taa hlt⟩;have hq:=hok.get hr;obtain ⟨ln,tk,dr⟩:=hq.take (n:=2) rfl;have okc:=hq.cells;have q1:=lT x rows.length;have wi:=Zau (k:=x) om;have fe:=aj10 hr hlt Zap hrb q1 okc ln tk dr (@Zaz C);refine fB @fe ?_;refine fC @fe (ZA1 hq) ?_;refine fR @fe ?_;have F:=@wi;refine gG ?_;exact ⟨x+1,hlt,gw,gw,om⟩
 ·obtain rfl:x=rows.length:=by omega
  have q1:=lF rows.length rows.length;exact fT @q1
theorem Ztb (hok:Zam (Zae .sub) rows) (hb:rows.length+bulkRows rows<=1048576):ConP e0 66 [.one (.sl rows)] [] (Zct rows):=by
 have hrb:ZaC 2 rows=true:=Zbl.2 hok.rowsLen;have hmx:((rows.length:Int)<=(maxApp:Int))=True:=eq_true (by unfold maxApp;omega);refine gIP (ts:=[.slot 2]) [] 2077 Tryz.func66 ?_;refine fG (ai @hmx @Tby) ?_;refine pE [] [1000] Zb4 ?_;have F:=aj3 @nla @Nat.sub_zero @tk0;refine gL (ι:=Nat × List (List Value) × (Nat->Prop)) [3,4,11] [3,1000] (fun x=>[(4,.d (.one (.lit (.int .i64 (x.1:Int))))),(3,.buf 3)]) (fun x=>[(3,.buf none 150 2 (x.2.1.map Zah++List.replicate (rows.length - x.1) [C.lit (.int .i64 0),C.lit (.int .i64 0)])),(1000,.set x.2.2 (fun w=>Zao w (rows.take x.1) x.2.2 x.2.1))]) (fun x=>x.1<=rows.length∧x.2.1.length=x.1) (fun x=>rows.length - x.1) ((0,[],fun _=>False)) (⟨Taj _,rfl⟩) (fun x hx=>?_);clear F
 obtain ⟨i,uss,E⟩:=x;obtain ⟨hi,hn⟩:=hx;simp only at hi hn;dsimp only;by_cases hlt:i < rows.length
 ·obtain ⟨r,hr⟩:∃ r,rows[i]?=some r:=⟨_,Taa hlt⟩;have hq:=hok.get hr;obtain ⟨ln,tk,dr⟩:=hq.take (n:=2) rfl;have okc:=hq.cells;have q1:=lT i rows.length;have wi:=Zau (k:=i) om;have fe:=aj10 hr hlt Zap hrb q1 okc ln tk dr (@Zaz C);obtain ⟨k,hk⟩:∃ k,rows.length - i=k+1:=⟨rows.length - i - 1,om⟩;have hk2:rows.length - (i+1)=k:=om;rw [hk];have bl:(uss.map Zah++List.replicate (k+1) [C.lit (.int .i64 0),C.lit (.int .i64 0)]).length=rows.length:=by simp;omega
  have bs:∀ X,(uss.map Zah++List.replicate (k+1) [C.lit (.int .i64 0),C.lit (.int .i64 0)]).set i X=(uss.map Zah++[X])++List.replicate k [C.lit (.int .i64 0),C.lit (.int .i64 0)]:=fun X=>ZgT _ _ _ _ _ (by simp [hn]);have bg:(uss.map Zah++List.replicate (k+1) [C.lit (.int .i64 0),C.lit (.int .i64 0)])[i]?=some [C.lit (.int .i64 0),C.lit (.int .i64 0)]:=by rw [Tbq (by simp;omega),Tbs,if_pos (by simp;omega)]
  have hbr:=Zco hr;refine fB (ai @fe @bl) ?_;have F:=ai @fe @bl;refine gCP [] [1001] (ZwE hq om) ?_;clear F;rintro r' pm ⟨us,E2,rfl,hu,hok2,rfl⟩;rw [ln] at hu;obtain ⟨u0,u1,rfl⟩:=len2 hu;have hok2:Zas (.lit u0)=true∧Zas (.lit u1)=true:=by simpa [Zah,Tar,and_assoc] using hok2
  obtain ⟨k0,k1⟩:=hok2;have lr:Zah [u0,u1]=[.lit u0,.lit u1]:=rfl;rw [lr];simp only [setA,retA,zipM,Taf,Tah];refine fR (aj6 @hlt @bl @bs @bg @k0 @k1) ?_;refine pE [1000,1001] [1000] (Zgm (G':=fun w=>Zao w (rows.take (i+1)) (fun b=>E b∨E2 b) (uss++[[u0,u1]])) (fun w h1 h2 hd=>?_) (Zao.stable _ _ _)) ?_
  ·rw [tks hr];exact Zao.snoc h1 h2 (fun _ h=>.inl h) (fun _ h=>.inr h) hd
  have F:=aj5 @bs @wi @hk2 @lr ((@Tbw.{0,0}));refine gG ?_;exact ⟨(i+1,uss++[[u0,u1]],fun b=>E b∨E2 b),⟨hlt,by simp [hn]⟩,gw,gw,om⟩
 ·obtain rfl:i=rows.length:=by omega
  have q1:=lF rows.length rows.length;rw [Nat.sub_self,List.replicate_zero,List.append_nil,Tap];refine fG @q1 ?_;refine pS 2 fun a cap=>?_;refine pE [2,1000] [1000] (Zb6 (fun w h=>h) (Own.stable _ _ _)) ?_;exact (have F:=e0P;gTP (R:=Zct rows) [1000] ⟨.slice a uss.length cap,_,rfl,rfl,rfl⟩)
theorem Ztc (hok:Zan (Zcu) row) (h0:0<=left) (h1:left<=1048576):Con e0 17 [.agg row,.one (.lit (.int .i64 left))] [.one (.lit (.int .i64 (sub left (bulkRow row))))]:=by
 obtain ⟨r0,r1,rfl,g0,g1⟩:=ZfU hok;rw [show bulkRow [.sl r0,.sl r1]=(r0.length+bulkRows r0)+(r1.length+bulkRows r1) by simp only [bulkRow,ZbG];omega];refine gI 66583 Tryz.func17 ?_;refine fB @e0P ?_;refine fC @e0P (ZpG g0 (left:=left) om om) ?_;refine fR @e0P ?_;by_cases q:left < (((r0.length+bulkRows r0):Nat):Int)
 ·rw [Zbf (b:=(r0.length+bulkRows r0)) q]
  try rw [Zbf om]
  have q':=lT (-1) 0;exact fT @q'
 rw [ZbR (b:=(r0.length+bulkRows r0)) om];have q':(left - (((r0.length+bulkRows r0):Nat):Int) < 0)=False:=eq_false om;refine fG @q' ?_;obtain ⟨L0,e0⟩:∃ x,x=left - (((r0.length+bulkRows r0):Nat):Int):=⟨_,rfl⟩;rw [<- e0];clear q';refine fB @e0P ?_;refine fC @e0P (ZwF g1 (left:=L0) om om) ?_;refine fR @e0P ?_;by_cases q:L0 < (((r1.length+bulkRows r1):Nat):Int)
 ·rw [Zbf (b:=(r1.length+bulkRows r1)) q]
  try rw [Zbf om]
  have q':=lT (-1) 0;exact fT @q'
 rw [ZbR (b:=(r1.length+bulkRows r1)) om];have q':(L0 - (((r1.length+bulkRows r1):Nat):Int) < 0)=False:=eq_false om;refine fG @q' ?_;obtain ⟨L1,e1⟩:∃ x,x=L0 - (((r1.length+bulkRows r1):Nat):Int):=⟨_,rfl⟩;rw [<- e1];clear q'
 try rw [ZbR om,show left - (((r0.length+bulkRows r0)+(r1.length+bulkRows r1):Nat):Int)=L1 by omega]
 exact fT @e0P
theorem Ztd (hok:Zan (Zcu) row):Con e0 40 [.agg row,.agg row] [.one (.lit (.bool true))]:=by
 obtain ⟨r0,r1,rfl,g0,g1⟩:=ZfU hok;refine gI 66591 Tryz.func40 ?_;refine fB (@beq_self_eq_true.{0}) ?_;refine fC @e0P (ZpH g0) ?_;refine fR @e0P ?_;refine fB (@beq_self_eq_true.{0}) ?_;refine fC @e0P (ZwG g1) ?_;refine fR @e0P ?_;exact fT (@beq_self_eq_true.{0})
theorem Zr9 (hok:Zan (Zcu) row) (hb:bulkRow row<=1048576):ConP e0 25 [.agg row] [] (Zb2 row):=by
 obtain ⟨r0,r1,rfl,g0,g1⟩:=ZfU hok;simp only [bulkRow,ZbG] at hb;refine gIP (ts:=[.cell 2 39]) [] 15 Tryz.func25 ?_;refine fB @e0P ?_;have F:=@e0P;refine gCP [] [1000] (Zok g0 om) ?_;clear F;rintro r pm ⟨u0,E0,rfl,k0,rfl⟩;simp only [setA,retA,zipM,Taf,Tah];refine fR @k0 ?_;refine fB @e0P ?_;have F:=@e0P;refine gCP [] [1001] (Ztb g1 om) ?_;clear F;rintro r pm ⟨u1,E1,rfl,k1,rfl⟩;simp only [setA,retA,zipM,Taf,Tah]
 refine fR @k1 ?_;refine fG (ai @k0 @k1) ?_;obtain ⟨E,hre⟩:∃ E,Zbe [.set E0 (fun w=>Own w (.sl r0) E0 u0),.set E1 (fun w=>Own w (.sl r1) E1 u1)] [.set E (fun w=>Zaf w [.sl r0,.sl r1] E [u0,u1])]:=⟨_,ZfO [.sl E0 r0 u0,.sl E1 r1 u1]⟩;refine pE [1000,1001] [1000] hre ?_;have hm:=Zb2.mk (row:=[.sl r0,.sl r1]) (us:=[u0,u1]) (E:=E) rfl (by simp only [Zah,Tbv,List.map_nil,List.all_cons,List.all_nil,Bool.and_true,Tar];exact ⟨k0,k1⟩)
 exact (have F:=e0P;gTP (R:=Zb2 [.sl r0,.sl r1]) [1000] hm)
theorem ZnE (hok:Zan (sigF) row) (h0:0<=left) (h1:left<=1048576):Con e0 4 [.agg row,.one (.lit (.int .i64 left))] [.one (.lit (.int .i64 (sub left (bulkRow row))))]:=by
 obtain ⟨r0,r1,r2,rfl,g0,g1,g2⟩:=Zdy hok;rw [show bulkRow [.sl r0,.sl r1,.sl r2]=bulkRow [.sl r0,.sl r1]+(r2.length+bulkRows r2) by simp only [bulkRow,ZbG];omega];refine gI 66583 Tryz.func4 ?_;refine fB @e0P ?_;refine fC @e0P (Ztc (ZfV g0 g1) (left:=left) om om) ?_;refine fR @e0P ?_;by_cases q:left < ((bulkRow [.sl r0,.sl r1]:Nat):Int)
 ·rw [Zbf (b:=bulkRow [.sl r0,.sl r1]) q]
  try rw [Zbf om]
  have q':=lT (-1) 0;exact fT @q'
 rw [ZbR (b:=bulkRow [.sl r0,.sl r1]) om];have q':(left - ((bulkRow [.sl r0,.sl r1]:Nat):Int) < 0)=False:=eq_false om;refine fG @q' ?_;obtain ⟨L0,e0⟩:∃ x,x=left - ((bulkRow [.sl r0,.sl r1]:Nat):Int):=⟨_,rfl⟩;rw [<- e0];clear q';refine fB @e0P ?_;refine fC @e0P (ZAZ g2 (left:=L0) om om) ?_;refine fR @e0P ?_;by_cases q:L0 < (((r2.length+bulkRows r2):Nat):Int)
 ·rw [Zbf (b:=(r2.length+bulkRows r2)) q]
  try rw [Zbf om]
  have q':=lT (-1) 0;exact fT @q'
 rw [ZbR (b:=(r2.length+bulkRows r2)) om];have q':(L0 - (((r2.length+bulkRows r2):Nat):Int) < 0)=False:=eq_false om;refine fG @q' ?_;obtain ⟨L1,e1⟩:∃ x,x=L0 - (((r2.length+bulkRows r2):Nat):Int):=⟨_,rfl⟩;rw [<- e1];clear q'
 try rw [ZbR om,show left - ((bulkRow [.sl r0,.sl r1]+(r2.length+bulkRows r2):Nat):Int)=L1 by omega]
 exact fT @e0P
theorem ZnF (hok:Zan (sigF) row):Con e0 11 [.agg row,.agg row] [.one (.lit (.bool true))]:=by
 obtain ⟨r0,r1,r2,rfl,g0,g1,g2⟩:=Zdy hok;refine gI 66591 Tryz.func11 ?_;refine fB (@beq_self_eq_true.{0}) ?_;refine fC @e0P (Ztd (ZfV g0 g1)) ?_;refine fR @e0P ?_;refine fB (@beq_self_eq_true.{0}) ?_;refine fC @e0P (ZA0 g2) ?_;refine fR @e0P ?_;exact fT (@beq_self_eq_true.{0})
theorem Zhu (hok:Zan (sigF) row) (hb:bulkRow row<=1048576):ConP e0 7 [.agg row] [] (Zb2 row):=by
 obtain ⟨r0,r1,r2,rfl,g0,g1,g2⟩:=Zdy hok;simp only [bulkRow,ZbG] at hb;refine gIP (ts:=[.cell 2 42]) [] 15 Tryz.func7 ?_;refine fB @e0P ?_;have F:=@e0P;refine gCP [] [1000] (Zr9 (ZfV g0 g1) (by simp only [bulkRow,ZbG];omega)) ?_;clear F;rintro r pm ⟨us,E0,rfl,hu,hc,rfl⟩;obtain ⟨u0,u1,rfl⟩:=len2 hu;have hc:Zas (.lit u0)=true∧Zas (.lit u1)=true:=by simpa [Zah,Tar,and_assoc] using hc
 obtain ⟨k0,k1⟩:=hc;have lr0:Zah [u0,u1]=[.lit u0,.lit u1]:=rfl;rw [lr0];simp only [setA,retA,zipM,Taf,Tah];refine fR (ai @k0 @k1) ?_;refine fB @e0P ?_;have F:=@e0P;refine gCP [] [1001] (ZwD g2 om) ?_;clear F;rintro r pm ⟨u2,E2,rfl,k2,rfl⟩;simp only [setA,retA,zipM,Taf,Tah];refine fR @k2 ?_;refine fG (aj3 @k2 @k0 @k1) ?_;obtain ⟨E,hre⟩:∃ E,Zbe [.set E0 (fun w=>Zaf w [.sl r0,.sl r1] E0 [u0,u1]),.set E2 (fun w=>Own w (.sl r2) E2 u2)] [.set E (fun w=>Zaf w [.sl r0,.sl r1,.sl r2] E [u0,u1,u2])]:=⟨_,ZfO [.st E0 [.sl r0,.sl r1] [u0,u1],.sl E2 r2 u2]⟩
 refine pE [1000,1001] [1000] hre ?_;have hm:=Zb2.mk (row:=[.sl r0,.sl r1,.sl r2]) (us:=[u0,u1,u2]) (E:=E) rfl (by simp only [Zah,Tbv,List.map_nil,List.all_cons,List.all_nil,Bool.and_true,Tar];exact ⟨k0,k1,k2⟩);exact (have F:=e0P;gTP (R:=Zb2 [.sl r0,.sl r1,.sl r2]) [1000] hm)
theorem ZnG (hok:Zan (sigF) row) (hb:bulkRow row<=1048576):Con e0 7 [.agg row] [.agg row]:=ZrZ (Zhu hok hb)
theorem ZpI (hok:Zan (Zae .binding) row):Con e0 89 [.agg row,.agg row] [.one (.lit (.bool true))]:=by
 obtain ⟨i0,t1,i2,r3,i4,t5,i6,r7,rfl,g0,g1,g2,g3,g4,g5,g6,g7⟩:=Zgr hok;refine gI 66591 Tryz.func89 ?_;refine fB (@beq_self_eq_true.{0}) ?_;refine fC @e0P (ZgK (ZiH g0 g1 g2 g3)) ?_;refine fR @e0P ?_;refine fB (@beq_self_eq_true.{0}) ?_;refine fC @e0P (ZgK (ZiH g4 g5 g6 g7)) ?_;refine fR @e0P ?_;exact fT (@beq_self_eq_true.{0})
theorem Zol (hok:Zam (Zae .binding) rows):Con e0 39 [.one (.sl rows),.one (.sl rows)] [.one (.lit (.bool true))]:=by
 refine ZcZ (by kernel_rfl) fun hm=>?_;unfold maxLen at hm;have hrb:ZaC 8 rows=true:=Zbl.2 hok.rowsLen;refine gI 67126323 Tryz.func39 ?_;refine fG (@beq_self_eq_true.{0}) ?_;have F:=@e0P;refine gL (ι:=Nat) [4,5,14,26] [] (fun x=>[(5,.d (.one (.lit (.int .i64 (x:Int)))))]) (fun x=>[]) (fun x=>x<=rows.length) (fun x=>rows.length - x) (0) (Taj _) (fun x hx=>?_);clear F;by_cases hlt:x < rows.length
 ·obtain ⟨r,hr⟩:∃ r,rows[x]?=some r:=⟨_,Taa hlt⟩;have hq:=hok.get hr;obtain ⟨ln,tk,dr⟩:=hq.take (n:=8) rfl;have okc:=hq.cells;have q1:=lT x rows.length;have wi:=Zau (k:=x) om;have fe:=aj10 hr hlt Zap hrb q1 okc ln tk dr (@Zaz C);refine fB @fe ?_;refine fC @fe (ZpI hq) ?_;refine fR @fe ?_;have F:=@wi;refine gG ?_;exact ⟨x+1,hlt,gw,gw,om⟩
 ·obtain rfl:x=rows.length:=by omega
  have q1:=lF rows.length rows.length;exact fT @q1
theorem ZnH (hok:Zam (Zae .bindings) rows):Con e0 10 [.one (.sl rows),.one (.sl rows)] [.one (.lit (.bool true))]:=by
 refine ZcZ (by kernel_rfl) fun hm=>?_;unfold maxLen at hm;have hrb:ZaC 1 rows=true:=Zbl.2 hok.rowsLen;refine gI 67126323 Tryz.func10 ?_;refine fG (@beq_self_eq_true.{0}) ?_;have F:=@e0P;refine gL (ι:=Nat) [4,5,14,26] [] (fun x=>[(5,.d (.one (.lit (.int .i64 (x:Int)))))]) (fun x=>[]) (fun x=>x<=rows.length) (fun x=>rows.length - x) (0) (Taj _) (fun x hx=>?_);clear F;by_cases hlt:x < rows.length
 ·obtain ⟨r,hr⟩:∃ r,rows[x]?=some r:=⟨_,Taa hlt⟩;obtain ⟨r0,rfl,g0⟩:=ZfP (hok.get hr);have q1:=lT x rows.length;have wi:=Zau (k:=x) om;have fe:=aj5 hr hlt Zap hrb q1;refine fB @fe ?_;refine fC @fe (Zol g0) ?_;refine fR @fe ?_;have F:=@wi;refine gG ?_;exact ⟨x+1,hlt,gw,gw,om⟩
 ·obtain rfl:x=rows.length:=by omega
  have q1:=lF rows.length rows.length;exact fT @q1
end Go.Proofs.YtkigoajepohkaaaGreatDoor
