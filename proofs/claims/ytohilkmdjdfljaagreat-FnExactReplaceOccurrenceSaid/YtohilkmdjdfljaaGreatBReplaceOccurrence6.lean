/-
  FnExactReplaceOccurrence returns true for every signature, term, occurrence and term, and turns nothing: proved without conditions.
-/
import Derived.Test.YtohilkmdjdfljaaGreatBReplaceOccurrence0
import Derived.Test.YtohilkmdjdfljaaGreatBReplaceOccurrence1
import Derived.Test.YtohilkmdjdfljaaGreatBReplaceOccurrence2
import Derived.Test.YtohilkmdjdfljaaGreatBReplaceOccurrence3
import Derived.Test.YtohilkmdjdfljaaGreatBReplaceOccurrence4
import Derived.Test.YtohilkmdjdfljaaGreatBReplaceOccurrence5
set_option linter.unusedSimpArgs false
set_option linter.unusedVariables false
namespace Go.Proofs.YtohilkmdjdfljaaGreat
open Go.RowKit
set_option maxHeartbeats 40000000 in
set_option maxRecDepth 100000 in
theorem con_lawReplaceOccurrence {row0:List C} (hok0:okRow (sigF) row0) {row1:List C} (hok1:okRow (fieldsOf .term) row1) {row2:List C} (hok2:okRow (fieldsOf .occ) row2) {row3:List C} (hok3:okRow (fieldsOf .term) row3) {wr:List C} (hokw:okRow (fieldsOf .term) wr) {R1:Bool} (hBw0:bulkRow row0<=1048576->bulkRow row1<=1048576->bulkRow row2<=1048576->bulkRow row3<=1048576->(bulkRow row0)+(bulkRow row1)+(bulkRow row2)+(bulkRow row3)<=1048576->bulkRow wr<=1048576) (hsp0:bulkRow row0<=1048576->bulkRow row1<=1048576->bulkRow row2<=1048576->bulkRow row3<=1048576->(bulkRow row0)+(bulkRow row1)+(bulkRow row2)+(bulkRow row3)<=1048576->Con e0 21 [.agg row0,.agg row1,.agg row2,.agg row3] [.agg wr,.one (.lit (.bool R1))]) (him0:bulkRow row0<=1048576->bulkRow row1<=1048576->bulkRow row2<=1048576->bulkRow row3<=1048576->(bulkRow row0)+(bulkRow row1)+(bulkRow row2)+(bulkRow row3)<=1048576->ConP e0 22 [.agg row0,.agg row1,.agg row2,.agg row3] [] (RTreeF wr R1)):Con e0 4 [.agg row0,.agg row1,.agg row2,.agg row3] [.one (.lit (.bool true))]:=by
 have okc0:=hok0.cells
 obtain ⟨len0,tk0,dr0⟩:=hok0.take (n:=3) rfl
 have okc1:=hok1.cells
 obtain ⟨len1,tk1,dr1⟩:=hok1.take (n:=4) rfl
 have okc2:=hok2.cells
 obtain ⟨len2,tk2,dr2⟩:=hok2.take (n:=4) rfl
 have okc3:=hok3.cells
 obtain ⟨len3,tk3,dr3⟩:=hok3.take (n:=4) rfl
 have okcw:=hokw.cells
 obtain ⟨lenw,tkw,drw⟩:=hokw.take (n:=4) rfl
 refine gI 26398373373311362445256025941668613546879882362879 Tryz.func4 ?_
 (have F:=ai @okc0 (ai @len0 (ai @tk0 (ai @dr0 (ai @okc1 (ai @len1 (ai @tk1 (ai @dr1 (ai @okc2 (ai @len2 (ai @tk2 (ai @dr2 (ai @okc3 (ai @len3 (ai @tk3 (ai @dr3 (ai @drop0 (ai @okcw (ai @lenw (ai @tkw @drw)))))))))))))))))));refine gG ?_;clear F)
 have hL0_0:(0:Int)<=1048576:=by omega
 have hL0_1:(1048576:Int)<=1048576:=by omega
 refine gB ?_
 (have F:=ai @okc0 (ai @len0 (ai @tk0 (ai @dr0 (ai @okc1 (ai @len1 (ai @tk1 (ai @dr1 (ai @okc2 (ai @len2 (ai @tk2 (ai @dr2 (ai @okc3 (ai @len3 (ai @tk3 (ai @dr3 (ai @drop0 (ai @okcw (ai @lenw (ai @tkw @drw)))))))))))))))))));refine gC (con_szSignature hok0 hL0_0 hL0_1) ?_;clear F)
 (have F:=ai @okc0 (ai @len0 (ai @tk0 (ai @dr0 (ai @okc1 (ai @len1 (ai @tk1 (ai @dr1 (ai @okc2 (ai @len2 (ai @tk2 (ai @dr2 (ai @okc3 (ai @len3 (ai @tk3 (ai @dr3 (ai @drop0 (ai @okcw (ai @lenw (ai @tkw @drw)))))))))))))))))));refine gR ?_;clear F)
 by_cases hb0:((bulkRow row0:Nat):Int)<=1048576
 rotate_left
 ·have n1:sub 1048576 (bulkRow row0:Nat)=-1:=sub_neg (by omega)
  have n2:(-1:Int) < 0:=by omega
  (have F:=ai @n1 @n2;refine gG ?_;exact gT)
 have nq:sub 1048576 (bulkRow row0:Nat)=1048576 - ((bulkRow row0:Nat):Nat):=sub_pos (by omega)
 rw [nq]
 clear nq
 have hB0:bulkRow row0<=1048576:=by omega
 have hL1_0:(0:Int)<=1048576 - ((bulkRow row0:Nat):Nat):=by omega
 have hL1_1:(1048576:Int) - ((bulkRow row0:Nat):Nat)<=1048576:=by omega
 generalize hgl0:(1048576:Int) - ((bulkRow row0:Nat):Nat)=L1 at *
 have n2:¬ (L1 < 0):=by omega
 (have F:=ai @n2 (ai @okc0 (ai @len0 (ai @tk0 (ai @dr0 (ai @okc1 (ai @len1 (ai @tk1 (ai @dr1 (ai @okc2 (ai @len2 (ai @tk2 (ai @dr2 (ai @okc3 (ai @len3 (ai @tk3 (ai @dr3 (ai @drop0 (ai @okcw (ai @lenw (ai @tkw @drw))))))))))))))))))));refine gG ?_;clear F)
 clear n2 hb0
 refine gB ?_
 (have F:=ai @okc0 (ai @len0 (ai @tk0 (ai @dr0 (ai @okc1 (ai @len1 (ai @tk1 (ai @dr1 (ai @okc2 (ai @len2 (ai @tk2 (ai @dr2 (ai @okc3 (ai @len3 (ai @tk3 (ai @dr3 (ai @drop0 (ai @okcw (ai @lenw (ai @tkw @drw)))))))))))))))))));refine gC (con_szTerm hok1 hL1_0 hL1_1) ?_;clear F)
 (have F:=ai @okc0 (ai @len0 (ai @tk0 (ai @dr0 (ai @okc1 (ai @len1 (ai @tk1 (ai @dr1 (ai @okc2 (ai @len2 (ai @tk2 (ai @dr2 (ai @okc3 (ai @len3 (ai @tk3 (ai @dr3 (ai @drop0 (ai @okcw (ai @lenw (ai @tkw @drw)))))))))))))))))));refine gR ?_;clear F)
 by_cases hb1:((bulkRow row1:Nat):Int)<=L1
 rotate_left
 ·have n1:sub L1 (bulkRow row1:Nat)=-1:=sub_neg (by omega)
  have n2:(-1:Int) < 0:=by omega
  (have F:=ai @n1 @n2;refine gG ?_;exact gT)
 have nq:sub L1 (bulkRow row1:Nat)=L1 - ((bulkRow row1:Nat):Nat):=sub_pos (by omega)
 rw [nq]
 clear nq
 have hB1:bulkRow row1<=1048576:=by omega
 have hL2_0:(0:Int)<=L1 - ((bulkRow row1:Nat):Nat):=by omega
 have hL2_1:(L1:Int) - ((bulkRow row1:Nat):Nat)<=1048576:=by omega
 generalize hgl1:(L1:Int) - ((bulkRow row1:Nat):Nat)=L2 at *
 have n2:¬ (L2 < 0):=by omega
 (have F:=ai @n2 (ai @okc0 (ai @len0 (ai @tk0 (ai @dr0 (ai @okc1 (ai @len1 (ai @tk1 (ai @dr1 (ai @okc2 (ai @len2 (ai @tk2 (ai @dr2 (ai @okc3 (ai @len3 (ai @tk3 (ai @dr3 (ai @drop0 (ai @okcw (ai @lenw (ai @tkw @drw))))))))))))))))))));refine gG ?_;clear F)
 clear n2 hb1
 refine gB ?_
 (have F:=ai @okc0 (ai @len0 (ai @tk0 (ai @dr0 (ai @okc1 (ai @len1 (ai @tk1 (ai @dr1 (ai @okc2 (ai @len2 (ai @tk2 (ai @dr2 (ai @okc3 (ai @len3 (ai @tk3 (ai @dr3 (ai @drop0 (ai @okcw (ai @lenw (ai @tkw @drw)))))))))))))))))));refine gC (con_szOccurrence hok2 hL2_0 hL2_1) ?_;clear F)
 (have F:=ai @okc0 (ai @len0 (ai @tk0 (ai @dr0 (ai @okc1 (ai @len1 (ai @tk1 (ai @dr1 (ai @okc2 (ai @len2 (ai @tk2 (ai @dr2 (ai @okc3 (ai @len3 (ai @tk3 (ai @dr3 (ai @drop0 (ai @okcw (ai @lenw (ai @tkw @drw)))))))))))))))))));refine gR ?_;clear F)
 by_cases hb2:((bulkRow row2:Nat):Int)<=L2
 rotate_left
 ·have n1:sub L2 (bulkRow row2:Nat)=-1:=sub_neg (by omega)
  have n2:(-1:Int) < 0:=by omega
  (have F:=ai @n1 @n2;refine gG ?_;exact gT)
 have nq:sub L2 (bulkRow row2:Nat)=L2 - ((bulkRow row2:Nat):Nat):=sub_pos (by omega)
 rw [nq]
 clear nq
 have hB2:bulkRow row2<=1048576:=by omega
 have hL3_0:(0:Int)<=L2 - ((bulkRow row2:Nat):Nat):=by omega
 have hL3_1:(L2:Int) - ((bulkRow row2:Nat):Nat)<=1048576:=by omega
 generalize hgl2:(L2:Int) - ((bulkRow row2:Nat):Nat)=L3 at *
 have n2:¬ (L3 < 0):=by omega
 (have F:=ai @n2 (ai @okc0 (ai @len0 (ai @tk0 (ai @dr0 (ai @okc1 (ai @len1 (ai @tk1 (ai @dr1 (ai @okc2 (ai @len2 (ai @tk2 (ai @dr2 (ai @okc3 (ai @len3 (ai @tk3 (ai @dr3 (ai @drop0 (ai @okcw (ai @lenw (ai @tkw @drw))))))))))))))))))));refine gG ?_;clear F)
 clear n2 hb2
 refine gB ?_
 (have F:=ai @okc0 (ai @len0 (ai @tk0 (ai @dr0 (ai @okc1 (ai @len1 (ai @tk1 (ai @dr1 (ai @okc2 (ai @len2 (ai @tk2 (ai @dr2 (ai @okc3 (ai @len3 (ai @tk3 (ai @dr3 (ai @drop0 (ai @okcw (ai @lenw (ai @tkw @drw)))))))))))))))))));refine gC (con_szTerm hok3 hL3_0 hL3_1) ?_;clear F)
 (have F:=ai @okc0 (ai @len0 (ai @tk0 (ai @dr0 (ai @okc1 (ai @len1 (ai @tk1 (ai @dr1 (ai @okc2 (ai @len2 (ai @tk2 (ai @dr2 (ai @okc3 (ai @len3 (ai @tk3 (ai @dr3 (ai @drop0 (ai @okcw (ai @lenw (ai @tkw @drw)))))))))))))))))));refine gR ?_;clear F)
 by_cases hb3:((bulkRow row3:Nat):Int)<=L3
 rotate_left
 ·have n1:sub L3 (bulkRow row3:Nat)=-1:=sub_neg (by omega)
  have n2:(-1:Int) < 0:=by omega
  (have F:=ai @n1 @n2;refine gG ?_;exact gT)
 have nq:sub L3 (bulkRow row3:Nat)=L3 - ((bulkRow row3:Nat):Nat):=sub_pos (by omega)
 rw [nq]
 clear nq
 have hB3:bulkRow row3<=1048576:=by omega
 have hL4_0:(0:Int)<=L3 - ((bulkRow row3:Nat):Nat):=by omega
 have hL4_1:(L3:Int) - ((bulkRow row3:Nat):Nat)<=1048576:=by omega
 generalize hgl3:(L3:Int) - ((bulkRow row3:Nat):Nat)=L4 at *
 have n2:¬ (L4 < 0):=by omega
 (have F:=ai @n2 (ai @okc0 (ai @len0 (ai @tk0 (ai @dr0 (ai @okc1 (ai @len1 (ai @tk1 (ai @dr1 (ai @okc2 (ai @len2 (ai @tk2 (ai @dr2 (ai @okc3 (ai @len3 (ai @tk3 (ai @dr3 (ai @drop0 (ai @okcw (ai @lenw (ai @tkw @drw))))))))))))))))))));refine gG ?_;clear F)
 clear n2 hb3
 have hBt:(bulkRow row0)+(bulkRow row1)+(bulkRow row2)+(bulkRow row3)<=1048576:=by omega
 have hsp:=hsp0 hB0 hB1 hB2 hB3 hBt
 have him:=him0 hB0 hB1 hB2 hB3 hBt
 have hBw:=hBw0 hB0 hB1 hB2 hB3 hBt
 have hcw:cntTop wr<=16 * bulkRow wr:=cntTop_ok _ _ hokw
 have cE:=con_eqTerm hokw
 have cT0:=con_toSignature hok0 hB0
 have cP0:=conP_toSignature hok0 hB0
 have cQ0:=con_eqSignature hok0
 have hc0:cntTop row0<=16 * bulkRow row0:=cntTop_ok _ _ hok0
 have cT1:=con_toTerm hok1 hB1
 have cP1:=conP_toTerm hok1 hB1
 have cQ1:=con_eqTerm hok1
 have hc1:cntTop row1<=16 * bulkRow row1:=cntTop_ok _ _ hok1
 have cT2:=con_toOccurrence hok2 hB2
 have cP2:=conP_toOccurrence hok2 hB2
 have cQ2:=con_eqOccurrence hok2
 have hc2:cntTop row2<=16 * bulkRow row2:=cntTop_ok _ _ hok2
 have cT3:=con_toTerm hok3 hB3
 have cP3:=conP_toTerm hok3 hB3
 have cQ3:=con_eqTerm hok3
 have hc3:cntTop row3<=16 * bulkRow row3:=cntTop_ok _ _ hok3
 refine gLt 12 11 13 ?_
 (have F:=ai @okc0 (ai @len0 (ai @tk0 (ai @dr0 (ai @okc1 (ai @len1 (ai @tk1 (ai @dr1 (ai @okc2 (ai @len2 (ai @tk2 (ai @dr2 (ai @okc3 (ai @len3 (ai @tk3 (ai @dr3 (ai @drop0 (ai @okcw (ai @lenw (ai @tkw @drw)))))))))))))))))));refine gC (cT0) ?_;clear F)
 (have F:=ai @okc0 (ai @len0 (ai @tk0 (ai @dr0 (ai @okc1 (ai @len1 (ai @tk1 (ai @dr1 (ai @okc2 (ai @len2 (ai @tk2 (ai @dr2 (ai @okc3 (ai @len3 (ai @tk3 (ai @dr3 (ai @drop0 (ai @okcw (ai @lenw (ai @tkw @drw)))))))))))))))))));refine gC (cT1) ?_;clear F)
 (have F:=ai @okc0 (ai @len0 (ai @tk0 (ai @dr0 (ai @okc1 (ai @len1 (ai @tk1 (ai @dr1 (ai @okc2 (ai @len2 (ai @tk2 (ai @dr2 (ai @okc3 (ai @len3 (ai @tk3 (ai @dr3 (ai @drop0 (ai @okcw (ai @lenw (ai @tkw @drw)))))))))))))))))));refine gC (cT2) ?_;clear F)
 (have F:=ai @okc0 (ai @len0 (ai @tk0 (ai @dr0 (ai @okc1 (ai @len1 (ai @tk1 (ai @dr1 (ai @okc2 (ai @len2 (ai @tk2 (ai @dr2 (ai @okc3 (ai @len3 (ai @tk3 (ai @dr3 (ai @drop0 (ai @okcw (ai @lenw (ai @tkw @drw)))))))))))))))))));refine gC (cT3) ?_;clear F)
 (have F:=ai @okc0 (ai @len0 (ai @tk0 (ai @dr0 (ai @okc1 (ai @len1 (ai @tk1 (ai @dr1 (ai @okc2 (ai @len2 (ai @tk2 (ai @dr2 (ai @okc3 (ai @len3 (ai @tk3 (ai @dr3 (ai @drop0 (ai @okcw (ai @lenw (ai @tkw @drw)))))))))))))))))));refine gC (hsp) ?_;clear F)
 (have F:=ai @okc0 (ai @len0 (ai @tk0 (ai @dr0 (ai @okc1 (ai @len1 (ai @tk1 (ai @dr1 (ai @okc2 (ai @len2 (ai @tk2 (ai @dr2 (ai @okc3 (ai @len3 (ai @tk3 (ai @dr3 (ai @drop0 (ai @okcw (ai @lenw (ai @tkw @drw)))))))))))))))))));refine gR ?_;clear F)
 (have F:=ai @okc0 (ai @len0 (ai @tk0 (ai @dr0 (ai @okc1 (ai @len1 (ai @tk1 (ai @dr1 (ai @okc2 (ai @len2 (ai @tk2 (ai @dr2 (ai @okc3 (ai @len3 (ai @tk3 (ai @dr3 (ai @drop0 (ai @okcw (ai @lenw (ai @tkw @drw)))))))))))))))))));refine gG ?_;clear F)
 refine gB ?_
 (have F:=ai @okc0 (ai @len0 (ai @tk0 (ai @dr0 (ai @okc1 (ai @len1 (ai @tk1 (ai @dr1 (ai @okc2 (ai @len2 (ai @tk2 (ai @dr2 (ai @okc3 (ai @len3 (ai @tk3 (ai @dr3 (ai @drop0 (ai @okcw (ai @lenw (ai @tkw @drw)))))))))))))))))));refine gCP [] [1000] (cP0) ?_;clear F)
 rintro r pm ⟨us0,E0,rfl,hu0,cu0,rfl⟩
 rw [len0] at hu0
 obtain ⟨lu0,tu0,du0⟩:=lits_len hu0
 simp only [setA,retA,zipM,List.cons_append,List.nil_append]
 (have F:=ai @okc0 (ai @len0 (ai @tk0 (ai @dr0 (ai @okc1 (ai @len1 (ai @tk1 (ai @dr1 (ai @okc2 (ai @len2 (ai @tk2 (ai @dr2 (ai @okc3 (ai @len3 (ai @tk3 (ai @dr3 (ai @drop0 (ai @okcw (ai @lenw (ai @tkw (ai @drw (ai @lu0 (ai @tu0 (ai @du0 @cu0)))))))))))))))))))))));refine gR ?_;clear F)
 (have F:=ai @okc0 (ai @len0 (ai @tk0 (ai @dr0 (ai @okc1 (ai @len1 (ai @tk1 (ai @dr1 (ai @okc2 (ai @len2 (ai @tk2 (ai @dr2 (ai @okc3 (ai @len3 (ai @tk3 (ai @dr3 (ai @drop0 (ai @okcw (ai @lenw (ai @tkw (ai @drw (ai @lu0 (ai @tu0 (ai @du0 @cu0)))))))))))))))))))))));refine gG ?_;clear F)
 refine gB ?_
 (have F:=ai @okc0 (ai @len0 (ai @tk0 (ai @dr0 (ai @okc1 (ai @len1 (ai @tk1 (ai @dr1 (ai @okc2 (ai @len2 (ai @tk2 (ai @dr2 (ai @okc3 (ai @len3 (ai @tk3 (ai @dr3 (ai @drop0 (ai @okcw (ai @lenw (ai @tkw (ai @drw (ai @lu0 (ai @tu0 (ai @du0 @cu0)))))))))))))))))))))));refine gCP [] [1001] (cP1) ?_;clear F)
 rintro r pm ⟨us1,E1,rfl,hu1,cu1,rfl⟩
 rw [len1] at hu1
 obtain ⟨lu1,tu1,du1⟩:=lits_len hu1
 simp only [setA,retA,zipM,List.cons_append,List.nil_append]
 (have F:=ai @okc0 (ai @len0 (ai @tk0 (ai @dr0 (ai @okc1 (ai @len1 (ai @tk1 (ai @dr1 (ai @okc2 (ai @len2 (ai @tk2 (ai @dr2 (ai @okc3 (ai @len3 (ai @tk3 (ai @dr3 (ai @drop0 (ai @okcw (ai @lenw (ai @tkw (ai @drw (ai @lu0 (ai @tu0 (ai @du0 (ai @cu0 (ai @lu1 (ai @tu1 (ai @du1 @cu1)))))))))))))))))))))))))));refine gR ?_;clear F)
 (have F:=ai @okc0 (ai @len0 (ai @tk0 (ai @dr0 (ai @okc1 (ai @len1 (ai @tk1 (ai @dr1 (ai @okc2 (ai @len2 (ai @tk2 (ai @dr2 (ai @okc3 (ai @len3 (ai @tk3 (ai @dr3 (ai @drop0 (ai @okcw (ai @lenw (ai @tkw (ai @drw (ai @lu0 (ai @tu0 (ai @du0 (ai @cu0 (ai @lu1 (ai @tu1 (ai @du1 @cu1)))))))))))))))))))))))))));refine gG ?_;clear F)
 refine gB ?_
 (have F:=ai @okc0 (ai @len0 (ai @tk0 (ai @dr0 (ai @okc1 (ai @len1 (ai @tk1 (ai @dr1 (ai @okc2 (ai @len2 (ai @tk2 (ai @dr2 (ai @okc3 (ai @len3 (ai @tk3 (ai @dr3 (ai @drop0 (ai @okcw (ai @lenw (ai @tkw (ai @drw (ai @lu0 (ai @tu0 (ai @du0 (ai @cu0 (ai @lu1 (ai @tu1 (ai @du1 @cu1)))))))))))))))))))))))))));refine gCP [] [1002] (cP2) ?_;clear F)
 rintro r pm ⟨us2,E2,rfl,hu2,cu2,rfl⟩
 rw [len2] at hu2
 obtain ⟨lu2,tu2,du2⟩:=lits_len hu2
 simp only [setA,retA,zipM,List.cons_append,List.nil_append]
 (have F:=ai @okc0 (ai @len0 (ai @tk0 (ai @dr0 (ai @okc1 (ai @len1 (ai @tk1 (ai @dr1 (ai @okc2 (ai @len2 (ai @tk2 (ai @dr2 (ai @okc3 (ai @len3 (ai @tk3 (ai @dr3 (ai @drop0 (ai @okcw (ai @lenw (ai @tkw (ai @drw (ai @lu0 (ai @tu0 (ai @du0 (ai @cu0 (ai @lu1 (ai @tu1 (ai @du1 (ai @cu1 (ai @lu2 (ai @tu2 (ai @du2 @cu2)))))))))))))))))))))))))))))));refine gR ?_;clear F)
 (have F:=ai @okc0 (ai @len0 (ai @tk0 (ai @dr0 (ai @okc1 (ai @len1 (ai @tk1 (ai @dr1 (ai @okc2 (ai @len2 (ai @tk2 (ai @dr2 (ai @okc3 (ai @len3 (ai @tk3 (ai @dr3 (ai @drop0 (ai @okcw (ai @lenw (ai @tkw (ai @drw (ai @lu0 (ai @tu0 (ai @du0 (ai @cu0 (ai @lu1 (ai @tu1 (ai @du1 (ai @cu1 (ai @lu2 (ai @tu2 (ai @du2 @cu2)))))))))))))))))))))))))))))));refine gG ?_;clear F)
 refine gB ?_
 (have F:=ai @okc0 (ai @len0 (ai @tk0 (ai @dr0 (ai @okc1 (ai @len1 (ai @tk1 (ai @dr1 (ai @okc2 (ai @len2 (ai @tk2 (ai @dr2 (ai @okc3 (ai @len3 (ai @tk3 (ai @dr3 (ai @drop0 (ai @okcw (ai @lenw (ai @tkw (ai @drw (ai @lu0 (ai @tu0 (ai @du0 (ai @cu0 (ai @lu1 (ai @tu1 (ai @du1 (ai @cu1 (ai @lu2 (ai @tu2 (ai @du2 @cu2)))))))))))))))))))))))))))))));refine gCP [] [1003] (cP3) ?_;clear F)
 rintro r pm ⟨us3,E3,rfl,hu3,cu3,rfl⟩
 rw [len3] at hu3
 obtain ⟨lu3,tu3,du3⟩:=lits_len hu3
 simp only [setA,retA,zipM,List.cons_append,List.nil_append]
 (have F:=ai @okc0 (ai @len0 (ai @tk0 (ai @dr0 (ai @okc1 (ai @len1 (ai @tk1 (ai @dr1 (ai @okc2 (ai @len2 (ai @tk2 (ai @dr2 (ai @okc3 (ai @len3 (ai @tk3 (ai @dr3 (ai @drop0 (ai @okcw (ai @lenw (ai @tkw (ai @drw (ai @lu0 (ai @tu0 (ai @du0 (ai @cu0 (ai @lu1 (ai @tu1 (ai @du1 (ai @cu1 (ai @lu2 (ai @tu2 (ai @du2 (ai @cu2 (ai @lu3 (ai @tu3 (ai @du3 @cu3)))))))))))))))))))))))))))))))))));refine gR ?_;clear F)
 (have F:=ai @okc0 (ai @len0 (ai @tk0 (ai @dr0 (ai @okc1 (ai @len1 (ai @tk1 (ai @dr1 (ai @okc2 (ai @len2 (ai @tk2 (ai @dr2 (ai @okc3 (ai @len3 (ai @tk3 (ai @dr3 (ai @drop0 (ai @okcw (ai @lenw (ai @tkw (ai @drw (ai @lu0 (ai @tu0 (ai @du0 (ai @cu0 (ai @lu1 (ai @tu1 (ai @du1 (ai @cu1 (ai @lu2 (ai @tu2 (ai @du2 (ai @cu2 (ai @lu3 (ai @tu3 (ai @du3 @cu3)))))))))))))))))))))))))))))))))));refine gG ?_;clear F)
 refine gB ?_
 (have F:=ai @okc0 (ai @len0 (ai @tk0 (ai @dr0 (ai @okc1 (ai @len1 (ai @tk1 (ai @dr1 (ai @okc2 (ai @len2 (ai @tk2 (ai @dr2 (ai @okc3 (ai @len3 (ai @tk3 (ai @dr3 (ai @drop0 (ai @okcw (ai @lenw (ai @tkw (ai @drw (ai @lu0 (ai @tu0 (ai @du0 (ai @cu0 (ai @lu1 (ai @tu1 (ai @du1 (ai @cu1 (ai @lu2 (ai @tu2 (ai @du2 (ai @cu2 (ai @lu3 (ai @tu3 (ai @du3 @cu3)))))))))))))))))))))))))))))))))));refine gCP [1000,1001,1002,1003] [1100,1000,1001,1002,1003] (conP_rd (lits:=[.agg (litRow us0),.agg (litRow us1),.agg (litRow us2),.agg (litRow us3)]) [.set E0 (fun w=>OwnVals w row0 E0 us0),.set E1 (fun w=>OwnVals w row1 E1 us1),.set E2 (fun w=>OwnVals w row2 E2 us2),.set E3 (fun w=>OwnVals w row3 E3 us3)] him ⟨.tree List.mem_cons_self,.tree (List.mem_cons_of_mem _ List.mem_cons_self),.tree (List.mem_cons_of_mem _ (List.mem_cons_of_mem _ List.mem_cons_self)),.tree (List.mem_cons_of_mem _ (List.mem_cons_of_mem _ (List.mem_cons_of_mem _ List.mem_cons_self))),trivial⟩ rfl (fun _ _ h=>RTreeF.lits h)) ?_;clear F)
 rintro r pm ⟨q1,⟨usg,Eg,rfl,hug,cug,rfl⟩,rfl⟩
 rw [lenw] at hug
 obtain ⟨lug,tug,dug⟩:=lits_len hug
 simp only [setA,retA,zipM,List.cons_append,List.nil_append]
 (have F:=ai @okc0 (ai @len0 (ai @tk0 (ai @dr0 (ai @okc1 (ai @len1 (ai @tk1 (ai @dr1 (ai @okc2 (ai @len2 (ai @tk2 (ai @dr2 (ai @okc3 (ai @len3 (ai @tk3 (ai @dr3 (ai @drop0 (ai @okcw (ai @lenw (ai @tkw (ai @drw (ai @lu0 (ai @tu0 (ai @du0 (ai @cu0 (ai @lu1 (ai @tu1 (ai @du1 (ai @cu1 (ai @lu2 (ai @tu2 (ai @du2 (ai @cu2 (ai @lu3 (ai @tu3 (ai @du3 (ai @cu3 (ai @lug (ai @tug (ai @dug @cug)))))))))))))))))))))))))))))))))))))));refine gR ?_;clear F)
 (have F:=ai @okc0 (ai @len0 (ai @tk0 (ai @dr0 (ai @okc1 (ai @len1 (ai @tk1 (ai @dr1 (ai @okc2 (ai @len2 (ai @tk2 (ai @dr2 (ai @okc3 (ai @len3 (ai @tk3 (ai @dr3 (ai @drop0 (ai @okcw (ai @lenw (ai @tkw (ai @drw (ai @lu0 (ai @tu0 (ai @du0 (ai @cu0 (ai @lu1 (ai @tu1 (ai @du1 (ai @cu1 (ai @lu2 (ai @tu2 (ai @du2 (ai @cu2 (ai @lu3 (ai @tu3 (ai @du3 (ai @cu3 (ai @lug (ai @tug (ai @dug @cug)))))))))))))))))))))))))))))))))))))));refine gG ?_;clear F)
 refine gB ?_
 (have F:=ai @okc0 (ai @len0 (ai @tk0 (ai @dr0 (ai @okc1 (ai @len1 (ai @tk1 (ai @dr1 (ai @okc2 (ai @len2 (ai @tk2 (ai @dr2 (ai @okc3 (ai @len3 (ai @tk3 (ai @dr3 (ai @drop0 (ai @okcw (ai @lenw (ai @tkw (ai @drw (ai @lu0 (ai @tu0 (ai @du0 (ai @cu0 (ai @lu1 (ai @tu1 (ai @du1 (ai @cu1 (ai @lu2 (ai @tu2 (ai @du2 (ai @cu2 (ai @lu3 (ai @tu3 (ai @du3 (ai @cu3 (ai @lug (ai @tug (ai @dug @cug)))))))))))))))))))))))))))))))))))))));refine gCP [1100] [1100] (con_rd (lits:=[.agg (litRow usg),.agg wr]) [.set Eg (fun w=>OwnVals w wr Eg usg)] cE ⟨.tree List.mem_cons_self,.same,trivial⟩ rfl rfl) ?_;clear F)
 rintro r pm ⟨rfl,rfl⟩
 simp only [setA,retA,zipM,List.cons_append,List.nil_append]
 (have F:=ai @okc0 (ai @len0 (ai @tk0 (ai @dr0 (ai @okc1 (ai @len1 (ai @tk1 (ai @dr1 (ai @okc2 (ai @len2 (ai @tk2 (ai @dr2 (ai @okc3 (ai @len3 (ai @tk3 (ai @dr3 (ai @drop0 (ai @okcw (ai @lenw (ai @tkw (ai @drw (ai @lu0 (ai @tu0 (ai @du0 (ai @cu0 (ai @lu1 (ai @tu1 (ai @du1 (ai @cu1 (ai @lu2 (ai @tu2 (ai @du2 (ai @cu2 (ai @lu3 (ai @tu3 (ai @du3 (ai @cu3 (ai @lug (ai @tug (ai @dug (ai @cug @beq_self_eq_true.{0}))))))))))))))))))))))))))))))))))))))));refine gR ?_;clear F)
 (have F:=ai @okc0 (ai @len0 (ai @tk0 (ai @dr0 (ai @okc1 (ai @len1 (ai @tk1 (ai @dr1 (ai @okc2 (ai @len2 (ai @tk2 (ai @dr2 (ai @okc3 (ai @len3 (ai @tk3 (ai @dr3 (ai @drop0 (ai @okcw (ai @lenw (ai @tkw (ai @drw (ai @lu0 (ai @tu0 (ai @du0 (ai @cu0 (ai @lu1 (ai @tu1 (ai @du1 (ai @cu1 (ai @lu2 (ai @tu2 (ai @du2 (ai @cu2 (ai @lu3 (ai @tu3 (ai @du3 (ai @cu3 (ai @lug (ai @tug (ai @dug (ai @cug @beq_self_eq_true.{0}))))))))))))))))))))))))))))))))))))))));refine gG ?_;clear F)
 refine gB ?_
 (have F:=ai @okc0 (ai @len0 (ai @tk0 (ai @dr0 (ai @okc1 (ai @len1 (ai @tk1 (ai @dr1 (ai @okc2 (ai @len2 (ai @tk2 (ai @dr2 (ai @okc3 (ai @len3 (ai @tk3 (ai @dr3 (ai @drop0 (ai @okcw (ai @lenw (ai @tkw (ai @drw (ai @lu0 (ai @tu0 (ai @du0 (ai @cu0 (ai @lu1 (ai @tu1 (ai @du1 (ai @cu1 (ai @lu2 (ai @tu2 (ai @du2 (ai @cu2 (ai @lu3 (ai @tu3 (ai @du3 (ai @cu3 (ai @lug (ai @tug (ai @dug @cug)))))))))))))))))))))))))))))))))))))));refine gC (cT0) ?_;clear F)
 (have F:=ai @okc0 (ai @len0 (ai @tk0 (ai @dr0 (ai @okc1 (ai @len1 (ai @tk1 (ai @dr1 (ai @okc2 (ai @len2 (ai @tk2 (ai @dr2 (ai @okc3 (ai @len3 (ai @tk3 (ai @dr3 (ai @drop0 (ai @okcw (ai @lenw (ai @tkw (ai @drw (ai @lu0 (ai @tu0 (ai @du0 (ai @cu0 (ai @lu1 (ai @tu1 (ai @du1 (ai @cu1 (ai @lu2 (ai @tu2 (ai @du2 (ai @cu2 (ai @lu3 (ai @tu3 (ai @du3 (ai @cu3 (ai @lug (ai @tug (ai @dug @cug)))))))))))))))))))))))))))))))))))))));refine gCP [1000] [1000] (con_rd (lits:=[.agg (litRow us0),.agg row0]) [.set E0 (fun w=>OwnVals w row0 E0 us0)] cQ0 ⟨.tree List.mem_cons_self,.same,trivial⟩ rfl rfl) ?_;clear F)
 rintro r pm ⟨rfl,rfl⟩
 simp only [setA,retA,zipM,List.cons_append,List.nil_append]
 (have F:=ai @okc0 (ai @len0 (ai @tk0 (ai @dr0 (ai @okc1 (ai @len1 (ai @tk1 (ai @dr1 (ai @okc2 (ai @len2 (ai @tk2 (ai @dr2 (ai @okc3 (ai @len3 (ai @tk3 (ai @dr3 (ai @drop0 (ai @okcw (ai @lenw (ai @tkw (ai @drw (ai @lu0 (ai @tu0 (ai @du0 (ai @cu0 (ai @lu1 (ai @tu1 (ai @du1 (ai @cu1 (ai @lu2 (ai @tu2 (ai @du2 (ai @cu2 (ai @lu3 (ai @tu3 (ai @du3 (ai @cu3 (ai @lug (ai @tug (ai @dug @cug)))))))))))))))))))))))))))))))))))))));refine gR ?_;clear F)
 (have F:=ai @okc0 (ai @len0 (ai @tk0 (ai @dr0 (ai @okc1 (ai @len1 (ai @tk1 (ai @dr1 (ai @okc2 (ai @len2 (ai @tk2 (ai @dr2 (ai @okc3 (ai @len3 (ai @tk3 (ai @dr3 (ai @drop0 (ai @okcw (ai @lenw (ai @tkw (ai @drw (ai @lu0 (ai @tu0 (ai @du0 (ai @cu0 (ai @lu1 (ai @tu1 (ai @du1 (ai @cu1 (ai @lu2 (ai @tu2 (ai @du2 (ai @cu2 (ai @lu3 (ai @tu3 (ai @du3 (ai @cu3 (ai @lug (ai @tug (ai @dug @cug)))))))))))))))))))))))))))))))))))))));refine gG ?_;clear F)
 refine gB ?_
 (have F:=ai @okc0 (ai @len0 (ai @tk0 (ai @dr0 (ai @okc1 (ai @len1 (ai @tk1 (ai @dr1 (ai @okc2 (ai @len2 (ai @tk2 (ai @dr2 (ai @okc3 (ai @len3 (ai @tk3 (ai @dr3 (ai @drop0 (ai @okcw (ai @lenw (ai @tkw (ai @drw (ai @lu0 (ai @tu0 (ai @du0 (ai @cu0 (ai @lu1 (ai @tu1 (ai @du1 (ai @cu1 (ai @lu2 (ai @tu2 (ai @du2 (ai @cu2 (ai @lu3 (ai @tu3 (ai @du3 (ai @cu3 (ai @lug (ai @tug (ai @dug @cug)))))))))))))))))))))))))))))))))))))));refine gC (cT1) ?_;clear F)
 (have F:=ai @okc0 (ai @len0 (ai @tk0 (ai @dr0 (ai @okc1 (ai @len1 (ai @tk1 (ai @dr1 (ai @okc2 (ai @len2 (ai @tk2 (ai @dr2 (ai @okc3 (ai @len3 (ai @tk3 (ai @dr3 (ai @drop0 (ai @okcw (ai @lenw (ai @tkw (ai @drw (ai @lu0 (ai @tu0 (ai @du0 (ai @cu0 (ai @lu1 (ai @tu1 (ai @du1 (ai @cu1 (ai @lu2 (ai @tu2 (ai @du2 (ai @cu2 (ai @lu3 (ai @tu3 (ai @du3 (ai @cu3 (ai @lug (ai @tug (ai @dug @cug)))))))))))))))))))))))))))))))))))))));refine gCP [1001] [1001] (con_rd (lits:=[.agg (litRow us1),.agg row1]) [.set E1 (fun w=>OwnVals w row1 E1 us1)] cQ1 ⟨.tree List.mem_cons_self,.same,trivial⟩ rfl rfl) ?_;clear F)
 rintro r pm ⟨rfl,rfl⟩
 simp only [setA,retA,zipM,List.cons_append,List.nil_append]
 (have F:=ai @okc0 (ai @len0 (ai @tk0 (ai @dr0 (ai @okc1 (ai @len1 (ai @tk1 (ai @dr1 (ai @okc2 (ai @len2 (ai @tk2 (ai @dr2 (ai @okc3 (ai @len3 (ai @tk3 (ai @dr3 (ai @drop0 (ai @okcw (ai @lenw (ai @tkw (ai @drw (ai @lu0 (ai @tu0 (ai @du0 (ai @cu0 (ai @lu1 (ai @tu1 (ai @du1 (ai @cu1 (ai @lu2 (ai @tu2 (ai @du2 (ai @cu2 (ai @lu3 (ai @tu3 (ai @du3 (ai @cu3 (ai @lug (ai @tug (ai @dug @cug)))))))))))))))))))))))))))))))))))))));refine gR ?_;clear F)
 (have F:=ai @okc0 (ai @len0 (ai @tk0 (ai @dr0 (ai @okc1 (ai @len1 (ai @tk1 (ai @dr1 (ai @okc2 (ai @len2 (ai @tk2 (ai @dr2 (ai @okc3 (ai @len3 (ai @tk3 (ai @dr3 (ai @drop0 (ai @okcw (ai @lenw (ai @tkw (ai @drw (ai @lu0 (ai @tu0 (ai @du0 (ai @cu0 (ai @lu1 (ai @tu1 (ai @du1 (ai @cu1 (ai @lu2 (ai @tu2 (ai @du2 (ai @cu2 (ai @lu3 (ai @tu3 (ai @du3 (ai @cu3 (ai @lug (ai @tug (ai @dug @cug)))))))))))))))))))))))))))))))))))))));refine gG ?_;clear F)
 refine gB ?_
 (have F:=ai @okc0 (ai @len0 (ai @tk0 (ai @dr0 (ai @okc1 (ai @len1 (ai @tk1 (ai @dr1 (ai @okc2 (ai @len2 (ai @tk2 (ai @dr2 (ai @okc3 (ai @len3 (ai @tk3 (ai @dr3 (ai @drop0 (ai @okcw (ai @lenw (ai @tkw (ai @drw (ai @lu0 (ai @tu0 (ai @du0 (ai @cu0 (ai @lu1 (ai @tu1 (ai @du1 (ai @cu1 (ai @lu2 (ai @tu2 (ai @du2 (ai @cu2 (ai @lu3 (ai @tu3 (ai @du3 (ai @cu3 (ai @lug (ai @tug (ai @dug @cug)))))))))))))))))))))))))))))))))))))));refine gC (cT2) ?_;clear F)
 (have F:=ai @okc0 (ai @len0 (ai @tk0 (ai @dr0 (ai @okc1 (ai @len1 (ai @tk1 (ai @dr1 (ai @okc2 (ai @len2 (ai @tk2 (ai @dr2 (ai @okc3 (ai @len3 (ai @tk3 (ai @dr3 (ai @drop0 (ai @okcw (ai @lenw (ai @tkw (ai @drw (ai @lu0 (ai @tu0 (ai @du0 (ai @cu0 (ai @lu1 (ai @tu1 (ai @du1 (ai @cu1 (ai @lu2 (ai @tu2 (ai @du2 (ai @cu2 (ai @lu3 (ai @tu3 (ai @du3 (ai @cu3 (ai @lug (ai @tug (ai @dug @cug)))))))))))))))))))))))))))))))))))))));refine gCP [1002] [1002] (con_rd (lits:=[.agg (litRow us2),.agg row2]) [.set E2 (fun w=>OwnVals w row2 E2 us2)] cQ2 ⟨.tree List.mem_cons_self,.same,trivial⟩ rfl rfl) ?_;clear F)
 rintro r pm ⟨rfl,rfl⟩
 simp only [setA,retA,zipM,List.cons_append,List.nil_append]
 (have F:=ai @okc0 (ai @len0 (ai @tk0 (ai @dr0 (ai @okc1 (ai @len1 (ai @tk1 (ai @dr1 (ai @okc2 (ai @len2 (ai @tk2 (ai @dr2 (ai @okc3 (ai @len3 (ai @tk3 (ai @dr3 (ai @drop0 (ai @okcw (ai @lenw (ai @tkw (ai @drw (ai @lu0 (ai @tu0 (ai @du0 (ai @cu0 (ai @lu1 (ai @tu1 (ai @du1 (ai @cu1 (ai @lu2 (ai @tu2 (ai @du2 (ai @cu2 (ai @lu3 (ai @tu3 (ai @du3 (ai @cu3 (ai @lug (ai @tug (ai @dug @cug)))))))))))))))))))))))))))))))))))))));refine gR ?_;clear F)
 (have F:=ai @okc0 (ai @len0 (ai @tk0 (ai @dr0 (ai @okc1 (ai @len1 (ai @tk1 (ai @dr1 (ai @okc2 (ai @len2 (ai @tk2 (ai @dr2 (ai @okc3 (ai @len3 (ai @tk3 (ai @dr3 (ai @drop0 (ai @okcw (ai @lenw (ai @tkw (ai @drw (ai @lu0 (ai @tu0 (ai @du0 (ai @cu0 (ai @lu1 (ai @tu1 (ai @du1 (ai @cu1 (ai @lu2 (ai @tu2 (ai @du2 (ai @cu2 (ai @lu3 (ai @tu3 (ai @du3 (ai @cu3 (ai @lug (ai @tug (ai @dug @cug)))))))))))))))))))))))))))))))))))))));refine gG ?_;clear F)
 refine gB ?_
 (have F:=ai @okc0 (ai @len0 (ai @tk0 (ai @dr0 (ai @okc1 (ai @len1 (ai @tk1 (ai @dr1 (ai @okc2 (ai @len2 (ai @tk2 (ai @dr2 (ai @okc3 (ai @len3 (ai @tk3 (ai @dr3 (ai @drop0 (ai @okcw (ai @lenw (ai @tkw (ai @drw (ai @lu0 (ai @tu0 (ai @du0 (ai @cu0 (ai @lu1 (ai @tu1 (ai @du1 (ai @cu1 (ai @lu2 (ai @tu2 (ai @du2 (ai @cu2 (ai @lu3 (ai @tu3 (ai @du3 (ai @cu3 (ai @lug (ai @tug (ai @dug @cug)))))))))))))))))))))))))))))))))))))));refine gC (cT3) ?_;clear F)
 (have F:=ai @okc0 (ai @len0 (ai @tk0 (ai @dr0 (ai @okc1 (ai @len1 (ai @tk1 (ai @dr1 (ai @okc2 (ai @len2 (ai @tk2 (ai @dr2 (ai @okc3 (ai @len3 (ai @tk3 (ai @dr3 (ai @drop0 (ai @okcw (ai @lenw (ai @tkw (ai @drw (ai @lu0 (ai @tu0 (ai @du0 (ai @cu0 (ai @lu1 (ai @tu1 (ai @du1 (ai @cu1 (ai @lu2 (ai @tu2 (ai @du2 (ai @cu2 (ai @lu3 (ai @tu3 (ai @du3 (ai @cu3 (ai @lug (ai @tug (ai @dug @cug)))))))))))))))))))))))))))))))))))))));refine gCP [1003] [1003] (con_rd (lits:=[.agg (litRow us3),.agg row3]) [.set E3 (fun w=>OwnVals w row3 E3 us3)] cQ3 ⟨.tree List.mem_cons_self,.same,trivial⟩ rfl rfl) ?_;clear F)
 rintro r pm ⟨rfl,rfl⟩
 simp only [setA,retA,zipM,List.cons_append,List.nil_append]
 (have F:=ai @okc0 (ai @len0 (ai @tk0 (ai @dr0 (ai @okc1 (ai @len1 (ai @tk1 (ai @dr1 (ai @okc2 (ai @len2 (ai @tk2 (ai @dr2 (ai @okc3 (ai @len3 (ai @tk3 (ai @dr3 (ai @drop0 (ai @okcw (ai @lenw (ai @tkw (ai @drw (ai @lu0 (ai @tu0 (ai @du0 (ai @cu0 (ai @lu1 (ai @tu1 (ai @du1 (ai @cu1 (ai @lu2 (ai @tu2 (ai @du2 (ai @cu2 (ai @lu3 (ai @tu3 (ai @du3 (ai @cu3 (ai @lug (ai @tug (ai @dug @cug)))))))))))))))))))))))))))))))))))))));refine gR ?_;clear F)
 (have F:=ai @okc0 (ai @len0 (ai @tk0 (ai @dr0 (ai @okc1 (ai @len1 (ai @tk1 (ai @dr1 (ai @okc2 (ai @len2 (ai @tk2 (ai @dr2 (ai @okc3 (ai @len3 (ai @tk3 (ai @dr3 (ai @drop0 (ai @okcw (ai @lenw (ai @tkw (ai @drw (ai @lu0 (ai @tu0 (ai @du0 (ai @cu0 (ai @lu1 (ai @tu1 (ai @du1 (ai @cu1 (ai @lu2 (ai @tu2 (ai @du2 (ai @cu2 (ai @lu3 (ai @tu3 (ai @du3 (ai @cu3 (ai @lug (ai @tug (ai @dug @cug)))))))))))))))))))))))))))))))))))))));refine gG ?_;clear F)
 refine gB ?_
 (have F:=ai @okc0 (ai @len0 (ai @tk0 (ai @dr0 (ai @okc1 (ai @len1 (ai @tk1 (ai @dr1 (ai @okc2 (ai @len2 (ai @tk2 (ai @dr2 (ai @okc3 (ai @len3 (ai @tk3 (ai @dr3 (ai @drop0 (ai @okcw (ai @lenw (ai @tkw (ai @drw (ai @lu0 (ai @tu0 (ai @du0 (ai @cu0 (ai @lu1 (ai @tu1 (ai @du1 (ai @cu1 (ai @lu2 (ai @tu2 (ai @du2 (ai @cu2 (ai @lu3 (ai @tu3 (ai @du3 (ai @cu3 (ai @lug (ai @tug (ai @dug @cug)))))))))))))))))))))))))))))))))))))));refine gCP [1000] [1000] (markSignature_all hok0 (1) E0 us0 (by omega) cu0 (by omega) (by omega)) ?_;clear F)
 rintro r pm ⟨F0,rfl,rfl⟩
 simp only [setA,retA,zipM,List.cons_append,List.nil_append]
 (have F:=ai @okc0 (ai @len0 (ai @tk0 (ai @dr0 (ai @okc1 (ai @len1 (ai @tk1 (ai @dr1 (ai @okc2 (ai @len2 (ai @tk2 (ai @dr2 (ai @okc3 (ai @len3 (ai @tk3 (ai @dr3 (ai @drop0 (ai @okcw (ai @lenw (ai @tkw (ai @drw (ai @lu0 (ai @tu0 (ai @du0 (ai @cu0 (ai @lu1 (ai @tu1 (ai @du1 (ai @cu1 (ai @lu2 (ai @tu2 (ai @du2 (ai @cu2 (ai @lu3 (ai @tu3 (ai @du3 (ai @cu3 (ai @lug (ai @tug (ai @dug @cug)))))))))))))))))))))))))))))))))))))));refine gR ?_;clear F)
 (have F:=ai @okc0 (ai @len0 (ai @tk0 (ai @dr0 (ai @okc1 (ai @len1 (ai @tk1 (ai @dr1 (ai @okc2 (ai @len2 (ai @tk2 (ai @dr2 (ai @okc3 (ai @len3 (ai @tk3 (ai @dr3 (ai @drop0 (ai @okcw (ai @lenw (ai @tkw (ai @drw (ai @lu0 (ai @tu0 (ai @du0 (ai @cu0 (ai @lu1 (ai @tu1 (ai @du1 (ai @cu1 (ai @lu2 (ai @tu2 (ai @du2 (ai @cu2 (ai @lu3 (ai @tu3 (ai @du3 (ai @cu3 (ai @lug (ai @tug (ai @dug @cug)))))))))))))))))))))))))))))))))))))));refine gG ?_;clear F)
 refine gB ?_
 (have F:=ai @okc0 (ai @len0 (ai @tk0 (ai @dr0 (ai @okc1 (ai @len1 (ai @tk1 (ai @dr1 (ai @okc2 (ai @len2 (ai @tk2 (ai @dr2 (ai @okc3 (ai @len3 (ai @tk3 (ai @dr3 (ai @drop0 (ai @okcw (ai @lenw (ai @tkw (ai @drw (ai @lu0 (ai @tu0 (ai @du0 (ai @cu0 (ai @lu1 (ai @tu1 (ai @du1 (ai @cu1 (ai @lu2 (ai @tu2 (ai @du2 (ai @cu2 (ai @lu3 (ai @tu3 (ai @du3 (ai @cu3 (ai @lug (ai @tug (ai @dug @cug)))))))))))))))))))))))))))))))))))))));refine gCP [1001] [1001] (markTerm_all hok1 (1+(cntTop row0:Int)) E1 us1 (by omega) cu1 (by omega) (by omega)) ?_;clear F)
 rintro r pm ⟨F1,rfl,rfl⟩
 simp only [setA,retA,zipM,List.cons_append,List.nil_append]
 (have F:=ai @okc0 (ai @len0 (ai @tk0 (ai @dr0 (ai @okc1 (ai @len1 (ai @tk1 (ai @dr1 (ai @okc2 (ai @len2 (ai @tk2 (ai @dr2 (ai @okc3 (ai @len3 (ai @tk3 (ai @dr3 (ai @drop0 (ai @okcw (ai @lenw (ai @tkw (ai @drw (ai @lu0 (ai @tu0 (ai @du0 (ai @cu0 (ai @lu1 (ai @tu1 (ai @du1 (ai @cu1 (ai @lu2 (ai @tu2 (ai @du2 (ai @cu2 (ai @lu3 (ai @tu3 (ai @du3 (ai @cu3 (ai @lug (ai @tug (ai @dug @cug)))))))))))))))))))))))))))))))))))))));refine gR ?_;clear F)
 (have F:=ai @okc0 (ai @len0 (ai @tk0 (ai @dr0 (ai @okc1 (ai @len1 (ai @tk1 (ai @dr1 (ai @okc2 (ai @len2 (ai @tk2 (ai @dr2 (ai @okc3 (ai @len3 (ai @tk3 (ai @dr3 (ai @drop0 (ai @okcw (ai @lenw (ai @tkw (ai @drw (ai @lu0 (ai @tu0 (ai @du0 (ai @cu0 (ai @lu1 (ai @tu1 (ai @du1 (ai @cu1 (ai @lu2 (ai @tu2 (ai @du2 (ai @cu2 (ai @lu3 (ai @tu3 (ai @du3 (ai @cu3 (ai @lug (ai @tug (ai @dug @cug)))))))))))))))))))))))))))))))))))))));refine gG ?_;clear F)
 refine gB ?_
 (have F:=ai @okc0 (ai @len0 (ai @tk0 (ai @dr0 (ai @okc1 (ai @len1 (ai @tk1 (ai @dr1 (ai @okc2 (ai @len2 (ai @tk2 (ai @dr2 (ai @okc3 (ai @len3 (ai @tk3 (ai @dr3 (ai @drop0 (ai @okcw (ai @lenw (ai @tkw (ai @drw (ai @lu0 (ai @tu0 (ai @du0 (ai @cu0 (ai @lu1 (ai @tu1 (ai @du1 (ai @cu1 (ai @lu2 (ai @tu2 (ai @du2 (ai @cu2 (ai @lu3 (ai @tu3 (ai @du3 (ai @cu3 (ai @lug (ai @tug (ai @dug @cug)))))))))))))))))))))))))))))))))))))));refine gCP [1002] [1002] (markOccurrence_all hok2 (1+(cntTop row0:Int)+(cntTop row1:Int)) E2 us2 (by omega) cu2 (by omega) (by omega)) ?_;clear F)
 rintro r pm ⟨F2,rfl,rfl⟩
 simp only [setA,retA,zipM,List.cons_append,List.nil_append]
 (have F:=ai @okc0 (ai @len0 (ai @tk0 (ai @dr0 (ai @okc1 (ai @len1 (ai @tk1 (ai @dr1 (ai @okc2 (ai @len2 (ai @tk2 (ai @dr2 (ai @okc3 (ai @len3 (ai @tk3 (ai @dr3 (ai @drop0 (ai @okcw (ai @lenw (ai @tkw (ai @drw (ai @lu0 (ai @tu0 (ai @du0 (ai @cu0 (ai @lu1 (ai @tu1 (ai @du1 (ai @cu1 (ai @lu2 (ai @tu2 (ai @du2 (ai @cu2 (ai @lu3 (ai @tu3 (ai @du3 (ai @cu3 (ai @lug (ai @tug (ai @dug @cug)))))))))))))))))))))))))))))))))))))));refine gR ?_;clear F)
 (have F:=ai @okc0 (ai @len0 (ai @tk0 (ai @dr0 (ai @okc1 (ai @len1 (ai @tk1 (ai @dr1 (ai @okc2 (ai @len2 (ai @tk2 (ai @dr2 (ai @okc3 (ai @len3 (ai @tk3 (ai @dr3 (ai @drop0 (ai @okcw (ai @lenw (ai @tkw (ai @drw (ai @lu0 (ai @tu0 (ai @du0 (ai @cu0 (ai @lu1 (ai @tu1 (ai @du1 (ai @cu1 (ai @lu2 (ai @tu2 (ai @du2 (ai @cu2 (ai @lu3 (ai @tu3 (ai @du3 (ai @cu3 (ai @lug (ai @tug (ai @dug @cug)))))))))))))))))))))))))))))))))))))));refine gG ?_;clear F)
 refine gB ?_
 (have F:=ai @okc0 (ai @len0 (ai @tk0 (ai @dr0 (ai @okc1 (ai @len1 (ai @tk1 (ai @dr1 (ai @okc2 (ai @len2 (ai @tk2 (ai @dr2 (ai @okc3 (ai @len3 (ai @tk3 (ai @dr3 (ai @drop0 (ai @okcw (ai @lenw (ai @tkw (ai @drw (ai @lu0 (ai @tu0 (ai @du0 (ai @cu0 (ai @lu1 (ai @tu1 (ai @du1 (ai @cu1 (ai @lu2 (ai @tu2 (ai @du2 (ai @cu2 (ai @lu3 (ai @tu3 (ai @du3 (ai @cu3 (ai @lug (ai @tug (ai @dug @cug)))))))))))))))))))))))))))))))))))))));refine gCP [1003] [1003] (markTerm_all hok3 (1+(cntTop row0:Int)+(cntTop row1:Int)+(cntTop row2:Int)) E3 us3 (by omega) cu3 (by omega) (by omega)) ?_;clear F)
 rintro r pm ⟨F3,rfl,rfl⟩
 simp only [setA,retA,zipM,List.cons_append,List.nil_append]
 (have F:=ai @okc0 (ai @len0 (ai @tk0 (ai @dr0 (ai @okc1 (ai @len1 (ai @tk1 (ai @dr1 (ai @okc2 (ai @len2 (ai @tk2 (ai @dr2 (ai @okc3 (ai @len3 (ai @tk3 (ai @dr3 (ai @drop0 (ai @okcw (ai @lenw (ai @tkw (ai @drw (ai @lu0 (ai @tu0 (ai @du0 (ai @cu0 (ai @lu1 (ai @tu1 (ai @du1 (ai @cu1 (ai @lu2 (ai @tu2 (ai @du2 (ai @cu2 (ai @lu3 (ai @tu3 (ai @du3 (ai @cu3 (ai @lug (ai @tug (ai @dug @cug)))))))))))))))))))))))))))))))))))))));refine gR ?_;clear F)
 (have F:=ai @okc0 (ai @len0 (ai @tk0 (ai @dr0 (ai @okc1 (ai @len1 (ai @tk1 (ai @dr1 (ai @okc2 (ai @len2 (ai @tk2 (ai @dr2 (ai @okc3 (ai @len3 (ai @tk3 (ai @dr3 (ai @drop0 (ai @okcw (ai @lenw (ai @tkw (ai @drw (ai @lu0 (ai @tu0 (ai @du0 (ai @cu0 (ai @lu1 (ai @tu1 (ai @du1 (ai @cu1 (ai @lu2 (ai @tu2 (ai @du2 (ai @cu2 (ai @lu3 (ai @tu3 (ai @du3 (ai @cu3 (ai @lug (ai @tug (ai @dug @cug)))))))))))))))))))))))))))))))))))))));refine gG ?_;clear F)
 have nk:(1+(cntTop row0:Int)+(cntTop row1:Int)+(cntTop row2:Int)+(cntTop row3:Int) < 0)=False:=eq_false (by omega)
 refine gB ?_
 (have F:=ai @okc0 (ai @len0 (ai @tk0 (ai @dr0 (ai @okc1 (ai @len1 (ai @tk1 (ai @dr1 (ai @okc2 (ai @len2 (ai @tk2 (ai @dr2 (ai @okc3 (ai @len3 (ai @tk3 (ai @dr3 (ai @drop0 (ai @okcw (ai @lenw (ai @tkw (ai @drw (ai @lu0 (ai @tu0 (ai @du0 (ai @cu0 (ai @lu1 (ai @tu1 (ai @du1 (ai @cu1 (ai @lu2 (ai @tu2 (ai @du2 (ai @cu2 (ai @lu3 (ai @tu3 (ai @du3 (ai @cu3 (ai @lug (ai @tug (ai @dug (ai @cug @nk))))))))))))))))))))))))))))))))))))))));refine gCP [1100] [1100] (con_rd (lits:=[.agg (litRow usg),.agg wr]) [.set Eg (fun w=>OwnVals w wr Eg usg)] cE ⟨.tree List.mem_cons_self,.same,trivial⟩ rfl rfl) ?_;clear F)
 rintro r pm ⟨rfl,rfl⟩
 simp only [setA,retA,zipM,List.cons_append,List.nil_append]
 (have F:=ai @okc0 (ai @len0 (ai @tk0 (ai @dr0 (ai @okc1 (ai @len1 (ai @tk1 (ai @dr1 (ai @okc2 (ai @len2 (ai @tk2 (ai @dr2 (ai @okc3 (ai @len3 (ai @tk3 (ai @dr3 (ai @drop0 (ai @okcw (ai @lenw (ai @tkw (ai @drw (ai @lu0 (ai @tu0 (ai @du0 (ai @cu0 (ai @lu1 (ai @tu1 (ai @du1 (ai @cu1 (ai @lu2 (ai @tu2 (ai @du2 (ai @cu2 (ai @lu3 (ai @tu3 (ai @du3 (ai @cu3 (ai @lug (ai @tug (ai @dug (ai @cug (ai @nk @beq_self_eq_true.{0})))))))))))))))))))))))))))))))))))))))));refine gR ?_;clear F)
 (have F:=ai @okc0 (ai @len0 (ai @tk0 (ai @dr0 (ai @okc1 (ai @len1 (ai @tk1 (ai @dr1 (ai @okc2 (ai @len2 (ai @tk2 (ai @dr2 (ai @okc3 (ai @len3 (ai @tk3 (ai @dr3 (ai @drop0 (ai @okcw (ai @lenw (ai @tkw (ai @drw (ai @lu0 (ai @tu0 (ai @du0 (ai @cu0 (ai @lu1 (ai @tu1 (ai @du1 (ai @cu1 (ai @lu2 (ai @tu2 (ai @du2 (ai @cu2 (ai @lu3 (ai @tu3 (ai @du3 (ai @cu3 (ai @lug (ai @tug (ai @dug (ai @cug (ai @nk @beq_self_eq_true.{0})))))))))))))))))))))))))))))))))))))))));refine gG ?_;clear F)
 refine gB ?_
 (have F:=ai @okc0 (ai @len0 (ai @tk0 (ai @dr0 (ai @okc1 (ai @len1 (ai @tk1 (ai @dr1 (ai @okc2 (ai @len2 (ai @tk2 (ai @dr2 (ai @okc3 (ai @len3 (ai @tk3 (ai @dr3 (ai @drop0 (ai @okcw (ai @lenw (ai @tkw (ai @drw (ai @lu0 (ai @tu0 (ai @du0 (ai @cu0 (ai @lu1 (ai @tu1 (ai @du1 (ai @cu1 (ai @lu2 (ai @tu2 (ai @du2 (ai @cu2 (ai @lu3 (ai @tu3 (ai @du3 (ai @cu3 (ai @lug (ai @tug (ai @dug (ai @cug @nk))))))))))))))))))))))))))))))))))))))));refine gCP [1100] [1100] (markTerm_all hokw 1 Eg usg (by omega) cug (by omega) (by omega)) ?_;clear F)
 rintro r pm ⟨Fg,rfl,rfl⟩
 simp only [setA,retA,zipM,List.cons_append,List.nil_append]
 (have F:=ai @okc0 (ai @len0 (ai @tk0 (ai @dr0 (ai @okc1 (ai @len1 (ai @tk1 (ai @dr1 (ai @okc2 (ai @len2 (ai @tk2 (ai @dr2 (ai @okc3 (ai @len3 (ai @tk3 (ai @dr3 (ai @drop0 (ai @okcw (ai @lenw (ai @tkw (ai @drw (ai @lu0 (ai @tu0 (ai @du0 (ai @cu0 (ai @lu1 (ai @tu1 (ai @du1 (ai @cu1 (ai @lu2 (ai @tu2 (ai @du2 (ai @cu2 (ai @lu3 (ai @tu3 (ai @du3 (ai @cu3 (ai @lug (ai @tug (ai @dug (ai @cug @nk))))))))))))))))))))))))))))))))))))))));refine gR ?_;clear F)
 (have F:=ai @okc0 (ai @len0 (ai @tk0 (ai @dr0 (ai @okc1 (ai @len1 (ai @tk1 (ai @dr1 (ai @okc2 (ai @len2 (ai @tk2 (ai @dr2 (ai @okc3 (ai @len3 (ai @tk3 (ai @dr3 (ai @drop0 (ai @okcw (ai @lenw (ai @tkw (ai @drw (ai @lu0 (ai @tu0 (ai @du0 (ai @cu0 (ai @lu1 (ai @tu1 (ai @du1 (ai @cu1 (ai @lu2 (ai @tu2 (ai @du2 (ai @cu2 (ai @lu3 (ai @tu3 (ai @du3 (ai @cu3 (ai @lug (ai @tug (ai @dug (ai @cug @nk))))))))))))))))))))))))))))))))))))))));refine gG ?_;clear F)
 have nm:(1+(cntTop wr:Int) < 0)=False:=eq_false (by omega)
 have cH:=heldTerm_all hokw (by omega) 1 (by omega) (by omega)
 refine gB ?_
 (have F:=ai @okc0 (ai @len0 (ai @tk0 (ai @dr0 (ai @okc1 (ai @len1 (ai @tk1 (ai @dr1 (ai @okc2 (ai @len2 (ai @tk2 (ai @dr2 (ai @okc3 (ai @len3 (ai @tk3 (ai @dr3 (ai @drop0 (ai @okcw (ai @lenw (ai @tkw (ai @drw (ai @lu0 (ai @tu0 (ai @du0 (ai @cu0 (ai @lu1 (ai @tu1 (ai @du1 (ai @cu1 (ai @lu2 (ai @tu2 (ai @du2 (ai @cu2 (ai @lu3 (ai @tu3 (ai @du3 (ai @cu3 (ai @lug (ai @tug (ai @dug (ai @cug (ai @nk @nm)))))))))))))))))))))))))))))))))))))))));refine gCP [1100] [1100] (con_rd (lits:=[.agg (litRow usg),.one (.lit (.int .i64 1))]) [.set Fg (fun w=>OwnVals w (mkTop 1 wr) Fg usg)] cH ⟨.tree List.mem_cons_self,.same,trivial⟩ rfl rfl) ?_;clear F)
 rintro r pm ⟨rfl,rfl⟩
 simp only [setA,retA,zipM,List.cons_append,List.nil_append]
 (have F:=ai @okc0 (ai @len0 (ai @tk0 (ai @dr0 (ai @okc1 (ai @len1 (ai @tk1 (ai @dr1 (ai @okc2 (ai @len2 (ai @tk2 (ai @dr2 (ai @okc3 (ai @len3 (ai @tk3 (ai @dr3 (ai @drop0 (ai @okcw (ai @lenw (ai @tkw (ai @drw (ai @lu0 (ai @tu0 (ai @du0 (ai @cu0 (ai @lu1 (ai @tu1 (ai @du1 (ai @cu1 (ai @lu2 (ai @tu2 (ai @du2 (ai @cu2 (ai @lu3 (ai @tu3 (ai @du3 (ai @cu3 (ai @lug (ai @tug (ai @dug (ai @cug (ai @nk @nm)))))))))))))))))))))))))))))))))))))))));refine gR ?_;clear F)
 (have F:=ai @okc0 (ai @len0 (ai @tk0 (ai @dr0 (ai @okc1 (ai @len1 (ai @tk1 (ai @dr1 (ai @okc2 (ai @len2 (ai @tk2 (ai @dr2 (ai @okc3 (ai @len3 (ai @tk3 (ai @dr3 (ai @drop0 (ai @okcw (ai @lenw (ai @tkw (ai @drw (ai @lu0 (ai @tu0 (ai @du0 (ai @cu0 (ai @lu1 (ai @tu1 (ai @du1 (ai @cu1 (ai @lu2 (ai @tu2 (ai @du2 (ai @cu2 (ai @lu3 (ai @tu3 (ai @du3 (ai @cu3 (ai @lug (ai @tug (ai @dug (ai @cug (ai @nk (ai @nm @beq_self_eq_true.{0}))))))))))))))))))))))))))))))))))))))))));refine gG ?_;clear F)
 have cD:=con_treeF him
 refine gLt 12 11 13 ?_
 (have F:=ai @okc0 (ai @len0 (ai @tk0 (ai @dr0 (ai @okc1 (ai @len1 (ai @tk1 (ai @dr1 (ai @okc2 (ai @len2 (ai @tk2 (ai @dr2 (ai @okc3 (ai @len3 (ai @tk3 (ai @dr3 (ai @drop0 (ai @okcw (ai @lenw (ai @tkw @drw)))))))))))))))))));refine gC (cT0) ?_;clear F)
 (have F:=ai @okc0 (ai @len0 (ai @tk0 (ai @dr0 (ai @okc1 (ai @len1 (ai @tk1 (ai @dr1 (ai @okc2 (ai @len2 (ai @tk2 (ai @dr2 (ai @okc3 (ai @len3 (ai @tk3 (ai @dr3 (ai @drop0 (ai @okcw (ai @lenw (ai @tkw @drw)))))))))))))))))));refine gC (cT1) ?_;clear F)
 (have F:=ai @okc0 (ai @len0 (ai @tk0 (ai @dr0 (ai @okc1 (ai @len1 (ai @tk1 (ai @dr1 (ai @okc2 (ai @len2 (ai @tk2 (ai @dr2 (ai @okc3 (ai @len3 (ai @tk3 (ai @dr3 (ai @drop0 (ai @okcw (ai @lenw (ai @tkw @drw)))))))))))))))))));refine gC (cT2) ?_;clear F)
 (have F:=ai @okc0 (ai @len0 (ai @tk0 (ai @dr0 (ai @okc1 (ai @len1 (ai @tk1 (ai @dr1 (ai @okc2 (ai @len2 (ai @tk2 (ai @dr2 (ai @okc3 (ai @len3 (ai @tk3 (ai @dr3 (ai @drop0 (ai @okcw (ai @lenw (ai @tkw @drw)))))))))))))))))));refine gC (cT3) ?_;clear F)
 (have F:=ai @okc0 (ai @len0 (ai @tk0 (ai @dr0 (ai @okc1 (ai @len1 (ai @tk1 (ai @dr1 (ai @okc2 (ai @len2 (ai @tk2 (ai @dr2 (ai @okc3 (ai @len3 (ai @tk3 (ai @dr3 (ai @drop0 (ai @okcw (ai @lenw (ai @tkw (ai @drw (ai @lu0 (ai @tu0 (ai @du0 (ai @cu0 (ai @lu1 (ai @tu1 (ai @du1 (ai @cu1 (ai @lu2 (ai @tu2 (ai @du2 (ai @cu2 (ai @lu3 (ai @tu3 (ai @du3 (ai @cu3 (ai @lug (ai @tug (ai @dug (ai @cug (ai @nk @nm)))))))))))))))))))))))))))))))))))))))));refine gC (cD) ?_;clear F)
 (have F:=ai @okc0 (ai @len0 (ai @tk0 (ai @dr0 (ai @okc1 (ai @len1 (ai @tk1 (ai @dr1 (ai @okc2 (ai @len2 (ai @tk2 (ai @dr2 (ai @okc3 (ai @len3 (ai @tk3 (ai @dr3 (ai @drop0 (ai @okcw (ai @lenw (ai @tkw (ai @drw (ai @lu0 (ai @tu0 (ai @du0 (ai @cu0 (ai @lu1 (ai @tu1 (ai @du1 (ai @cu1 (ai @lu2 (ai @tu2 (ai @du2 (ai @cu2 (ai @lu3 (ai @tu3 (ai @du3 (ai @cu3 (ai @lug (ai @tug (ai @dug (ai @cug (ai @nk @nm)))))))))))))))))))))))))))))))))))))))));refine gR ?_;clear F)
 (have F:=ai @okc0 (ai @len0 (ai @tk0 (ai @dr0 (ai @okc1 (ai @len1 (ai @tk1 (ai @dr1 (ai @okc2 (ai @len2 (ai @tk2 (ai @dr2 (ai @okc3 (ai @len3 (ai @tk3 (ai @dr3 (ai @drop0 (ai @okcw (ai @lenw (ai @tkw (ai @drw (ai @lu0 (ai @tu0 (ai @du0 (ai @cu0 (ai @lu1 (ai @tu1 (ai @du1 (ai @cu1 (ai @lu2 (ai @tu2 (ai @du2 (ai @cu2 (ai @lu3 (ai @tu3 (ai @du3 (ai @cu3 (ai @lug (ai @tug (ai @dug (ai @cug (ai @nk @nm)))))))))))))))))))))))))))))))))))))))));refine gG ?_;clear F)
 refine gB ?_
 (have F:=ai @okc0 (ai @len0 (ai @tk0 (ai @dr0 (ai @okc1 (ai @len1 (ai @tk1 (ai @dr1 (ai @okc2 (ai @len2 (ai @tk2 (ai @dr2 (ai @okc3 (ai @len3 (ai @tk3 (ai @dr3 (ai @drop0 (ai @okcw (ai @lenw (ai @tkw (ai @drw (ai @lu0 (ai @tu0 (ai @du0 (ai @cu0 (ai @lu1 (ai @tu1 (ai @du1 (ai @cu1 (ai @lu2 (ai @tu2 (ai @du2 (ai @cu2 (ai @lu3 (ai @tu3 (ai @du3 (ai @cu3 (ai @lug (ai @tug (ai @dug (ai @cug (ai @nk @nm)))))))))))))))))))))))))))))))))))))))));refine gC (cE) ?_;clear F)
 (have F:=ai @okc0 (ai @len0 (ai @tk0 (ai @dr0 (ai @okc1 (ai @len1 (ai @tk1 (ai @dr1 (ai @okc2 (ai @len2 (ai @tk2 (ai @dr2 (ai @okc3 (ai @len3 (ai @tk3 (ai @dr3 (ai @drop0 (ai @okcw (ai @lenw (ai @tkw (ai @drw (ai @lu0 (ai @tu0 (ai @du0 (ai @cu0 (ai @lu1 (ai @tu1 (ai @du1 (ai @cu1 (ai @lu2 (ai @tu2 (ai @du2 (ai @cu2 (ai @lu3 (ai @tu3 (ai @du3 (ai @cu3 (ai @lug (ai @tug (ai @dug (ai @cug (ai @nk (ai @nm @beq_self_eq_true.{0}))))))))))))))))))))))))))))))))))))))))));refine gR ?_;clear F)
 (have F:=ai @okc0 (ai @len0 (ai @tk0 (ai @dr0 (ai @okc1 (ai @len1 (ai @tk1 (ai @dr1 (ai @okc2 (ai @len2 (ai @tk2 (ai @dr2 (ai @okc3 (ai @len3 (ai @tk3 (ai @dr3 (ai @drop0 (ai @okcw (ai @lenw (ai @tkw (ai @drw (ai @lu0 (ai @tu0 (ai @du0 (ai @cu0 (ai @lu1 (ai @tu1 (ai @du1 (ai @cu1 (ai @lu2 (ai @tu2 (ai @du2 (ai @cu2 (ai @lu3 (ai @tu3 (ai @du3 (ai @cu3 (ai @lug (ai @tug (ai @dug (ai @cug (ai @nk (ai @nm @beq_self_eq_true.{0}))))))))))))))))))))))))))))))))))))))))));refine gG ?_;clear F)
 refine gB ?_
 (have F:=ai @okc0 (ai @len0 (ai @tk0 (ai @dr0 (ai @okc1 (ai @len1 (ai @tk1 (ai @dr1 (ai @okc2 (ai @len2 (ai @tk2 (ai @dr2 (ai @okc3 (ai @len3 (ai @tk3 (ai @dr3 (ai @drop0 (ai @okcw (ai @lenw (ai @tkw (ai @drw (ai @lu0 (ai @tu0 (ai @du0 (ai @cu0 (ai @lu1 (ai @tu1 (ai @du1 (ai @cu1 (ai @lu2 (ai @tu2 (ai @du2 (ai @cu2 (ai @lu3 (ai @tu3 (ai @du3 (ai @cu3 (ai @lug (ai @tug (ai @dug (ai @cug (ai @nk @nm)))))))))))))))))))))))))))))))))))))))));refine gCP [1100] [1100] (con_rd (lits:=[.agg (litRow usg),.one (.lit (.int .i64 1))]) [.set Fg (fun w=>OwnVals w (mkTop 1 wr) Fg usg)] cH ⟨.tree List.mem_cons_self,.same,trivial⟩ rfl rfl) ?_;clear F)
 rintro r pm ⟨rfl,rfl⟩
 simp only [setA,retA,zipM,List.cons_append,List.nil_append]
 (have F:=ai @okc0 (ai @len0 (ai @tk0 (ai @dr0 (ai @okc1 (ai @len1 (ai @tk1 (ai @dr1 (ai @okc2 (ai @len2 (ai @tk2 (ai @dr2 (ai @okc3 (ai @len3 (ai @tk3 (ai @dr3 (ai @drop0 (ai @okcw (ai @lenw (ai @tkw (ai @drw (ai @lu0 (ai @tu0 (ai @du0 (ai @cu0 (ai @lu1 (ai @tu1 (ai @du1 (ai @cu1 (ai @lu2 (ai @tu2 (ai @du2 (ai @cu2 (ai @lu3 (ai @tu3 (ai @du3 (ai @cu3 (ai @lug (ai @tug (ai @dug (ai @cug (ai @nk @nm)))))))))))))))))))))))))))))))))))))))));refine gR ?_;clear F)
 (have F:=ai @okc0 (ai @len0 (ai @tk0 (ai @dr0 (ai @okc1 (ai @len1 (ai @tk1 (ai @dr1 (ai @okc2 (ai @len2 (ai @tk2 (ai @dr2 (ai @okc3 (ai @len3 (ai @tk3 (ai @dr3 (ai @drop0 (ai @okcw (ai @lenw (ai @tkw (ai @drw (ai @lu0 (ai @tu0 (ai @du0 (ai @cu0 (ai @lu1 (ai @tu1 (ai @du1 (ai @cu1 (ai @lu2 (ai @tu2 (ai @du2 (ai @cu2 (ai @lu3 (ai @tu3 (ai @du3 (ai @cu3 (ai @lug (ai @tug (ai @dug (ai @cug (ai @nk (ai @nm @beq_self_eq_true.{0}))))))))))))))))))))))))))))))))))))))))));refine gG ?_;exact gT)
theorem lawExactReplaceOccurrence (w:World) (row0:List C) (S0:Nat->Prop) (us0:List Value) (hok0:okRow (sigF) row0) (hv0:RepVals w S0 row0 us0) (row1:List C) (S1:Nat->Prop) (us1:List Value) (hok1:okRow (fieldsOf .term) row1) (hv1:RepVals w S1 row1 us1) (row2:List C) (S2:Nat->Prop) (us2:List Value) (hok2:okRow (fieldsOf .occ) row2) (hv2:RepVals w S2 row2 us2) (row3:List C) (S3:Nat->Prop) (us3:List Value) (hok3:okRow (fieldsOf .term) row3) (hv3:RepVals w S3 row3 us3) :
  Calls Tryz.prog 4 #[(.agg us0.toArray:Value),(.agg us1.toArray:Value),(.agg us2.toArray:Value),(.agg us3.toArray:Value)] w fun e w'=>e=.returned (.bool true)∧Below w.heap.size w w':=by
 obtain ⟨g,rfl,k0⟩:=decSgn hok0
 obtain ⟨t,rfl,k1⟩:=decTm hok1
 obtain ⟨o,rfl,k2⟩:=decOcc hok2
 obtain ⟨u,rfl,k3⟩:=decTm hok3
 have hc:=(con_lawReplaceOccurrence hok0 hok1 hok2 hok3 (okRow_rp) (fun b0 b1 b2 b3 bt=>big_rp) (fun b0 b1 b2 b3 bt=>con_specRp k0 k1 b1 k3 b3 k2 b2) (fun b0 b1 b2 b3 bt=>conP_implRp k0 k1 b1 k3 b3 b2)).2 w (fun b=>b < w.heap.size) [(.agg us0.toArray:Value),(.agg us1.toArray:Value),(.agg us2.toArray:Value),(.agg us3.toArray:Value)] (fun b hb=>⟨hb,id⟩) (fun b hb=>hb.elim) trivial
  ⟨⟨us0,rfl,hv0.inside'⟩,⟨us1,rfl,hv1.inside'⟩,⟨us2,rfl,hv2.inside'⟩,⟨us3,rfl,hv3.inside'⟩,trivial⟩
 refine hc.mono fun e w' ⟨v,h1,h2,_,h4⟩=>⟨?_,h2.below⟩
 have h4:v=.bool true:=by simpa [retA,ARel,DRel,Rep] using h4
 rw [h1,h4]
end Go.Proofs.YtohilkmdjdfljaaGreat
namespace Go.Proofs.YtohilkmdjdfljaaGreat
open Go.ChangeShapes Go.WideShapes Go.ChangeAt Go.RowKit Go.Deep
set_option maxRecDepth 100000 in
theorem replaceOccurrence_holds_lifted (os:Os) (started:os.Started) (H:Type) (enc:TypeId × Value->H) :
  ReturnsInHanded {} Tryz.checked os 4 .any (Rows.fnExactReplaceOccurrenceSpec.pre6 enc Tryz.prog Tryz.f4 Rows.fnExactReplaceOccurrenceRow.domain false) (Rows.fnExactReplaceOccurrenceSpec.post enc Tryz.prog Tryz.f4 false true false false):=by
 refine returnsInHanded_of_change (C:=Tryz.checked) own started (by kernel_rfl) Tryz.func4
  (ChangeSpec.witness6 (enc:=enc) (C:=Tryz.checked) false ⟨#[],#[.agg #[.slice none 0 0,.slice none 0 0,.slice none 0 0],.agg #[.int .i64 0,.string .empty,.int .i64 0,.slice none 0 0],.agg #[.slice none 0 0,.slice none 0 0,.slice none 0 0,.slice none 0 0],.agg #[.int .i64 0,.string .empty,.int .i64 0,.slice none 0 0]],[]⟩ 8 (by kernel_rfl) (by kernel_rfl) (by kernel_rfl) (by kernel_rfl)) ?_
 intro W base args ds gs before hval0 hW _ _
 have hval:∀ (j:Nat) t v,Tryz.f4.params[j]?=some t->args[j]?=some v->Value.okWide Tryz.prog W .any base t v:=hval0
 have hW':=hW
 obtain ⟨p,q,hA0,hV,rfl,_,_⟩:=hW
 have hA:DataW.TrodAll enc Tryz.prog W 0 (fun _=>true) true Tryz.f4.params.toList args.toList ds p:=hA0
 rw [Tryz.params4] at hA hval
 obtain ⟨v0,vs0,d0,ds0,p0,q0,hargs0,hd0,hp0,h0,r0⟩:=trodAll_cons hA
 obtain ⟨v1,vs1,d1,ds1,p1,q1,hargs1,hd1,hp1,h1,r1⟩:=trodAll_cons r0
 obtain ⟨v2,vs2,d2,ds2,p2,q2,hargs2,hd2,hp2,h2,r2⟩:=trodAll_cons r1
 obtain ⟨v3,vs3,d3,ds3,p3,q3,hargs3,hd3,hp3,h3,r3⟩:=trodAll_cons r2
 obtain ⟨e4,e4d,_⟩:=trodAll_nil r3
 rw [e4] at hargs3
 rw [hargs3] at hargs2
 rw [hargs2] at hargs1
 rw [hargs1] at hargs0
 obtain rfl:args=#[v0,v1,v2,v3]:=by cases args;simp_all
 rw [e4d] at hd3
 rw [hd3] at hd2
 rw [hd2] at hd1
 rw [hd1] at hd0
 subst hd0
 obtain ⟨rfl,rfl⟩:=trodVars_none hV
 obtain ⟨cs0,rfl,_⟩:=okWide_struct Tryz.underlying28 (hval 0 28 v0 rfl rfl)
 obtain ⟨fuel0,hf0⟩:=h0
 obtain ⟨row0,hok0,hrep0⟩:=open_row seatTR fuel0 _ _ _ _ ty_Signature hf0
 have e0c:(Value.agg cs0).cells.toList.toArray=cs0:=by simp [Value.cells]
 obtain ⟨cs1,rfl,_⟩:=okWide_struct Tryz.underlying31 (hval 1 31 v1 rfl rfl)
 obtain ⟨fuel1,hf1⟩:=h1
 obtain ⟨row1,hok1,hrep1⟩:=open_row seatTR fuel1 _ _ _ _ ty_Term hf1
 have e1c:(Value.agg cs1).cells.toList.toArray=cs1:=by simp [Value.cells]
 obtain ⟨cs2,rfl,_⟩:=okWide_struct Tryz.underlying35 (hval 2 35 v2 rfl rfl)
 obtain ⟨fuel2,hf2⟩:=h2
 obtain ⟨row2,hok2,hrep2⟩:=open_row seatTR fuel2 _ _ _ _ ty_Occurrence hf2
 have e2c:(Value.agg cs2).cells.toList.toArray=cs2:=by simp [Value.cells]
 obtain ⟨cs3,rfl,_⟩:=okWide_struct Tryz.underlying31 (hval 3 31 v3 rfl rfl)
 obtain ⟨fuel3,hf3⟩:=h3
 obtain ⟨row3,hok3,hrep3⟩:=open_row seatTR fuel3 _ _ _ _ ty_Term hf3
 have e3c:(Value.agg cs3).cells.toList.toArray=cs3:=by simp [Value.cells]
 have hlaw:=lawExactReplaceOccurrence W row0 _ _ hok0 hrep0 row1 _ _ hok1 hrep1 row2 _ _ hok2 hrep2 row3 _ _ hok3 hrep3
 rw [e0c,e1c,e2c,e3c] at hlaw
 refine hlaw.mono fun e W' ⟨he,hb⟩=>?_
 subst he
 exact ⟨_,rfl,law_post laidOut rfl rfl Tryz.underlying4 (by rw [Tryz.params4];decide +kernel) hW' rfl hb⟩
set_option maxHeartbeats 400000000 in
set_option maxRecDepth 100000 in
theorem replaceOccurrence_holds_closed:joinedFacts Tryz.checked.prog 4 Tryz.f4 Rows.fnExactReplaceOccurrenceSpec Rows.fnExactReplaceOccurrenceRow=true:=by
 unfold joinedFacts
 simp only [Bool.and_eq_true]
 and_intros
 all_goals as_aux_lemma=>kernel_rfl
theorem replaceOccurrence_holds_named:Tryz.checked.prog.funcNamed Rows.fnExactReplaceOccurrenceRow.func=some 4:=by kernel_rfl
theorem replaceOccurrence_holds:Rows.FnExactReplaceOccurrenceSaid :=
 OpenClaim.holds_of_wide 4 Tryz.f4 rfl rfl rfl rfl rfl rfl rfl ⟨rfl,rfl,rfl,rfl,rfl⟩ rfl rfl rfl rfl rfl replaceOccurrence_holds_named Tryz.func4 replaceOccurrence_holds_closed
  (of_decide_eq_true (by kernel_rfl)) (by unfold Func.isWrapper;rw [if_neg (of_decide_eq_false (by kernel_rfl))];exact ⟨rfl,rfl⟩)
  (fun os started H enc _=>replaceOccurrence_holds_lifted os started H enc)
#print axioms replaceOccurrence_holds
end Go.Proofs.YtohilkmdjdfljaaGreat
