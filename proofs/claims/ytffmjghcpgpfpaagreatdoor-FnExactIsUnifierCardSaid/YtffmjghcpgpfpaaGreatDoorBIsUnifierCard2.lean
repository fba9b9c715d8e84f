/-
  Part of a proof: LDecl, LOp, LSignature, Enc, Alg0, Qe, Qh, Qg, Dw, Door, Open2, LTerm, Tm, Cmp, Te0, Cp, Cmp2, Cmp3, Cmp4, Sp, Sn, Rg, Rh, Sm, Mm, Ss2.
-/
import Derived.Test.YtffmjghcpgpfpaaGreatDoorBIsUnifierCard0
import Derived.Test.YtffmjghcpgpfpaaGreatDoorBIsUnifierCard1
import Derived.Test.YtffmjghcpgpfpaaGreatDoorRows
import Derived.Deep.RegionHeld3
import Derived.Lib.LaidTab
import Derived.HandedShaped
import Derived.LaidMore
import Derived.LaidLaws
import Derived.ProofKit
import Derived.Stop.Joined
import Derived.Stop.LaidErr
import Derived.Lib.Bytealg
import Derived.Deep.QuietTactic
import Derived.BigQuiet
import Derived.MapKept
import Derived.ChangeMaps5
import Derived.Laws.StructEq
set_option linter.unusedSimpArgs false
set_option linter.unusedVariables false
namespace Go.Proofs.YtffmjghcpgpfpaaGreatDoor
open Go.RowKit
theorem okRow_Decl {r:List C} (h:okRow (fieldsOf .decl) r):∃ (r0:List (List C)) (i1:Int),r=[.sl r0,.lit (.int .i64 i1)]∧okRows (fieldsOf .int) r0∧I64 i1:=by
 obtain ⟨c0,c1,rfl⟩:=len2 h.len
 simp only [fieldsOf,termF,occF,sortsF,sigF,moduleF,algF,List.cons_append,List.nil_append,okRow,and_true] at h
 obtain ⟨h0,h1⟩:=h
 obtain ⟨r0,rfl,g0⟩:=okC_sl h0
 obtain ⟨i1,rfl,g1⟩:=okC_int h1
 exact ⟨r0,i1,rfl,g0,g1⟩
theorem repVals_Decl {w:World} {S:Nat->Prop} {r0:List (List C)} {i1:Int} {us:List Value} (h:RepVals w S [.sl r0,.lit (.int .i64 i1)] us):∃ v0,us=[v0,.int .i64 i1]∧Rep w S (.sl r0) v0:=by
 obtain ⟨u0,u1,rfl⟩:=len2 h.len
 simp only [RepVals,Rep.lit_iff,and_true] at h
 obtain ⟨e0,rfl⟩:=h
 exact ⟨u0,rfl,e0⟩
def szDeclC (row:List C):Prop:=∀ (S:Nat->Prop) (us:List Value) (left:Int) (w:World),okRow (fieldsOf .decl) row->RepVals w S row us->0<=left->left<=1048576 ->
 Calls Tryz.prog 216 #[.agg us.toArray,.int .i64 left] w fun e w'=>e=.returned (.int .i64 (sub left (bulkRow row)))∧Below w.heap.size w w'
def eqDeclC (row:List C):Prop:=∀ (S S':Nat->Prop) (us us':List Value) (w:World),okRow (fieldsOf .decl) row->RepVals w S row us->RepVals w S' row us' ->
 Calls Tryz.prog 230 #[.agg us.toArray,.agg us'.toArray] w fun e w'=>e=.returned (.bool true)∧Below w.heap.size w w'
def toDeclC (row:List C):Prop:=∀ (S:Nat->Prop) (us:List Value) (w:World),okRow (fieldsOf .decl) row->RepVals w S row us->bulkRow row<=1048576 ->
 Calls Tryz.prog 220 #[.agg us.toArray] w fun e w'=>∃ us':List Value,e=.returned (.agg us'.toArray)∧OwnVals w' row (fun x=>w.heap.size<=x∧x < w'.heap.size) us'∧Below w.heap.size w w'
def szDeclSC (rows:List (List C)):Prop:=∀ (S:Nat->Prop) (v:Value) (left:Int) (w:World),okRows (fieldsOf .decl) rows->Rep w S (.sl rows) v->0<=left->left<=1048576 ->
 Calls Tryz.prog 148 #[v,.int .i64 left] w fun e w'=>e=.returned (.int .i64 (sub left (rows.length+bulkRows rows)))∧Below w.heap.size w w'
def eqDeclSC (rows:List (List C)):Prop:=∀ (S S':Nat->Prop) (v v':Value) (w:World),okRows (fieldsOf .decl) rows->Rep w S (.sl rows) v->Rep w S' (.sl rows) v' ->
 Calls Tryz.prog 173 #[v,v'] w fun e w'=>e=.returned (.bool true)∧Below w.heap.size w w'
def toDeclSC (rows:List (List C)):Prop:=∀ (S:Nat->Prop) (v:Value) (w:World),okRows (fieldsOf .decl) rows->Rep w S (.sl rows) v->rows.length+bulkRows rows<=1048576 ->
 Calls Tryz.prog 159 #[v] w fun e w'=>∃ v',e=.returned v'∧Own w' (.sl rows) (fun x=>w.heap.size<=x∧x < w'.heap.size) v'∧Below w.heap.size w w'
set_option maxHeartbeats 1000000 in
theorem szDecl_of (row:List C):szDeclC row:=by
 intro S us left w hok hv h0 h1
 obtain ⟨r0,i1,rfl,g0,g1⟩:=okRow_Decl hok
 obtain ⟨v0,rfl,e0⟩:=repVals_Decl hv
 have HC0:=Lib.hid (szIntS_any r0)
 have HB:=Lib.hid (show bulkRow [.sl r0,.lit (.int .i64 i1)]=(r0.length+bulkRows r0) from by simp only [bulkRow,bulkC];omega)
 have G0:=Lib.hid g0
 have G1:=Lib.hid g1
 clear g0 g1 hok
 have E0:=Lib.hid e0
 clear hv e0
 generalize hrow:bulkRow [.sl r0,.lit (.int .i64 i1)]=total at HB ⊢
 clear hrow
 have hbw:=(Below.refl w.heap.size w).alloc (Nat.le_refl _) (.cells #[v0,.int .i64 i1] 239)
 go_enter Tryz.func216,Tryz.ntmps216
 go_wp2_with fail
 by_cases q0:left < ((r0.length+bulkRows r0):Nat)
 ·refine (HC0.out S _ _ _ G0.out (E0.out.below hbw) (by omega) (by omega)).mono ?_
  rw [sub_neg (by omega)]
  rintro e w1 ⟨rfl,hb1⟩
  go_wp2
  go_ret
  exact ⟨ret_int (a:=-1) (sub_neg (by have:=HB.out;omega)).symm,hbw.trans (hb1.mono hbw.size)⟩
 refine (HC0.out S _ _ _ G0.out (E0.out.below hbw) (by omega) (by omega)).mono ?_
 rw [sub_pos (by omega)]
 rintro e w1 ⟨rfl,hb1⟩
 obtain ⟨hc1,hf1⟩:=bcell hb1
 have hz1:w.heap.size < w1.heap.size:=(by have:=hb1.size;(try simp at this);omega)
 replace hbw:=hbw.trans (hb1.mono hbw.size)
 go_wp2
 go_ret
 exact ⟨ret_int (by have:=HB.out;rw [sub_pos (by omega)];omega),hbw⟩
set_option maxHeartbeats 1000000 in
theorem eqDecl_of (row:List C):eqDeclC row:=by
 intro S S' us us' w hok hv hv'
 obtain ⟨r0,i1,rfl,g0,g1⟩:=okRow_Decl hok
 obtain ⟨v0,rfl,e0⟩:=repVals_Decl hv
 obtain ⟨x0,rfl,d0⟩:=repVals_Decl hv'
 have HC0:=Lib.hid (eqIntS_any r0)
 have G0:=Lib.hid g0
 have G1:=Lib.hid g1
 clear g0 g1 hok
 have E0:=Lib.hid e0
 have D0:=Lib.hid d0
 clear hv hv' e0 d0
 have hbw:=((Below.refl w.heap.size w).alloc (Nat.le_refl _) (.cells #[v0,.int .i64 i1] 199)).alloc (by simp) (.cells #[x0,.int .i64 i1] 199)
 go_enter Tryz.func230,Tryz.ntmps230
 go_wp2_with fail
 refine (HC0.out S S' _ _ _ G0.out (E0.out.below hbw) (D0.out.below hbw)).mono ?_
 rintro e w1 ⟨rfl,hb1⟩
 obtain ⟨hc1,hf1⟩:=bcell hb1
 have hz1:w.heap.size+1 < w1.heap.size:=(by have:=hb1.size;(try simp at this);omega)
 have ha1:w.heap.size < w1.heap.size:=by omega
 replace hbw:=hbw.trans (hb1.mono hbw.size)
 go_wp2
 go_ret
 exact ⟨rfl,hbw⟩
set_option maxHeartbeats 2000000 in
theorem toDecl_of (row:List C):toDeclC row:=by
 intro S us w hok hv hlen
 obtain ⟨r0,i1,rfl,g0,g1⟩:=okRow_Decl hok
 obtain ⟨v0,rfl,e0⟩:=repVals_Decl hv
 have HC0:=Lib.hid (toIntS_any r0)
 have G0:=Lib.hid g0
 have G1:=Lib.hid g1
 clear g0 g1 hok
 have E0:=Lib.hid e0
 clear hv e0
 have hl0:(r0.length+bulkRows r0)<=1048576:=by
  have e:(r0.length+bulkRows r0)<=bulkRow [.sl r0,.lit (.int .i64 i1)]:=by simp only [bulkRow,bulkC];omega
  exact Nat.le_trans e hlen
 clear hlen
 go_enter Tryz.func220,Tryz.ntmps220
 go_wp2_with fail
 refine (HC0.out S _ _ G0.out (by exact E0.out.below (by repeat (first | refine Below.alloc ?_ (by simp;try omega) _ | exact Below.refl _ _))) hl0).mono ?_
 rintro e w1 ⟨y0,rfl,hown0,hb1⟩
 obtain ⟨A0,n0,cap0,rfl,_,_,_⟩:=(Own.rep _ _ _ hown0).form
 have hz1:=hb1.size
 simp at hz1 hown0
 have HOWN0:=Lib.hid hown0
 clear hown0
 have hbw1:Below w.heap.size w w1:=Below.trans (by repeat (first | refine Below.alloc ?_ (by simp;try omega) _ | exact Below.refl _ _)) (hb1.mono (by simp;try omega))
 obtain ⟨hc1,hf1⟩:=bcell hb1
 have ha1:w.heap.size < w1.heap.size:=by omega
 have hbb1:w.heap.size+1 < w1.heap.size:=by omega
 have hcc1:w.heap.size+1+1 < w1.heap.size:=by omega
 go_wp2
 refine bodyPost_ret (v:=.agg #[.slice A0 n0 cap0,.int .i64 i1]) (by simp [results,Tryz.results220,go_sem,hc1,ha1,hbb1,hcc1]) rfl ⟨[.slice A0 n0 cap0,.int .i64 i1],rfl,?_,(by repeat (first | refine Below.setCell ?_ (by simp;try omega) _ | exact hbw1))⟩
 simp
 exact (OwnVals.cons (fun x=>w.heap.size+1+1+1<=x∧x < w1.heap.size) (fun x=>w1.heap.size<=x∧x < w1.heap.size) (HOWN0.out.same (by repeat (first | refine Same.trans ?_ (Same.setCell _ _ _ _ (by simp;try omega)) | exact Same.refl _ _))) (OwnVals.lit OwnVals.nil) (fun x hx=>⟨by omega,by omega⟩) (fun x hx=>⟨by omega,by omega⟩) (fun x hx hy=>by omega))
theorem szDecl_any (row:List C):szDeclC row:=szDecl_of row
theorem eqDecl_any (row:List C):eqDeclC row:=eqDecl_of row
theorem toDecl_any (row:List C):toDeclC row:=toDecl_of row
set_option maxHeartbeats 1000000 in
theorem szDeclS_of (rows:List (List C)) (h:∀ (i:Nat) r,rows[i]?=some r->szDeclC r):szDeclSC rows:=by
 intro S v left w hok hv h0 h1
 obtain ⟨A,m,cap,rfl,hm,hmc,hcm⟩:=hv.form
 have H:=Lib.hid h
 have HV:=Lib.hid hv
 have HM:=Lib.hid hm
 have HOK:=Lib.hid hok
 clear h hv hm hok
 unfold maxLen at hcm
 by_cases hlt:left - m < 0
 ·rw [sub_neg (by have:=HM.out;omega)]
  go_enter Tryz.func148,Tryz.ntmps148
  go_wp2
  go_ret
  exact ⟨rfl,Below.refl _ _⟩
 ·go_enter Tryz.func148,Tryz.ntmps148
  go_wp2
  go_loopw [1,5] (fun l i wr=>∃ k:Nat,k<=m∧i=.int .i64 k∧l=.int .i64 (left - m - (bulkRows (rows.take k):Int))∧0<=left - m - (bulkRows (rows.take k):Int)∧Below w.heap.size w wr) (fun _ i _=>m - (intOf i).toNat)
  case atStart=>exact ⟨0,Nat.zero_le _,rfl,by simp [bulkRows],by simp [bulkRows];omega,Below.refl _ _⟩
  case round =>
   obtain ⟨k,hk,rfl,rfl,hl0,hb⟩:=hrel
   by_cases hkm:k < m
   ·obtain ⟨b,off,r,rfl,hS,hbz,hget,hokr,hrow⟩:=(HV.out.below hb).get HOK.out hkm
    obtain ⟨u0,u1,c0,c1,hvals⟩:=hrow.vals2 hokr.len
    have HT:=H.out k r hget
    have HVALS:=Lib.hid hvals
    have HOKR:=Lib.hid hokr
    have HBT:=Lib.hid (bulk_take hget)
    have hle:=bulk_take_le rows (k+1)
    clear hvals hokr hrow hget
    simp only [fieldsOf,termF,occF,sortsF,sigF,moduleF,algF,List.cons_append,List.nil_append,List.length_cons,List.length_nil,Nat.reduceAdd,Nat.mul_one] at c0 c1
    by_cases h2:left - m - (bulkRows (rows.take k):Int) < bulkRow r
    ·go_wp2_with fail
     refine (HT S _ _ _ HOKR.out HVALS.out (by omega) (by omega)).mono ?_
     rw [sub_neg h2]
     rintro e w' ⟨rfl,hb2⟩
     go_wp2
     go_ret
     exact ⟨ret_int (a:=-1) (sub_neg (by have:=HBT.out;have:=HM.out;omega)).symm,hb.trans (hb2.mono hb.size)⟩
    ·go_wp2_with fail
     refine (HT S _ _ _ HOKR.out HVALS.out (by omega) (by omega)).mono ?_
     rw [sub_pos (by omega)]
     rintro e w' ⟨rfl,hb2⟩
     go_wp2
     go_roundw
     case rel=>exact ⟨k+1,by omega,by go_num,by have:=HBT.out;congr 1;omega,by have:=HBT.out;omega,hb.trans (hb2.mono hb.size)⟩
     case measure=>simp [intOf];omega
   ·go_wp2
    go_ret
    have e:k=m:=by omega
    subst e
    have:rows.take k=rows:=List.take_of_length_le (by have:=HM.out;omega)
    rw [this] at hl0 ⊢
    exact ⟨ret_int (by have:=HM.out;rw [sub_pos (by omega)];omega),hb⟩
set_option maxHeartbeats 1000000 in
theorem eqDeclS_of (rows:List (List C)) (h:∀ (i:Nat) r,rows[i]?=some r->eqDeclC r):eqDeclSC rows:=by
 intro S S' v v' w hok hv hv'
 obtain ⟨A,m,cap,rfl,hm,hmc,hcm⟩:=hv.form
 obtain ⟨A',m',cap',rfl,hm',hmc',hcm'⟩:=hv'.form
 obtain rfl:m=m':=by omega
 have H:=Lib.hid h
 have HV:=Lib.hid hv
 have HV':=Lib.hid hv'
 have HM:=Lib.hid hm
 have HOK:=Lib.hid hok
 clear h hv hm hok hm' hv'
 unfold maxLen at hcm hcm'
 go_enter Tryz.func173,Tryz.ntmps173
 go_wp2
 go_loopw [5] (fun i wr=>∃ k:Nat,k<=m∧i=.int .i64 k∧Below w.heap.size w wr) (fun i _=>m - (intOf i).toNat)
 case atStart=>exact ⟨0,Nat.zero_le _,rfl,Below.refl _ _⟩
 case round =>
  obtain ⟨k,hk,rfl,hb⟩:=hrel
  by_cases hkm:k < m
  ·obtain ⟨b,off,r,rfl,hS,hbz,hget,hokr,hrow⟩:=(HV.out.below hb).get HOK.out hkm
   obtain ⟨b',off',r',rfl,hS',hbz',hget',hokr',hrow'⟩:=(HV'.out.below hb).get HOK.out hkm
   obtain rfl:r=r':=by rw [hget] at hget';exact Option.some.inj hget'
   obtain ⟨u0,u1,c0,c1,hvals⟩:=hrow.vals2 hokr.len
   obtain ⟨x0,x1,d0,d1,hvals'⟩:=hrow'.vals2 hokr.len
   have HT:=H.out k r hget
   have HVALS:=Lib.hid hvals
   have HVALS':=Lib.hid hvals'
   have HOKR:=Lib.hid hokr
   clear hvals hvals' hokr hokr' hrow hrow' hget hget'
   simp only [fieldsOf,termF,occF,sortsF,sigF,moduleF,algF,List.cons_append,List.nil_append,List.length_cons,List.length_nil,Nat.reduceAdd,Nat.mul_one] at c0 c1 d0 d1
   have k0:(0:Int)<=(k:Int):=by omega
   have k1:(k:Int) < (m:Int):=by omega
   go_wp2_with fail
   go_region_held3 (fun w'=>∀ b o,b < wr.heap.size->w'.cell? ⟨b,o,none⟩=wr.cell? ⟨b,o,none⟩) (first | go_keep | exact fun b o h=>hb2.cell (p:=⟨b,o,none⟩) h) (first | (go_at_call 230;refine (HT S S' _ _ _ HOKR.out (HVALS.out.below (Below.refl _ _).drew) (HVALS'.out.below (Below.refl _ _).drew)).mono ?_;rintro e w' ⟨rfl,hb2⟩))
   go_wp2
   go_roundw
   case rel=>exact ⟨k+1,by omega,by go_num,hb.trans ((Below.refl _ _).drew.trans (hb2.mono hb.size))⟩
   case measure=>simp [intOf];omega
  ·go_wp2
   go_ret
   exact ⟨rfl,hb⟩
theorem info_Decl:(Tryz.prog.info? 199).map (fun i=>(i.zero,i.size,i.bytes))=some (some (.agg #[.slice none 0 0,.int .i64 0]),2,32):=by kernel_rfl
set_option maxHeartbeats 1000000 in
theorem toDeclS_of (rows:List (List C)) (h:∀ (i:Nat) r,rows[i]?=some r->toDeclC r):toDeclSC rows:=by
 intro S v w hok hv hlen
 obtain ⟨A,m,cap,rfl,hm,hmc,hcm⟩:=hv.form
 obtain ⟨i0,hi,hz0,hz1,hz2⟩:=info_parts info_Decl
 have H:=Lib.hid h
 have HV:=Lib.hid hv
 have HM:=Lib.hid hm
 have HOK:=Lib.hid hok
 have hml:m<=1048576:=by omega
 clear h hv hm hok
 unfold maxLen at hcm
 have hmk:=run_make (P:=Tryz.prog) w 135 199 i0 _ Tryz.underlying135 hi hz0 .i64 .i64 (m:Int) (m:Int) (by omega) (by omega) (by rw [hz2];omega) (by omega)
 go_enter Tryz.func159,Tryz.ntmps159
 go_wp2
 clear hmk
 go_loopw [4] (fun i wr=>∃ k:Nat,k<=m∧i=.int .i64 k∧Filling w w.heap.size 199 m 2 rows k wr) (fun i _=>m - (intOf i).toNat)
 case atStart=>exact ⟨0,Nat.zero_le _,rfl,Filling.start (size_madeCells _ _)⟩
 case round =>
  obtain ⟨k,hk,rfl,hfill⟩:=hrel
  have hb:=hfill.1
  by_cases hkm:k < m
  ·obtain ⟨b,off,r,rfl,hS,hbz,hget,hokr,hrow⟩:=(HV.out.below hb).get HOK.out hkm
   obtain ⟨u0,u1,c0,c1,hvals⟩:=hrow.vals2 hokr.len
   have HT:=H.out k r hget
   have HVALS:=Lib.hid hvals
   have HOKR:=Lib.hid hokr
   have HGET:=Lib.hid hget
   have HF:=Lib.hid hfill
   have hbg:=bulk_get hget
   clear hvals hokr hrow hget hfill
   simp only [fieldsOf,termF,occF,sortsF,sigF,moduleF,algF,List.cons_append,List.nil_append,List.length_cons,List.length_nil,Nat.reduceAdd,Nat.mul_one] at c0 c1
   go_wp2_with fail
   refine (HT S _ _ HOKR.out HVALS.out (by omega)).mono ?_
   rintro e w2 ⟨us,rfl,hown,hb2⟩
   have hone:=HOKR.out.one (OwnVals.rep _ _ (fun _=>True) _ (fun _ _=>trivial) hown)
   obtain ⟨y0,y1,rfl⟩:=len2 (hown.len.trans HOKR.out.len)
   have HOWN:=Lib.hid hown
   have HONE:=Lib.hid hone
   obtain ⟨cur,hcur,hcs⟩:=HF.out.row hb2
   have HCUR:=Lib.hid hcur
   have HCS:=Lib.hid hcs
   clear hown hone hcur hcs
   go_wp2_with (refine wpList_store_put rfl 199 _ _ rfl w.heap.size (k * 2) rfl [y0,y1] rfl i0 hi hz1 199 cur HCUR.out (by have:=HCS.out;simp only [List.length_cons,List.length_nil];omega) HONE.out ?_;intro w3 hput)
   go_roundw
   case rel=>exact ⟨k+1,by omega,by go_num,HF.out.step (fs:=fieldsOf .decl) HOK.out HGET.out hb2 HOWN.out hput⟩
   case measure=>simp [intOf];omega
  ·go_wp2
   go_ret
   have e:k=m:=by omega
   subst e
   exact ⟨_,rfl,hfill.done HM.out (by unfold maxLen;omega) (by decide) HOK.out.lens⟩
theorem szDeclS_any (rows:List (List C)):szDeclSC rows:=szDeclS_of rows (fun _ r _=>szDecl_any r)
theorem eqDeclS_any (rows:List (List C)):eqDeclSC rows:=eqDeclS_of rows (fun _ r _=>eqDecl_any r)
theorem toDeclS_any (rows:List (List C)):toDeclSC rows:=toDeclS_of rows (fun _ r _=>toDecl_any r)
end Go.Proofs.YtffmjghcpgpfpaaGreatDoor
namespace Go.Proofs.YtffmjghcpgpfpaaGreatDoor
open Go.RowKit
theorem okRow_Op {r:List C} (h:okRow (fieldsOf .op) r):∃ (t0:ByteArray) (r1:List (List C)) (p2:Bool) (p3:Bool) (i4:Int),r=[.lit (.string t0),.sl r1,.lit (.bool p2),.lit (.bool p3),.lit (.int .i64 i4)]∧t0.size<=maxLen∧okRows (fieldsOf .decl) r1∧True∧True∧I64 i4:=by
 obtain ⟨c0,c1,c2,c3,c4,rfl⟩:=len5 h.len
 simp only [fieldsOf,termF,occF,sortsF,sigF,moduleF,algF,List.cons_append,List.nil_append,okRow,and_true] at h
 obtain ⟨h0,h1,h2,h3,h4⟩:=h
 obtain ⟨t0,rfl,g0⟩:=okC_str h0
 obtain ⟨r1,rfl,g1⟩:=okC_sl h1
 obtain ⟨p2,rfl⟩:=okC_bool h2
 obtain ⟨p3,rfl⟩:=okC_bool h3
 obtain ⟨i4,rfl,g4⟩:=okC_int h4
 exact ⟨t0,r1,p2,p3,i4,rfl,g0,g1,trivial,trivial,g4⟩
theorem repVals_Op {w:World} {S:Nat->Prop} {t0:ByteArray} {r1:List (List C)} {p2:Bool} {p3:Bool} {i4:Int} {us:List Value} (h:RepVals w S [.lit (.string t0),.sl r1,.lit (.bool p2),.lit (.bool p3),.lit (.int .i64 i4)] us):∃ v1,us=[.string t0,v1,.bool p2,.bool p3,.int .i64 i4]∧Rep w S (.sl r1) v1:=by
 obtain ⟨u0,u1,u2,u3,u4,rfl⟩:=len5 h.len
 simp only [RepVals,Rep.lit_iff,and_true] at h
 obtain ⟨rfl,e1,rfl,rfl,rfl⟩:=h
 exact ⟨u1,rfl,e1⟩
def szOpC (row:List C):Prop:=∀ (S:Nat->Prop) (us:List Value) (left:Int) (w:World),okRow (fieldsOf .op) row->RepVals w S row us->0<=left->left<=1048576 ->
 Calls Tryz.prog 93 #[.agg us.toArray,.int .i64 left] w fun e w'=>e=.returned (.int .i64 (sub left (bulkRow row)))∧Below w.heap.size w w'
def eqOpC (row:List C):Prop:=∀ (S S':Nat->Prop) (us us':List Value) (w:World),okRow (fieldsOf .op) row->RepVals w S row us->RepVals w S' row us' ->
 Calls Tryz.prog 113 #[.agg us.toArray,.agg us'.toArray] w fun e w'=>e=.returned (.bool true)∧Below w.heap.size w w'
def toOpC (row:List C):Prop:=∀ (S:Nat->Prop) (us:List Value) (w:World),okRow (fieldsOf .op) row->RepVals w S row us->bulkRow row<=1048576 ->
 Calls Tryz.prog 102 #[.agg us.toArray] w fun e w'=>∃ us':List Value,e=.returned (.agg us'.toArray)∧OwnVals w' row (fun x=>w.heap.size<=x∧x < w'.heap.size) us'∧Below w.heap.size w w'
def szOpSC (rows:List (List C)):Prop:=∀ (S:Nat->Prop) (v:Value) (left:Int) (w:World),okRows (fieldsOf .op) rows->Rep w S (.sl rows) v->0<=left->left<=1048576 ->
 Calls Tryz.prog 41 #[v,.int .i64 left] w fun e w'=>e=.returned (.int .i64 (sub left (rows.length+bulkRows rows)))∧Below w.heap.size w w'
def eqOpSC (rows:List (List C)):Prop:=∀ (S S':Nat->Prop) (v v':Value) (w:World),okRows (fieldsOf .op) rows->Rep w S (.sl rows) v->Rep w S' (.sl rows) v' ->
 Calls Tryz.prog 55 #[v,v'] w fun e w'=>e=.returned (.bool true)∧Below w.heap.size w w'
def toOpSC (rows:List (List C)):Prop:=∀ (S:Nat->Prop) (v:Value) (w:World),okRows (fieldsOf .op) rows->Rep w S (.sl rows) v->rows.length+bulkRows rows<=1048576 ->
 Calls Tryz.prog 47 #[v] w fun e w'=>∃ v',e=.returned v'∧Own w' (.sl rows) (fun x=>w.heap.size<=x∧x < w'.heap.size) v'∧Below w.heap.size w w'
set_option maxHeartbeats 1000000 in
theorem szOp_of (row:List C):szOpC row:=by
 intro S us left w hok hv h0 h1
 obtain ⟨t0,r1,p2,p3,i4,rfl,g0,g1,_,_,g4⟩:=okRow_Op hok
 obtain ⟨v1,rfl,e1⟩:=repVals_Op hv
 have HC1:=Lib.hid (szDeclS_any r1)
 have HB:=Lib.hid (show bulkRow [.lit (.string t0),.sl r1,.lit (.bool p2),.lit (.bool p3),.lit (.int .i64 i4)]=t0.size+(r1.length+bulkRows r1) from by simp only [bulkRow,bulkC];omega)
 have hs0:=g0
 unfold maxLen at hs0
 have G0:=Lib.hid g0
 have G1:=Lib.hid g1
 have G4:=Lib.hid g4
 clear g0 g1 g4 hok
 have E1:=Lib.hid e1
 clear hv e1
 generalize hrow:bulkRow [.lit (.string t0),.sl r1,.lit (.bool p2),.lit (.bool p3),.lit (.int .i64 i4)]=total at HB ⊢
 clear hrow
 have hbw:=(Below.refl w.heap.size w).alloc (Nat.le_refl _) (.cells #[.string t0,v1,.bool p2,.bool p3,.int .i64 i4] 134)
 by_cases q0:left - (t0.size:Int) < 0
 ·go_enter Tryz.func93,Tryz.ntmps93
  go_wp2
  go_ret
  exact ⟨ret_int (a:=-1) (sub_neg (by have:=HB.out;omega)).symm,hbw⟩
 go_enter Tryz.func93,Tryz.ntmps93
 go_wp2_with fail
 by_cases q1:(left - (t0.size:Int)) < ((r1.length+bulkRows r1):Nat)
 ·refine (HC1.out S _ _ _ G1.out (E1.out.below hbw) (by omega) (by omega)).mono ?_
  rw [sub_neg (by omega)]
  rintro e w1 ⟨rfl,hb1⟩
  go_wp2
  go_ret
  exact ⟨ret_int (a:=-1) (sub_neg (by have:=HB.out;omega)).symm,hbw.trans (hb1.mono hbw.size)⟩
 refine (HC1.out S _ _ _ G1.out (E1.out.below hbw) (by omega) (by omega)).mono ?_
 rw [sub_pos (by omega)]
 rintro e w1 ⟨rfl,hb1⟩
 obtain ⟨hc1,hf1⟩:=bcell hb1
 have hz1:w.heap.size < w1.heap.size:=(by have:=hb1.size;(try simp at this);omega)
 replace hbw:=hbw.trans (hb1.mono hbw.size)
 go_wp2
 go_ret
 exact ⟨ret_int (by have:=HB.out;rw [sub_pos (by omega)];omega),hbw⟩
set_option maxHeartbeats 1000000 in
theorem eqOp_of (row:List C):eqOpC row:=by
 intro S S' us us' w hok hv hv'
 obtain ⟨t0,r1,p2,p3,i4,rfl,g0,g1,_,_,g4⟩:=okRow_Op hok
 obtain ⟨v1,rfl,e1⟩:=repVals_Op hv
 obtain ⟨x1,rfl,d1⟩:=repVals_Op hv'
 have HC1:=Lib.hid (eqDeclS_any r1)
 have G0:=Lib.hid g0
 have G1:=Lib.hid g1
 have G4:=Lib.hid g4
 clear g0 g1 g4 hok
 have E1:=Lib.hid e1
 have D1:=Lib.hid d1
 clear hv hv' e1 d1
 have hbw:=((Below.refl w.heap.size w).alloc (Nat.le_refl _) (.cells #[.string t0,v1,.bool p2,.bool p3,.int .i64 i4] 137)).alloc (by simp) (.cells #[.string t0,x1,.bool p2,.bool p3,.int .i64 i4] 137)
 go_enter Tryz.func113,Tryz.ntmps113
 go_wp2_with fail
 refine (HC1.out S S' _ _ _ G1.out (E1.out.below hbw) (D1.out.below hbw)).mono ?_
 rintro e w1 ⟨rfl,hb1⟩
 obtain ⟨hc1,hf1⟩:=bcell hb1
 have hz1:w.heap.size+1 < w1.heap.size:=(by have:=hb1.size;(try simp at this);omega)
 have ha1:w.heap.size < w1.heap.size:=by omega
 replace hbw:=hbw.trans (hb1.mono hbw.size)
 go_wp2
 go_ret
 exact ⟨rfl,hbw⟩
set_option maxHeartbeats 2000000 in
theorem toOp_of (row:List C):toOpC row:=by
 intro S us w hok hv hlen
 obtain ⟨t0,r1,p2,p3,i4,rfl,g0,g1,_,_,g4⟩:=okRow_Op hok
 obtain ⟨v1,rfl,e1⟩:=repVals_Op hv
 have HC1:=Lib.hid (toDeclS_any r1)
 have G0:=Lib.hid g0
 have G1:=Lib.hid g1
 have G4:=Lib.hid g4
 clear g0 g1 g4 hok
 have E1:=Lib.hid e1
 clear hv e1
 have hl1:(r1.length+bulkRows r1)<=1048576:=by
  have e:(r1.length+bulkRows r1)<=bulkRow [.lit (.string t0),.sl r1,.lit (.bool p2),.lit (.bool p3),.lit (.int .i64 i4)]:=by simp only [bulkRow,bulkC];omega
  exact Nat.le_trans e hlen
 clear hlen
 go_enter Tryz.func102,Tryz.ntmps102
 go_wp2_with fail
 refine (HC1.out S _ _ G1.out (by exact E1.out.below (by repeat (first | refine Below.alloc ?_ (by simp;try omega) _ | exact Below.refl _ _))) hl1).mono ?_
 rintro e w1 ⟨y1,rfl,hown1,hb1⟩
 obtain ⟨A1,n1,cap1,rfl,_,_,_⟩:=(Own.rep _ _ _ hown1).form
 have hz1:=hb1.size
 simp at hz1 hown1
 have HOWN1:=Lib.hid hown1
 clear hown1
 have hbw1:Below w.heap.size w w1:=Below.trans (by repeat (first | refine Below.alloc ?_ (by simp;try omega) _ | exact Below.refl _ _)) (hb1.mono (by simp;try omega))
 obtain ⟨hc1,hf1⟩:=bcell hb1
 have ha1:w.heap.size < w1.heap.size:=by omega
 have hbb1:w.heap.size+1 < w1.heap.size:=by omega
 have hcc1:w.heap.size+1+1 < w1.heap.size:=by omega
 go_wp2
 refine bodyPost_ret (v:=.agg #[.string t0,.slice A1 n1 cap1,.bool p2,.bool p3,.int .i64 i4]) (by simp [results,Tryz.results102,go_sem,hc1,ha1,hbb1,hcc1]) rfl ⟨[.string t0,.slice A1 n1 cap1,.bool p2,.bool p3,.int .i64 i4],rfl,?_,(by repeat (first | refine Below.setCell ?_ (by simp;try omega) _ | exact hbw1))⟩
 simp
 exact (OwnVals.lit (OwnVals.cons (fun x=>w.heap.size+1+1+1<=x∧x < w1.heap.size) (fun x=>w1.heap.size<=x∧x < w1.heap.size) (HOWN1.out.same (by repeat (first | refine Same.trans ?_ (Same.setCell _ _ _ _ (by simp;try omega)) | exact Same.refl _ _))) (OwnVals.lit (OwnVals.lit (OwnVals.lit OwnVals.nil))) (fun x hx=>⟨by omega,by omega⟩) (fun x hx=>⟨by omega,by omega⟩) (fun x hx hy=>by omega)))
theorem szOp_any (row:List C):szOpC row:=szOp_of row
theorem eqOp_any (row:List C):eqOpC row:=eqOp_of row
theorem toOp_any (row:List C):toOpC row:=toOp_of row
set_option maxHeartbeats 1000000 in
theorem szOpS_of (rows:List (List C)) (h:∀ (i:Nat) r,rows[i]?=some r->szOpC r):szOpSC rows:=by
 intro S v left w hok hv h0 h1
 obtain ⟨A,m,cap,rfl,hm,hmc,hcm⟩:=hv.form
 have H:=Lib.hid h
 have HV:=Lib.hid hv
 have HM:=Lib.hid hm
 have HOK:=Lib.hid hok
 clear h hv hm hok
 unfold maxLen at hcm
 by_cases hlt:left - m < 0
 ·rw [sub_neg (by have:=HM.out;omega)]
  go_enter Tryz.func41,Tryz.ntmps41
  go_wp2
  go_ret
  exact ⟨rfl,Below.refl _ _⟩
 ·go_enter Tryz.func41,Tryz.ntmps41
  go_wp2
  go_loopw [1,5] (fun l i wr=>∃ k:Nat,k<=m∧i=.int .i64 k∧l=.int .i64 (left - m - (bulkRows (rows.take k):Int))∧0<=left - m - (bulkRows (rows.take k):Int)∧Below w.heap.size w wr) (fun _ i _=>m - (intOf i).toNat)
  case atStart=>exact ⟨0,Nat.zero_le _,rfl,by simp [bulkRows],by simp [bulkRows];omega,Below.refl _ _⟩
  case round =>
   obtain ⟨k,hk,rfl,rfl,hl0,hb⟩:=hrel
   by_cases hkm:k < m
   ·obtain ⟨b,off,r,rfl,hS,hbz,hget,hokr,hrow⟩:=(HV.out.below hb).get HOK.out hkm
    obtain ⟨u0,u1,u2,u3,u4,c0,c1,c2,c3,c4,hvals⟩:=hrow.vals5 hokr.len
    have HT:=H.out k r hget
    have HVALS:=Lib.hid hvals
    have HOKR:=Lib.hid hokr
    have HBT:=Lib.hid (bulk_take hget)
    have hle:=bulk_take_le rows (k+1)
    clear hvals hokr hrow hget
    simp only [fieldsOf,termF,occF,sortsF,sigF,moduleF,algF,List.cons_append,List.nil_append,List.length_cons,List.length_nil,Nat.reduceAdd,Nat.mul_one] at c0 c1 c2 c3 c4
    by_cases h2:left - m - (bulkRows (rows.take k):Int) < bulkRow r
    ·go_wp2_with fail
     refine (HT S _ _ _ HOKR.out HVALS.out (by omega) (by omega)).mono ?_
     rw [sub_neg h2]
     rintro e w' ⟨rfl,hb2⟩
     go_wp2
     go_ret
     exact ⟨ret_int (a:=-1) (sub_neg (by have:=HBT.out;have:=HM.out;omega)).symm,hb.trans (hb2.mono hb.size)⟩
    ·go_wp2_with fail
     refine (HT S _ _ _ HOKR.out HVALS.out (by omega) (by omega)).mono ?_
     rw [sub_pos (by omega)]
     rintro e w' ⟨rfl,hb2⟩
     go_wp2
     go_roundw
     case rel=>exact ⟨k+1,by omega,by go_num,by have:=HBT.out;congr 1;omega,by have:=HBT.out;omega,hb.trans (hb2.mono hb.size)⟩
     case measure=>simp [intOf];omega
   ·go_wp2
    go_ret
    have e:k=m:=by omega
    subst e
    have:rows.take k=rows:=List.take_of_length_le (by have:=HM.out;omega)
    rw [this] at hl0 ⊢
    exact ⟨ret_int (by have:=HM.out;rw [sub_pos (by omega)];omega),hb⟩
set_option maxHeartbeats 1000000 in
theorem eqOpS_of (rows:List (List C)) (h:∀ (i:Nat) r,rows[i]?=some r->eqOpC r):eqOpSC rows:=by
 intro S S' v v' w hok hv hv'
 obtain ⟨A,m,cap,rfl,hm,hmc,hcm⟩:=hv.form
 obtain ⟨A',m',cap',rfl,hm',hmc',hcm'⟩:=hv'.form
 obtain rfl:m=m':=by omega
 have H:=Lib.hid h
 have HV:=Lib.hid hv
 have HV':=Lib.hid hv'
 have HM:=Lib.hid hm
 have HOK:=Lib.hid hok
 clear h hv hm hok hm' hv'
 unfold maxLen at hcm hcm'
 go_enter Tryz.func55,Tryz.ntmps55
 go_wp2
 go_loopw [5] (fun i wr=>∃ k:Nat,k<=m∧i=.int .i64 k∧Below w.heap.size w wr) (fun i _=>m - (intOf i).toNat)
 case atStart=>exact ⟨0,Nat.zero_le _,rfl,Below.refl _ _⟩
 case round =>
  obtain ⟨k,hk,rfl,hb⟩:=hrel
  by_cases hkm:k < m
  ·obtain ⟨b,off,r,rfl,hS,hbz,hget,hokr,hrow⟩:=(HV.out.below hb).get HOK.out hkm
   obtain ⟨b',off',r',rfl,hS',hbz',hget',hokr',hrow'⟩:=(HV'.out.below hb).get HOK.out hkm
   obtain rfl:r=r':=by rw [hget] at hget';exact Option.some.inj hget'
   obtain ⟨u0,u1,u2,u3,u4,c0,c1,c2,c3,c4,hvals⟩:=hrow.vals5 hokr.len
   obtain ⟨x0,x1,x2,x3,x4,d0,d1,d2,d3,d4,hvals'⟩:=hrow'.vals5 hokr.len
   have HT:=H.out k r hget
   have HVALS:=Lib.hid hvals
   have HVALS':=Lib.hid hvals'
   have HOKR:=Lib.hid hokr
   clear hvals hvals' hokr hokr' hrow hrow' hget hget'
   simp only [fieldsOf,termF,occF,sortsF,sigF,moduleF,algF,List.cons_append,List.nil_append,List.length_cons,List.length_nil,Nat.reduceAdd,Nat.mul_one] at c0 c1 c2 c3 c4 d0 d1 d2 d3 d4
   have k0:(0:Int)<=(k:Int):=by omega
   have k1:(k:Int) < (m:Int):=by omega
   go_wp2_with fail
   go_region_held3 (fun w'=>∀ b o,b < wr.heap.size->w'.cell? ⟨b,o,none⟩=wr.cell? ⟨b,o,none⟩) (first | go_keep | exact fun b o h=>hb2.cell (p:=⟨b,o,none⟩) h) (first | (go_at_call 113;refine (HT S S' _ _ _ HOKR.out (HVALS.out.below (Below.refl _ _).drew) (HVALS'.out.below (Below.refl _ _).drew)).mono ?_;rintro e w' ⟨rfl,hb2⟩))
   go_wp2
   go_roundw
   case rel=>exact ⟨k+1,by omega,by go_num,hb.trans ((Below.refl _ _).drew.trans (hb2.mono hb.size))⟩
   case measure=>simp [intOf];omega
  ·go_wp2
   go_ret
   exact ⟨rfl,hb⟩
theorem info_Op:(Tryz.prog.info? 137).map (fun i=>(i.zero,i.size,i.bytes))=some (some (.agg #[.string .empty,.slice none 0 0,.bool false,.bool false,.int .i64 0]),5,56):=by kernel_rfl
set_option maxHeartbeats 1000000 in
theorem toOpS_of (rows:List (List C)) (h:∀ (i:Nat) r,rows[i]?=some r->toOpC r):toOpSC rows:=by
 intro S v w hok hv hlen
 obtain ⟨A,m,cap,rfl,hm,hmc,hcm⟩:=hv.form
 obtain ⟨i0,hi,hz0,hz1,hz2⟩:=info_parts info_Op
 have H:=Lib.hid h
 have HV:=Lib.hid hv
 have HM:=Lib.hid hm
 have HOK:=Lib.hid hok
 have hml:m<=1048576:=by omega
 clear h hv hm hok
 unfold maxLen at hcm
 have hmk:=run_make (P:=Tryz.prog) w 39 137 i0 _ Tryz.underlying39 hi hz0 .i64 .i64 (m:Int) (m:Int) (by omega) (by omega) (by rw [hz2];omega) (by omega)
 go_enter Tryz.func47,Tryz.ntmps47
 go_wp2
 clear hmk
 go_loopw [4] (fun i wr=>∃ k:Nat,k<=m∧i=.int .i64 k∧Filling w w.heap.size 137 m 5 rows k wr) (fun i _=>m - (intOf i).toNat)
 case atStart=>exact ⟨0,Nat.zero_le _,rfl,Filling.start (size_madeCells _ _)⟩
 case round =>
  obtain ⟨k,hk,rfl,hfill⟩:=hrel
  have hb:=hfill.1
  by_cases hkm:k < m
  ·obtain ⟨b,off,r,rfl,hS,hbz,hget,hokr,hrow⟩:=(HV.out.below hb).get HOK.out hkm
   obtain ⟨u0,u1,u2,u3,u4,c0,c1,c2,c3,c4,hvals⟩:=hrow.vals5 hokr.len
   have HT:=H.out k r hget
   have HVALS:=Lib.hid hvals
   have HOKR:=Lib.hid hokr
   have HGET:=Lib.hid hget
   have HF:=Lib.hid hfill
   have hbg:=bulk_get hget
   clear hvals hokr hrow hget hfill
   simp only [fieldsOf,termF,occF,sortsF,sigF,moduleF,algF,List.cons_append,List.nil_append,List.length_cons,List.length_nil,Nat.reduceAdd,Nat.mul_one] at c0 c1 c2 c3 c4
   go_wp2_with fail
   refine (HT S _ _ HOKR.out HVALS.out (by omega)).mono ?_
   rintro e w2 ⟨us,rfl,hown,hb2⟩
   have hone:=HOKR.out.one (OwnVals.rep _ _ (fun _=>True) _ (fun _ _=>trivial) hown)
   obtain ⟨y0,y1,y2,y3,y4,rfl⟩:=len5 (hown.len.trans HOKR.out.len)
   have HOWN:=Lib.hid hown
   have HONE:=Lib.hid hone
   obtain ⟨cur,hcur,hcs⟩:=HF.out.row hb2
   have HCUR:=Lib.hid hcur
   have HCS:=Lib.hid hcs
   clear hown hone hcur hcs
   go_wp2_with (refine wpList_store_put rfl 137 _ _ rfl w.heap.size (k * 5) rfl [y0,y1,y2,y3,y4] rfl i0 hi hz1 137 cur HCUR.out (by have:=HCS.out;simp only [List.length_cons,List.length_nil];omega) HONE.out ?_;intro w3 hput)
   go_roundw
   case rel=>exact ⟨k+1,by omega,by go_num,HF.out.step (fs:=fieldsOf .op) HOK.out HGET.out hb2 HOWN.out hput⟩
   case measure=>simp [intOf];omega
  ·go_wp2
   go_ret
   have e:k=m:=by omega
   subst e
   exact ⟨_,rfl,hfill.done HM.out (by unfold maxLen;omega) (by decide) HOK.out.lens⟩
theorem szOpS_any (rows:List (List C)):szOpSC rows:=szOpS_of rows (fun _ r _=>szOp_any r)
theorem eqOpS_any (rows:List (List C)):eqOpSC rows:=eqOpS_of rows (fun _ r _=>eqOp_any r)
theorem toOpS_any (rows:List (List C)):toOpSC rows:=toOpS_of rows (fun _ r _=>toOp_any r)
end Go.Proofs.YtffmjghcpgpfpaaGreatDoor
namespace Go.Proofs.YtffmjghcpgpfpaaGreatDoor
open Go.RowKit
theorem okRow_Signature {r:List C} (h:okRow (sigF) r):∃ (r0:List (List C)) (r1:List (List C)) (r2:List (List C)),r=[.sl r0,.sl r1,.sl r2]∧okRows (fieldsOf .str) r0∧okRows (fieldsOf .sub) r1∧okRows (fieldsOf .op) r2:=by
 obtain ⟨c0,c1,c2,rfl⟩:=len3 h.len
 simp only [fieldsOf,termF,occF,sortsF,sigF,moduleF,algF,List.cons_append,List.nil_append,okRow,and_true] at h
 obtain ⟨h0,h1,h2⟩:=h
 obtain ⟨r0,rfl,g0⟩:=okC_sl h0
 obtain ⟨r1,rfl,g1⟩:=okC_sl h1
 obtain ⟨r2,rfl,g2⟩:=okC_sl h2
 exact ⟨r0,r1,r2,rfl,g0,g1,g2⟩
theorem repVals_Signature {w:World} {S:Nat->Prop} {r0:List (List C)} {r1:List (List C)} {r2:List (List C)} {us:List Value} (h:RepVals w S [.sl r0,.sl r1,.sl r2] us):∃ v0 v1 v2,us=[v0,v1,v2]∧Rep w S (.sl r0) v0∧Rep w S (.sl r1) v1∧Rep w S (.sl r2) v2:=by
 obtain ⟨u0,u1,u2,rfl⟩:=len3 h.len
 simp only [RepVals,Rep.lit_iff,and_true] at h
 obtain ⟨e0,e1,e2⟩:=h
 exact ⟨u0,u1,u2,rfl,e0,e1,e2⟩
def szSignatureC (row:List C):Prop:=∀ (S:Nat->Prop) (us:List Value) (left:Int) (w:World),okRow (sigF) row->RepVals w S row us->0<=left->left<=1048576 ->
 Calls Tryz.prog 9 #[.agg us.toArray,.int .i64 left] w fun e w'=>e=.returned (.int .i64 (sub left (bulkRow row)))∧Below w.heap.size w w'
def eqSignatureC (row:List C):Prop:=∀ (S S':Nat->Prop) (us us':List Value) (w:World),okRow (sigF) row->RepVals w S row us->RepVals w S' row us' ->
 Calls Tryz.prog 16 #[.agg us.toArray,.agg us'.toArray] w fun e w'=>e=.returned (.bool true)∧Below w.heap.size w w'
def toSignatureC (row:List C):Prop:=∀ (S:Nat->Prop) (us:List Value) (w:World),okRow (sigF) row->RepVals w S row us->bulkRow row<=1048576 ->
 Calls Tryz.prog 12 #[.agg us.toArray] w fun e w'=>∃ us':List Value,e=.returned (.agg us'.toArray)∧OwnVals w' row (fun x=>w.heap.size<=x∧x < w'.heap.size) us'∧Below w.heap.size w w'
set_option maxHeartbeats 1000000 in
theorem szSignature_of (row:List C):szSignatureC row:=by
 intro S us left w hok hv h0 h1
 obtain ⟨r0,r1,r2,rfl,g0,g1,g2⟩:=okRow_Signature hok
 obtain ⟨v0,v1,v2,rfl,e0,e1,e2⟩:=repVals_Signature hv
 have HC0:=Lib.hid (szSorts_any [.sl r0,.sl r1])
 have HC2:=Lib.hid (szOpS_any r2)
 have HB:=Lib.hid (show bulkRow [.sl r0,.sl r1,.sl r2]=(bulkRow [.sl r0,.sl r1])+(r2.length+bulkRows r2) from by simp only [bulkRow,bulkC];omega)
 have G0:=Lib.hid g0
 have G1:=Lib.hid g1
 have G2:=Lib.hid g2
 clear g0 g1 g2 hok
 have E0:=Lib.hid e0
 have E1:=Lib.hid e1
 have E2:=Lib.hid e2
 clear hv e0 e1 e2
 generalize hrow:bulkRow [.sl r0,.sl r1,.sl r2]=total at HB ⊢
 clear hrow
 have hbw:=(Below.refl w.heap.size w).alloc (Nat.le_refl _) (.cells #[v0,v1,v2] 28)
 go_enter Tryz.func9,Tryz.ntmps9
 go_wp2_with fail
 by_cases q0:left < ((bulkRow [.sl r0,.sl r1]):Nat)
 ·refine (HC0.out S _ _ _ (mkRow_Sorts G0.out G1.out) (mkVals_Sorts (E0.out.below hbw) (E1.out.below hbw)) (by omega) (by omega)).mono ?_
  rw [sub_neg (by omega)]
  rintro e w1 ⟨rfl,hb1⟩
  go_wp2
  go_ret
  exact ⟨ret_int (a:=-1) (sub_neg (by have:=HB.out;omega)).symm,hbw.trans (hb1.mono hbw.size)⟩
 refine (HC0.out S _ _ _ (mkRow_Sorts G0.out G1.out) (mkVals_Sorts (E0.out.below hbw) (E1.out.below hbw)) (by omega) (by omega)).mono ?_
 rw [sub_pos (by omega)]
 rintro e w1 ⟨rfl,hb1⟩
 obtain ⟨hc1,hf1⟩:=bcell hb1
 have hz1:w.heap.size < w1.heap.size:=(by have:=hb1.size;(try simp at this);omega)
 replace hbw:=hbw.trans (hb1.mono hbw.size)
 go_wp2_with fail
 by_cases q2:(left - (((bulkRow [.sl r0,.sl r1]):Nat):Int)) < ((r2.length+bulkRows r2):Nat)
 ·refine (HC2.out S _ _ _ G2.out (E2.out.below hbw) (by omega) (by omega)).mono ?_
  rw [sub_neg (by omega)]
  rintro e w2 ⟨rfl,hb2⟩
  go_wp2
  go_ret
  exact ⟨ret_int (a:=-1) (sub_neg (by have:=HB.out;omega)).symm,hbw.trans (hb2.mono hbw.size)⟩
 refine (HC2.out S _ _ _ G2.out (E2.out.below hbw) (by omega) (by omega)).mono ?_
 rw [sub_pos (by omega)]
 rintro e w2 ⟨rfl,hb2⟩
 obtain ⟨hc2,hf2⟩:=bcell hb2
 have hz2:w.heap.size < w2.heap.size:=(by have:=hb2.size;(try simp at this);omega)
 replace hbw:=hbw.trans (hb2.mono hbw.size)
 go_wp2
 go_ret
 exact ⟨ret_int (by have:=HB.out;rw [sub_pos (by omega)];omega),hbw⟩
set_option maxHeartbeats 1000000 in
theorem eqSignature_of (row:List C):eqSignatureC row:=by
 intro S S' us us' w hok hv hv'
 obtain ⟨r0,r1,r2,rfl,g0,g1,g2⟩:=okRow_Signature hok
 obtain ⟨v0,v1,v2,rfl,e0,e1,e2⟩:=repVals_Signature hv
 obtain ⟨x0,x1,x2,rfl,d0,d1,d2⟩:=repVals_Signature hv'
 have HC0:=Lib.hid (eqSorts_any [.sl r0,.sl r1])
 have HC2:=Lib.hid (eqOpS_any r2)
 have G0:=Lib.hid g0
 have G1:=Lib.hid g1
 have G2:=Lib.hid g2
 clear g0 g1 g2 hok
 have E0:=Lib.hid e0
 have D0:=Lib.hid d0
 have E1:=Lib.hid e1
 have D1:=Lib.hid d1
 have E2:=Lib.hid e2
 have D2:=Lib.hid d2
 clear hv hv' e0 d0 e1 d1 e2 d2
 have hbw:=((Below.refl w.heap.size w).alloc (Nat.le_refl _) (.cells #[v0,v1,v2] 41)).alloc (by simp) (.cells #[x0,x1,x2] 41)
 go_enter Tryz.func16,Tryz.ntmps16
 go_wp2_with fail
 refine (HC0.out S S' _ _ _ (mkRow_Sorts G0.out G1.out) (mkVals_Sorts (E0.out.below hbw) (E1.out.below hbw)) (mkVals_Sorts (D0.out.below hbw) (D1.out.below hbw))).mono ?_
 rintro e w1 ⟨rfl,hb1⟩
 obtain ⟨hc1,hf1⟩:=bcell hb1
 have hz1:w.heap.size+1 < w1.heap.size:=(by have:=hb1.size;(try simp at this);omega)
 have ha1:w.heap.size < w1.heap.size:=by omega
 replace hbw:=hbw.trans (hb1.mono hbw.size)
 go_wp2_with fail
 refine (HC2.out S S' _ _ _ G2.out (E2.out.below hbw) (D2.out.below hbw)).mono ?_
 rintro e w2 ⟨rfl,hb2⟩
 obtain ⟨hc2,hf2⟩:=bcell hb2
 have hz2:w.heap.size+1 < w2.heap.size:=(by have:=hb2.size;(try simp at this);omega)
 have ha2:w.heap.size < w2.heap.size:=by omega
 replace hbw:=hbw.trans (hb2.mono hbw.size)
 go_wp2
 go_ret
 exact ⟨rfl,hbw⟩
set_option maxHeartbeats 2000000 in
theorem toSignature_of (row:List C):toSignatureC row:=by
 intro S us w hok hv hlen
 obtain ⟨r0,r1,r2,rfl,g0,g1,g2⟩:=okRow_Signature hok
 obtain ⟨v0,v1,v2,rfl,e0,e1,e2⟩:=repVals_Signature hv
 have HC0:=Lib.hid (toSorts_any [.sl r0,.sl r1])
 have HC2:=Lib.hid (toOpS_any r2)
 have G0:=Lib.hid g0
 have G1:=Lib.hid g1
 have G2:=Lib.hid g2
 clear g0 g1 g2 hok
 have E0:=Lib.hid e0
 have E1:=Lib.hid e1
 have E2:=Lib.hid e2
 clear hv e0 e1 e2
 have hl0:(bulkRow [.sl r0,.sl r1])<=1048576:=by
  have e:(bulkRow [.sl r0,.sl r1])<=bulkRow [.sl r0,.sl r1,.sl r2]:=by simp only [bulkRow,bulkC];omega
  exact Nat.le_trans e hlen
 have hl2:(r2.length+bulkRows r2)<=1048576:=by
  have e:(r2.length+bulkRows r2)<=bulkRow [.sl r0,.sl r1,.sl r2]:=by simp only [bulkRow,bulkC];omega
  exact Nat.le_trans e hlen
 clear hlen
 go_enter Tryz.func12,Tryz.ntmps12
 go_wp2_with fail
 refine (HC0.out S _ _ (mkRow_Sorts G0.out G1.out) (by exact mkVals_Sorts (E0.out.below (by repeat (first | refine Below.alloc ?_ (by simp;try omega) _ | exact Below.refl _ _))) (E1.out.below (by repeat (first | refine Below.alloc ?_ (by simp;try omega) _ | exact Below.refl _ _)))) hl0).mono ?_
 rintro e w1 ⟨ys0,rfl,hown0,hb1⟩
 obtain ⟨y0,y1,rfl,f0,f1⟩:=repVals_Sorts (OwnVals.rep _ _ (fun _=>True) _ (fun _ _=>trivial) hown0)
 obtain ⟨A0,n0,cap0,rfl,_,_,_⟩:=f0.form
 clear f0
 obtain ⟨A1,n1,cap1,rfl,_,_,_⟩:=f1.form
 clear f1
 have hz1:=hb1.size
 simp at hz1 hown0
 have HOWN0:=Lib.hid hown0
 clear hown0
 have hbw1:Below w.heap.size w w1:=Below.trans (by repeat (first | refine Below.alloc ?_ (by simp;try omega) _ | exact Below.refl _ _)) (hb1.mono (by simp;try omega))
 obtain ⟨hc1,hf1⟩:=bcell hb1
 have ha1:w.heap.size < w1.heap.size:=by omega
 have hbb1:w.heap.size+1 < w1.heap.size:=by omega
 have hcc1:w.heap.size+1+1 < w1.heap.size:=by omega
 go_wp2_with fail
 refine (HC2.out S _ _ G2.out (by exact E2.out.below (by repeat (first | refine Below.setCell ?_ (by simp;try omega) _ | exact hbw1))) hl2).mono ?_
 rintro e w2 ⟨y2,rfl,hown2,hb2⟩
 obtain ⟨A2,n2,cap2,rfl,_,_,_⟩:=(Own.rep _ _ _ hown2).form
 have hz2:=hb2.size
 simp at hz2 hown2
 have HOWN2:=Lib.hid hown2
 clear hown2
 have hbw2:Below w.heap.size w w2:=Below.trans (by repeat (first | refine Below.setCell ?_ (by simp;try omega) _ | exact hbw1)) (hb2.mono (by simp;try omega))
 obtain ⟨hc2,hf2⟩:=bcell hb2
 have ha2:w.heap.size < w2.heap.size:=by omega
 have hbb2:w.heap.size+1 < w2.heap.size:=by omega
 have hcc2:w.heap.size+1+1 < w2.heap.size:=by omega
 go_wp2
 refine bodyPost_ret (v:=.agg #[.slice A0 n0 cap0,.slice A1 n1 cap1,.slice A2 n2 cap2]) (by simp [results,Tryz.results12,go_sem,hc1,ha1,hbb1,hcc1,hc2,ha2,hbb2,hcc2]) rfl ⟨[.slice A0 n0 cap0,.slice A1 n1 cap1,.slice A2 n2 cap2],rfl,?_,(by repeat (first | refine Below.setCell ?_ (by simp;try omega) _ | exact hbw2))⟩
 simp
 exact (OwnVals.append (cs:=[.sl r0,.sl r1]) (ds:=[.sl r2]) (us:=[.slice A0 n0 cap0,.slice A1 n1 cap1]) (vs:=[.slice A2 n2 cap2]) (fun x=>w.heap.size+1+1+1<=x∧x < w1.heap.size) (fun x=>w1.heap.size<=x∧x < w2.heap.size) (HOWN0.out.same (by repeat (first | refine Same.trans ?_ (Same.setCell _ _ _ _ (by simp;try omega)) | refine Same.trans ?_ ((Same.below hb2).mono (fun x hx=>by simp at hx ⊢;omega)) | exact Same.refl _ _))) (OwnVals.cons (fun x=>w1.heap.size<=x∧x < w2.heap.size) (fun x=>w2.heap.size<=x∧x < w2.heap.size) (HOWN2.out.same (by repeat (first | refine Same.trans ?_ (Same.setCell _ _ _ _ (by simp;try omega)) | exact Same.refl _ _))) OwnVals.nil (fun x hx=>⟨by omega,by omega⟩) (fun x hx=>⟨by omega,by omega⟩) (fun x hx hy=>by omega)) (fun x hx=>⟨by omega,by omega⟩) (fun x hx=>⟨by omega,by omega⟩) (fun x hx hy=>by omega))
theorem szSignature_any (row:List C):szSignatureC row:=szSignature_of row
theorem eqSignature_any (row:List C):eqSignatureC row:=eqSignature_of row
theorem toSignature_any (row:List C):toSignatureC row:=toSignature_of row
end Go.Proofs.YtffmjghcpgpfpaaGreatDoor
namespace Go.Proofs.YtffmjghcpgpfpaaGreatDoor
open Go.RowKit
theorem decL {α:Type} {fs:List F} {e:α->List C} {p:α->Prop} (hd:∀ row,okRow fs row->∃ a,row=e a∧p a):∀ {rows:List (List C)},okRows fs rows->∃ l:List α,rows=l.map e∧∀ x∈l,p x
 | [],_=>⟨[],rfl,by simp⟩
 | r::rs,h=>by
  simp only [okRows] at h
  obtain ⟨a,rfl,ha⟩:=hd r h.1
  obtain ⟨l,rfl,hl⟩:=decL hd h.2
  exact ⟨a::l,rfl,fun x hx=>by
   rcases List.mem_cons.1 hx with rfl | hx
   ·exact ha
   ·exact hl x hx⟩
theorem okL {α:Type} {fs:List F} {e:α->List C} {p:α->Prop} (hk:∀ a,p a->okRow fs (e a)):∀ {l:List α},(∀ x∈l,p x)->okRows fs (l.map e)
 | [],_=>by simp [okRows]
 | a::l,h=>by
  simp only [List.map_cons,okRows]
  exact ⟨hk a (h a (by simp)),okL hk (fun x hx=>h x (by simp [hx]))⟩
def encInt (n:Int):List C:=[.lit (.int .i64 n)]
def encStr (s:ByteArray):List C:=[.lit (.string s)]
def encSub (p:Int × Int):List C:=[.lit (.int .i64 p.1),.lit (.int .i64 p.2)]
def okSub (p:Int × Int):Prop:=I64 p.1∧I64 p.2
def okStr (s:ByteArray):Prop:=s.size<=maxLen
theorem decInt:∀ row,okRow (fieldsOf .int) row->∃ a,row=encInt a∧I64 a:=fun row h=>okRow_Int h
theorem decStr:∀ row,okRow (fieldsOf .str) row->∃ a,row=encStr a∧okStr a:=fun row h=>okRow_String h
theorem decSub:∀ row,okRow (fieldsOf .sub) row->∃ a,row=encSub a∧okSub a:=fun row h=>by
 obtain ⟨i0,i1,rfl,h0,h1⟩:=okRow_Sub h
 exact ⟨(i0,i1),rfl,h0,h1⟩
structure Srt where
 names:List ByteArray
 subs:List (Int × Int)
def encSrt (s:Srt):List C:=[.sl (s.names.map encStr),.sl (s.subs.map encSub)]
def okSrt (s:Srt):Prop:=(∀ x∈s.names,okStr x)∧∀ x∈s.subs,okSub x
structure Dcl where
 args:List Int
 res:Int
def encDcl (d:Dcl):List C:=[.sl (d.args.map encInt),.lit (.int .i64 d.res)]
def okDcl (d:Dcl):Prop:=(∀ x∈d.args,I64 x)∧I64 d.res
theorem decDcl:∀ row,okRow (fieldsOf .decl) row->∃ a,row=encDcl a∧okDcl a:=fun row h=>by
 obtain ⟨r0,i1,rfl,g0,g1⟩:=okRow_Decl h
 obtain ⟨l0,rfl,k0⟩:=decL decInt g0
 exact ⟨⟨l0,i1⟩,rfl,k0,g1⟩
structure Opr where
 name:ByteArray
 decls:List Dcl
 assoc:Bool
 comm:Bool
 unit:Int
def encOpr (o:Opr):List C:=[.lit (.string o.name),.sl (o.decls.map encDcl),.lit (.bool o.assoc),.lit (.bool o.comm),.lit (.int .i64 o.unit)]
def okOpr (o:Opr):Prop:=okStr o.name∧(∀ x∈o.decls,okDcl x)∧I64 o.unit
theorem decOpr:∀ row,okRow (fieldsOf .op) row->∃ a,row=encOpr a∧okOpr a:=fun row h=>by
 obtain ⟨t0,r1,p2,p3,i4,rfl,g0,g1,_,_,g4⟩:=okRow_Op h
 obtain ⟨l1,rfl,k1⟩:=decL decDcl g1
 exact ⟨⟨t0,l1,p2,p3,i4⟩,rfl,g0,k1,g4⟩
structure Sgn where
 sorts:Srt
 ops:List Opr
def encSgn (s:Sgn):List C:=[.sl (s.sorts.names.map encStr),.sl (s.sorts.subs.map encSub),.sl (s.ops.map encOpr)]
def okSgn (s:Sgn):Prop:=okSrt s.sorts∧∀ x∈s.ops,okOpr x
theorem decSgn {row:List C} (h:okRow sigF row):∃ s,row=encSgn s∧okSgn s:=by
 obtain ⟨r0,r1,r2,rfl,g0,g1,g2⟩:=okRow_Signature h
 obtain ⟨l0,rfl,k0⟩:=decL decStr g0
 obtain ⟨l1,rfl,k1⟩:=decL decSub g1
 obtain ⟨l2,rfl,k2⟩:=decL decOpr g2
 exact ⟨⟨⟨l0,l1⟩,l2⟩,rfl,⟨k0,k1⟩,k2⟩
theorem Rep.at {α:Type} {w:World} {S:Nat->Prop} {fs:List F} {e:α->List C} {p:α->Prop} (hk:∀ a,p a->okRow fs (e a)) {l:List α} (hl:∀ x∈l,p x) {A:Option Addr} {m cap k:Nat} {a:α}
  (h:Rep w S (.sl (l.map e)) (.slice A m cap)) (ha:l[k]?=some a):∃ b off,A=some ⟨b,off,none⟩∧S b∧b < w.heap.size∧RepRow w S b (off+k * fs.length) (e a):=by
 have hkl:k < l.length:=(List.getElem?_eq_some_iff.1 ha).1
 obtain ⟨A',m',cap',hf,hm,_,_⟩:=h.form
 injection hf with h1 h2 h3
 subst h1 h2 h3
 obtain ⟨b,off,r,rfl,hS,hbz,hget,hokr,hrow⟩:=h.get (okL hk hl) (i:=k) (by rw [<- hm];simpa using hkl)
 refine ⟨b,off,rfl,hS,hbz,?_⟩
 rw [List.getElem?_map,ha] at hget
 simp only [Option.map_some,Option.some.injEq] at hget
 rw [hget]
 exact hrow
end Go.Proofs.YtffmjghcpgpfpaaGreatDoor
namespace Go.Proofs.YtffmjghcpgpfpaaGreatDoor
open Go.RowKit
def encInts (l:List Int):List C:=[.sl (l.map encInt)]
end Go.Proofs.YtffmjghcpgpfpaaGreatDoor
namespace Go.Proofs.YtffmjghcpgpfpaaGreatDoor
open Go.RowKit
def tab64:List Nat:=[0,1,56,2,57,49,28,3,61,58,42,50,38,29,17,4,62,47,59,36,45,43,51,22,53,39,33,30,24,18,12,5,63,55,48,27,60,41,37,16,46,35,44,21,52,32,23,11,54,26,40,15,34,20,31,10,25,14,19,9,13,8,7,6]
def tabA:Array Value:=(tab64.map fun (n:Nat)=>Value.int .u8 (n:Int)).toArray
def tabOk (w:World):Prop:=w.heap[(2:Nat)]?=some (.cells tabA 277 (0,0))
theorem tabOk.cell {w:World} (h:tabOk w):∀ j,j < 64->w.cell? ⟨2,j,none⟩=some (.int .u8 ((tab64.getD j 0:Nat):Int)):=fun j hj=>by
 unfold tabOk at h
 unfold World.cell?
 have hl:j < tab64.length:=hj
 simp only [h]
 unfold tabA
 rw [if_neg (by simp),List.getElem?_toArray,List.getElem?_map,List.getD_eq_getElem?_getD,List.getElem?_eq_getElem hl]
 rfl
noncomputable def e0:Env:=⟨Tryz.prog,fun b=>b=2,tabOk,False⟩
noncomputable def e1:Env:=⟨Tryz.prog,fun b=>b=2,tabOk,True⟩
theorem tab_keep {w w':World} (h:w'.heap[(2:Nat)]?=w.heap[(2:Nat)]?) (k:tabOk w):tabOk w':=h.trans k
theorem e1P:e1.P=Tryz.prog:=rfl
theorem e1_ok:e1.Ok:=⟨fun _ _ _ h k=>tab_keep (h _ rfl) k,by kernel_rfl⟩
theorem con_1 {f:FuncId} {args r:List D} (h:Con e1 f args r):Con e0 f args r :=
 ⟨h.1,fun w S vs hS hE hG hvs=>(h.2 w S vs hS hE hG hvs).mono fun en w' ⟨v,h1,h2,h3,h4⟩=>⟨v,h1,⟨h2.os,h2.tape,h2.output,fun d=>d.elim,h2.size,h2.block⟩,h3,h4⟩⟩
theorem e0P:e0.P=Tryz.prog:=rfl
theorem e0_ok:e0.Ok:=⟨fun _ _ _ h k=>tab_keep (h _ rfl) k,by kernel_rfl⟩
theorem con_below {e:Env} (he:e.Ok) {f:FuncId} {args r:List D} (hb:hasBody e.P f=true)
  (h:∀ (w:World) (S:Nat->Prop) (vs:List Value),DsRel w S args vs->Calls e.P f vs.toArray w fun en w'=>∃ v,en=.returned v∧Below w.heap.size w w'∧ARel w' (fun b=>S b∨(w.heap.size<=b∧b < w'.heap.size)) ⟨fun _=>0,fun _=>Go.undef⟩ (retA r) v) (hD:¬ e.D:=by exact id):Con e f args r:=by
 refine ⟨hb,fun w S vs hS hE hG hvs=>(h w S vs hvs).mono fun en w' ⟨v,h1,h2,h3⟩=>⟨v,h1,Kept.of_below h2 (fun d=>(hD d).elim),he.keep _ _ h2.size (fun b hb=>h2.block b (hE b hb)) hG,?_⟩⟩
 exact h3
theorem rowsB_map {α:Type} {e:α->List C} {n:Nat} (h:∀ a,((e a).length==n && (e a).all okCell)=true) (l:List α):rowsB n (l.map e)=true:=by
 unfold rowsB
 rw [List.all_map]
 exact List.all_eq_true.2 fun a _=>h a
theorem rowsB_nil {n:Nat}:rowsB n []=true:=rfl
theorem rowsB_cons {n:Nat} {r:List C} {rs:List (List C)}:rowsB n (r::rs)=(r.length==n && r.all okCell && rowsB n rs):=rfl
theorem rb_int (l:List Int):rowsB 1 (l.map encInt)=true:=rowsB_map (e:=encInt) (n:=1) (fun _=>rfl) l
theorem rb_str (l:List ByteArray):rowsB 1 (l.map encStr)=true:=rowsB_map (e:=encStr) (n:=1) (fun _=>rfl) l
theorem rb_sub (l:List (Int × Int)):rowsB 2 (l.map encSub)=true:=rowsB_map (e:=encSub) (n:=2) (fun _=>rfl) l
theorem rb_dcl (l:List Dcl):rowsB 2 (l.map encDcl)=true:=rowsB_map (e:=encDcl) (n:=2) (fun _=>rfl) l
theorem rb_opr (l:List Opr):rowsB 5 (l.map encOpr)=true:=rowsB_map (e:=encOpr) (n:=5) (fun _=>rfl) l
theorem rb_ints (l:List (List Int)):rowsB 1 (l.map encInts)=true:=rowsB_map (e:=encInts) (n:=1) (fun _=>rfl) l
theorem wrapN {a b:Int} (h:a=b) (h1:-9223372036854775808<=b) (h2:b<=9223372036854775807):IntKind.i64.wrap a=b:=by rw [h];exact IntWalk.i64_in _ ⟨h1,h2⟩
theorem wrap1 {k:Nat} (h:k < 9223372036854775807):IntKind.i64.wrap ((k:Int)+1)=((k+1:Nat):Int):=wrapN (by omega) (by omega) (by omega)
theorem bqtt:(true==true)=true:=rfl
theorem bqtf:(true==false)=false:=rfl
theorem bqft:(false==true)=false:=rfl
theorem bqff:(false==false)=true:=rfl
theorem natInt (n:Nat):(n:Int).toNat=n:=Int.toNat_natCast n
theorem gs_n {t:Nat}:gs [] t=.undef:=rfl
theorem gs_c {k t:Nat} {a:A} {r:List (Nat × A)}:gs ((k,a)::r) t=if t=k then a else gs r t:=rfl
theorem gm_n {t:Nat}:gm [] t=none:=rfl
theorem gm_c {k t:Nat} {a:Bk} {r:List (Nat × Bk)}:gm ((k,a)::r) t=if t=k then some a else gm r t:=rfl
theorem initS_n {k:Nat}:initS k []=[]:=rfl
theorem initS_c {k:Nat} {d:D} {r:List D}:initS k (d::r)=(k,.d d)::initS (k+1) r:=rfl
theorem pz:type_of% (ai @tt_0 (ai @tt_1 (ai @tt_2 (ai @tt_3 (ai @tt_4 (ai @tt_5 (ai @tt_6 (ai @tt_7 (ai @pm_0 (ai @pm_1 (ai @pm_2 (ai @pm_3 (ai @pm_4 (ai @pm_5 (ai @pm_6 (ai @pm_7 (ai @pm_8 (ai @pm_9 (ai @pm_10 (ai @pm_11 (ai @e0P (ai @e1P (ai @gs_n (ai @gs_c (ai @gm_n (ai @gm_c (ai @initS_n (ai @initS_c (ai @rb_int (ai @rb_str (ai @rb_sub (ai @rb_dcl (ai @rb_opr (ai @rb_ints (ai @rowsB_nil (ai @rowsB_cons (ai @bqtt (ai @bqtf (ai @bqft (ai @bqff (ai @Bool.and_self (ai @Bool.or_true (ai @Bool.true_or (ai @Bool.or_false (ai @Bool.false_or (ai @Nat.zero_add (ai @Nat.add_zero (ai @and_self (ai @true_and (ai @and_true (ai @Bool.not_true (ai @Bool.not_false (ai @natInt (ai @trimS_n (ai @trimS_c (ai @tb_eq (ai @endR_d (ai @callOf_c (ai @Int.natCast_nonneg (ai @Int.toNat_zero (ai @Int.toNat_one (ai @Nat.le_refl (ai @List.map_nil.{0,0} (ai @List.getElem?_cons_zero.{0} (ai @List.getElem?_cons_succ.{0} (ai @List.drop_succ_cons.{0} (ai @List.drop_zero.{0} (ai @List.drop_nil.{0} (ai @List.take_succ_cons.{0} (ai @List.take_zero.{0} (ai @List.length_cons.{0} (ai @List.length_nil.{0} (ai @List.length_append.{0} (ai @List.all_cons.{0} (ai @List.all_nil.{0} (ai @List.isEmpty_cons.{0} (ai @List.isEmpty_nil.{0} (ai @List.cons_append.{0} (ai @List.nil_append.{0} (ai @List.append_nil.{0} (ai @Option.map_some.{0,0} (ai @Option.map_none.{0,0} (ai @Option.join_some.{0} (ai @Option.getD_some.{0} (ai @Option.isNone_none.{0} (ai @Option.isNone_some.{0} (ai @Option.isSome_none.{0} (ai @Option.isSome_some.{0} (ai @List.map_cons.{0,0} (ai @List.length_map.{0,0} (@List.getElem?_map.{0,0}))))))))))))))))))))))))))))))))))))))))))))))))))))))))))))))))))))))))))))))))))))))))))):=ai @tt_0 (ai @tt_1 (ai @tt_2 (ai @tt_3 (ai @tt_4 (ai @tt_5 (ai @tt_6 (ai @tt_7 (ai @pm_0 (ai @pm_1 (ai @pm_2 (ai @pm_3 (ai @pm_4 (ai @pm_5 (ai @pm_6 (ai @pm_7 (ai @pm_8 (ai @pm_9 (ai @pm_10 (ai @pm_11 (ai @e0P (ai @e1P (ai @gs_n (ai @gs_c (ai @gm_n (ai @gm_c (ai @initS_n (ai @initS_c (ai @rb_int (ai @rb_str (ai @rb_sub (ai @rb_dcl (ai @rb_opr (ai @rb_ints (ai @rowsB_nil (ai @rowsB_cons (ai @bqtt (ai @bqtf (ai @bqft (ai @bqff (ai @Bool.and_self (ai @Bool.or_true (ai @Bool.true_or (ai @Bool.or_false (ai @Bool.false_or (ai @Nat.zero_add (ai @Nat.add_zero (ai @and_self (ai @true_and (ai @and_true (ai @Bool.not_true (ai @Bool.not_false (ai @natInt (ai @trimS_n (ai @trimS_c (ai @tb_eq (ai @endR_d (ai @callOf_c (ai @Int.natCast_nonneg (ai @Int.toNat_zero (ai @Int.toNat_one (ai @Nat.le_refl (ai @List.map_nil.{0,0} (ai @List.getElem?_cons_zero.{0} (ai @List.getElem?_cons_succ.{0} (ai @List.drop_succ_cons.{0} (ai @List.drop_zero.{0} (ai @List.drop_nil.{0} (ai @List.take_succ_cons.{0} (ai @List.take_zero.{0} (ai @List.length_cons.{0} (ai @List.length_nil.{0} (ai @List.length_append.{0} (ai @List.all_cons.{0} (ai @List.all_nil.{0} (ai @List.isEmpty_cons.{0} (ai @List.isEmpty_nil.{0} (ai @List.cons_append.{0} (ai @List.nil_append.{0} (ai @List.append_nil.{0} (ai @Option.map_some.{0,0} (ai @Option.map_none.{0,0} (ai @Option.join_some.{0} (ai @Option.getD_some.{0} (ai @Option.isNone_none.{0} (ai @Option.isNone_some.{0} (ai @Option.isSome_none.{0} (ai @Option.isSome_some.{0} (ai @List.map_cons.{0,0} (ai @List.length_map.{0,0} (@List.getElem?_map.{0,0}))))))))))))))))))))))))))))))))))))))))))))))))))))))))))))))))))))))))))))))))))))))))))
theorem sfx {p:Prop} (h:p:=by first | (simp only [pz,↓reduceIte,Nat.reduceEqDiff,Nat.reduceAdd,Nat.reduceSub,Nat.reduceMul,Nat.reduceLeDiff,Nat.reduceBEq,Bool.false_eq_true,decide_true,decide_false,Int.reduceLE,Int.reduceToNat,Int.reduceLT,Int.reduceEq,eq_self,Nat.reduceShiftRight,Nat.reduceAnd,Nat.reduceBneDiff,F];done) | (simp only [pz,↓reduceIte,Nat.reduceEqDiff,Nat.reduceAdd,Nat.reduceSub,Nat.reduceMul,Nat.reduceLeDiff,Nat.reduceBEq,Bool.false_eq_true,decide_true,decide_false,Int.reduceLE,Int.reduceToNat,Int.reduceLT,Int.reduceEq,eq_self,Nat.reduceShiftRight,Nat.reduceAnd,Nat.reduceBneDiff,F];exact rfl)):p:=h
theorem snx {p:Prop} (h:p:=by first | (simp only [pz,↓reduceIte,Nat.reduceEqDiff,Nat.reduceAdd,Nat.reduceSub,Nat.reduceMul,Nat.reduceLeDiff,Nat.reduceBEq,Bool.false_eq_true,decide_true,decide_false,Int.reduceLE,Int.reduceToNat,Int.reduceLT,Int.reduceEq,eq_self,Nat.reduceShiftRight,Nat.reduceAnd,Nat.reduceBneDiff];done) | (simp only [pz,↓reduceIte,Nat.reduceEqDiff,Nat.reduceAdd,Nat.reduceSub,Nat.reduceMul,Nat.reduceLeDiff,Nat.reduceBEq,Bool.false_eq_true,decide_true,decide_false,Int.reduceLE,Int.reduceToNat,Int.reduceLT,Int.reduceEq,eq_self,Nat.reduceShiftRight,Nat.reduceAnd,Nat.reduceBneDiff];exact rfl)):p:=h
theorem sfy {p:Prop} (h:p:=by first | (simp only [pz,↓reduceIte,Nat.reduceEqDiff,Nat.reduceAdd,Nat.reduceSub,Nat.reduceMul,Nat.reduceLeDiff,Nat.reduceBEq,Bool.false_eq_true,decide_true,decide_false,Int.reduceLE,Int.reduceToNat,Int.reduceLT,Int.reduceEq,eq_self,Nat.reduceShiftRight,Nat.reduceAnd,Nat.reduceBneDiff,F];exact rfl) | simp only [pz,↓reduceIte,Nat.reduceEqDiff,Nat.reduceAdd,Nat.reduceSub,Nat.reduceMul,Nat.reduceLeDiff,Nat.reduceBEq,Bool.false_eq_true,decide_true,decide_false,Int.reduceLE,Int.reduceToNat,Int.reduceLT,Int.reduceEq,eq_self,Nat.reduceShiftRight,Nat.reduceAnd,Nat.reduceBneDiff,F]):p:=h
theorem sny {p:Prop} (h:p:=by first | (simp only [pz,↓reduceIte,Nat.reduceEqDiff,Nat.reduceAdd,Nat.reduceSub,Nat.reduceMul,Nat.reduceLeDiff,Nat.reduceBEq,Bool.false_eq_true,decide_true,decide_false,Int.reduceLE,Int.reduceToNat,Int.reduceLT,Int.reduceEq,eq_self,Nat.reduceShiftRight,Nat.reduceAnd,Nat.reduceBneDiff];exact rfl) | simp only [pz,↓reduceIte,Nat.reduceEqDiff,Nat.reduceAdd,Nat.reduceSub,Nat.reduceMul,Nat.reduceLeDiff,Nat.reduceBEq,Bool.false_eq_true,decide_true,decide_false,Int.reduceLE,Int.reduceToNat,Int.reduceLT,Int.reduceEq,eq_self,Nat.reduceShiftRight,Nat.reduceAnd,Nat.reduceBneDiff]):p:=h
theorem sfv {p:Prop} (h:p:=by simp only [pz,↓reduceIte,Nat.reduceEqDiff,Nat.reduceAdd,Nat.reduceSub,Nat.reduceMul,Nat.reduceLeDiff,Nat.reduceBEq,Bool.false_eq_true,decide_true,decide_false,Int.reduceLE,Int.reduceToNat,Int.reduceLT,Int.reduceEq,eq_self,Nat.reduceShiftRight,Nat.reduceAnd,Nat.reduceBneDiff,F];exact rfl):p:=h
theorem snv {p:Prop} (h:p:=by simp only [pz,↓reduceIte,Nat.reduceEqDiff,Nat.reduceAdd,Nat.reduceSub,Nat.reduceMul,Nat.reduceLeDiff,Nat.reduceBEq,Bool.false_eq_true,decide_true,decide_false,Int.reduceLE,Int.reduceToNat,Int.reduceLT,Int.reduceEq,eq_self,Nat.reduceShiftRight,Nat.reduceAnd,Nat.reduceBneDiff];exact rfl):p:=h
end Go.Proofs.YtffmjghcpgpfpaaGreatDoor
namespace Go.Proofs.YtffmjghcpgpfpaaGreatDoor
open Go.RowKit
theorem encInt_u:∀ n,encInt n=[.lit (.int .i64 n)]:=fun _=>rfl
theorem encDcl_u:∀ d,encDcl d=[.sl (d.args.map encInt),.lit (.int .i64 d.res)]:=fun _=>rfl
theorem encOpr_u:∀ o,encOpr o=[.lit (.string o.name),.sl (o.decls.map encDcl),.lit (.bool o.assoc),.lit (.bool o.comm),.lit (.int .i64 o.unit)]:=fun _=>rfl
theorem encSgn_u:∀ s,encSgn s=[.sl (s.sorts.names.map encStr),.sl (s.sorts.subs.map encSub),.sl (s.ops.map encOpr)]:=fun _=>rfl
theorem gB {X Y:Prop} (b:Y) (h:Y->X:=by
 intro b
 first
  | with_reducible refine region_0k ?_
  | (first
   | refine region_Dk 1 (by decide +kernel) ?_
   | refine region_Dk 2 (by decide +kernel) ?_
   | refine region_Dk 3 (by decide +kernel) ?_
   | refine region_Dk 4 (by decide +kernel) ?_
   | refine region_Dk 5 (by decide +kernel) ?_
   | refine region_Dk 6 (by decide +kernel) ?_
   | refine region_Dk 7 (by decide +kernel) ?_
   | refine region_Dk 8 (by decide +kernel) ?_
   | refine region_Dk 9 (by decide +kernel) ?_
   | refine region_Dk 10 (by decide +kernel) ?_
   | refine region_Dk 11 (by decide +kernel) ?_
   | refine region_Dk 12 (by decide +kernel) ?_
   | refine region_Dk 13 (by decide +kernel) ?_
   | refine region_Dk 14 (by decide +kernel) ?_
   | refine region_Dk 15 (by decide +kernel) ?_
   | refine region_Dk 16 (by decide +kernel) ?_
   | refine region_Dk 17 (by decide +kernel) ?_
   | refine region_Dk 18 (by decide +kernel) ?_
   | refine region_Dk 19 (by decide +kernel) ?_
   | refine region_Dk 20 (by decide +kernel) ?_
   | refine region_Dk 21 (by decide +kernel) ?_
   | refine region_Dk 22 (by decide +kernel) ?_
   | refine region_Dk 23 (by decide +kernel) ?_
   | refine region_Dk 24 (by decide +kernel) ?_
   | refine region_Dk 25 (by decide +kernel) ?_
   | refine region_Dk 26 (by decide +kernel) ?_
   | refine region_Dk 27 (by decide +kernel) ?_
   | refine region_Dk 28 (by decide +kernel) ?_
   | refine region_Dk 29 (by decide +kernel) ?_
   | refine region_Dk 30 (by decide +kernel) ?_
   | refine region_Dk 31 (by decide +kernel) ?_
   | refine region_Dk 32 (by decide +kernel) ?_
   | refine region_Dk 33 (by decide +kernel) ?_
   | refine region_Dk 34 (by decide +kernel) ?_
   | refine region_Dk 35 (by decide +kernel) ?_
   | refine region_Dk 36 (by decide +kernel) ?_
   | refine region_Dk 37 (by decide +kernel) ?_
   | refine region_Dk 38 (by decide +kernel) ?_
   | refine region_Dk 39 (by decide +kernel) ?_
   | refine region_Dk 40 (by decide +kernel) ?_
   | refine region_Dk 41 (by decide +kernel) ?_
   | refine region_Dk 42 (by decide +kernel) ?_
   | refine region_Dk 43 (by decide +kernel) ?_
   | refine region_Dk 44 (by decide +kernel) ?_
   | refine region_Dk 45 (by decide +kernel) ?_
   | refine region_Dk 46 (by decide +kernel) ?_
   | refine region_Dk 47 (by decide +kernel) ?_
   | refine region_Dk 48 (by decide +kernel) ?_
   | refine region_Dk 49 (by decide +kernel) ?_
   | refine region_Dk 50 (by decide +kernel) ?_
   | refine region_Dk 51 (by decide +kernel) ?_
   | refine region_Dk 52 (by decide +kernel) ?_
   | refine region_Dk 53 (by decide +kernel) ?_
   | refine region_Dk 54 (by decide +kernel) ?_
   | refine region_Dk 55 (by decide +kernel) ?_
   | refine region_Dk 56 (by decide +kernel) ?_
   | refine region_Dk 57 (by decide +kernel) ?_
   | refine region_Dk 58 (by decide +kernel) ?_
   | refine region_Dk 59 (by decide +kernel) ?_
   | refine region_Dk 60 (by decide +kernel) ?_
   | refine region_Dk 61 (by decide +kernel) ?_
   | refine region_Dk 62 (by decide +kernel) ?_
   | refine region_Dk 63 (by decide +kernel) ?_
   | refine region_Dk 64 (by decide +kernel) ?_)
 intro ds hds
 simp only [List.map] at hds
 subst hds
 exact b):X:=h b
theorem gC {X Y Z:Prop} (c:Z) (b:Y) (h:Z->Y->X:=by
 intro c b
 refine rcT (by exact sfv) c (by simp only [setA,retA];exact rfl) ?_
 exact b):X:=h c b
theorem gR {X Y:Prop} (b:Y) (h:Y->X:=by
 intro b
 refine reT (by exact sfv) ?_
 first | (change pwp _ _ _ _ _) | refine wkI ?_ | skip
 exact b):X:=h b
theorem gG {X Y:Prop} (b:Y) (h:Y->X:=by
 intro b
 repeat (first
  | with_reducible refine pwp_seqW ?_
  | with_reducible refine pwp_block ?_
  | ((first | with_reducible refine pwp_skip ?_ | with_reducible refine pwp_exit ?_);try refine wkI ?_)
  | (with_reducible refine pwp_ct ?_ ?_;· simp only [pz,↓reduceIte,Nat.reduceEqDiff,F])
  | (with_reducible refine pwp_cf ?_ ?_;· simp only [pz,↓reduceIte,Nat.reduceEqDiff,F])
  | (refine gB ?_;refine reT (by exact sfv) ?_;try refine wkI ?_))
 exact b):X:=h b
def StopAt (_:Nat):Prop:=True
theorem ne_reg {n:Nat} (_:StopAt n) {e:Env} {mask id:Nat} {ops:Array Oper} {fl:Bool} {σ:St} {Q:PX->St->Prop} (h:pwp e mask (.region id ops fl) σ Q) (_:(id==n)=false:=by decide):pwp e mask (.region id ops fl) σ Q:=h
theorem gGn {X Y:Prop} (b:Y) (h:Y->X:=by
 intro b
 repeat (first
  | with_reducible refine pwp_seqW ?_
  | with_reducible refine pwp_block ?_
  | ((first | with_reducible refine pwp_skip ?_ | with_reducible refine pwp_exit ?_);try refine wkI ?_)
  | (with_reducible refine pwp_ct ?_ ?_;· simp only [pz,↓reduceIte,Nat.reduceEqDiff,F])
  | (with_reducible refine pwp_cf ?_ ?_;· simp only [pz,↓reduceIte,Nat.reduceEqDiff,F])
  | (refine ne_reg NN ?_;refine gB ?_;refine reT (by exact sfv) ?_;try refine wkI ?_))
 exact b):X:=h b
theorem gT {X:Prop} (h:X:=by
 refine pwp_ret (ret_ok ?_)
 simp [resOk,resA,resSlots,gs,F]):X:=h
theorem gTz {X:Prop} {P:Program} {ts:List RS} {r:List D} {σ σ1:St} (ks:List Nat) (hx:retQ P ts r .ret σ->X:=by exact fun h=>pwp_ret h) (hf:frzs ks σ=σ1:=by exact sfv) (h:resOk P σ1 ts r:=by simp [resOk,resA,resSlots,gs,F]):X:=hx (ret_fz ks hf h)
theorem gTd {X:Prop} {P:Program} {ts:List RS} {r:List D} {σ:St} (hx:retQ P ts r .ret σ->X:=by exact fun h=>pwp_ret h) (hr:resD P σ ts=some r:=by exact sfx):X:=hx (ret_ok (resOk_of hr))
theorem gw {X:Prop} (h:X:=by simp [weakS,weakM,gs,gm,F]):X:=h
theorem gL {e:Env} {mask:Nat} {Q:PX->St->Prop} {c:Code} {s:List (Nat × A)} {m:List (Nat × Bk)} {ι:Type} (ds dm:List Nat) (us:ι->List (Nat × A)) (ms:ι->List (Nat × Bk)) (ok:ι->Prop) (μ:ι->Nat) (x0:ι) (h0:ok x0)
  {s0:List (Nat × A)} {m0:List (Nat × Bk)} {ss:ι->List (Nat × A)} {mm:ι->List (Nat × Bk)}
  (hr:∀ x,ok x->pwp e mask c ⟨ss x,mm x⟩ (fun p σ''=>match p with
   | .normal=>∃ y,ok y∧weakS σ''.s (ss y)∧weakM σ''.m (mm y)∧μ y < μ x
   | p=>Q p σ''))
  (hs0:headS ds s=s0:=by simp only [headS,headM,List.elem_cons,List.elem_nil,Nat.reduceBEq,Bool.or_false,Bool.false_or,Bool.or_true,Bool.true_or,Bool.or_self,↓reduceIte,Bool.false_eq_true];exact rfl) (hm0:headM dm m=m0:=by simp only [headS,headM,List.elem_cons,List.elem_nil,Nat.reduceBEq,Bool.or_false,Bool.false_or,Bool.or_true,Bool.true_or,Bool.or_self,↓reduceIte,Bool.false_eq_true];exact rfl) (hss:∀ x,us x++s0=ss x:=by intro x;simp only [List.cons_append,List.nil_append];exact rfl) (hmm:∀ x,ms x++m0=mm x:=by intro x;simp only [List.cons_append,List.nil_append];exact rfl)
  (hs:weakS s (us x0):=by simp [weakS,gs,F]) (hm:weakM m (ms x0):=by simp [weakM,gm,F]):pwp e mask (.loop c) ⟨s,m⟩ Q:=pwp_loopU ds dm us ms ok μ x0 hs0 hm0 hss hmm hs hm h0 hr
theorem gM {e:Env} {mask:Nat} {Q:PX->St->Prop} {a:Code} {s:List (Nat × A)} {m:List (Nat × Bk)} {ι:Type} (ds dm:List Nat) (us:ι->List (Nat × A)) (ms:ι->List (Nat × Bk)) (R:ι->Prop)
  {s0:List (Nat × A)} {m0:List (Nat × Bk)} {ss:ι->List (Nat × A)} {mm:ι->List (Nat × Bk)}
  (h:pwp e mask a ⟨s,m⟩ (fun x σ'=>match x with
   | .normal=>∃ y,R y∧weakS σ'.s (ss y)∧weakM σ'.m (mm y)
   | x=>Q x σ')) (hb:∀ x,R x->Q .normal ⟨ss x,mm x⟩) 
  (hs0:headS ds s=s0:=by simp only [headS,headM,List.elem_cons,List.elem_nil,Nat.reduceBEq,Bool.or_false,Bool.false_or,Bool.or_true,Bool.true_or,Bool.or_self,↓reduceIte,Bool.false_eq_true];exact rfl) (hm0:headM dm m=m0:=by simp only [headS,headM,List.elem_cons,List.elem_nil,Nat.reduceBEq,Bool.or_false,Bool.false_or,Bool.or_true,Bool.true_or,Bool.or_self,↓reduceIte,Bool.false_eq_true];exact rfl) (hss:∀ x,us x++s0=ss x:=by intro x;simp only [List.cons_append,List.nil_append];exact rfl) (hmm:∀ x,ms x++m0=mm x:=by intro x;simp only [List.cons_append,List.nil_append];exact rfl)
  (hQ:∀ σ σ1,Wk σ σ1->Q .normal σ1->Q .normal σ:=by exact fun _ _ h p=>Exists.elim p fun σ2 q=>⟨σ2,h.trans q.1,q.2⟩):pwp e mask a ⟨s,m⟩ Q:=pwp_meetU hQ ds dm us ms R hs0 hm0 hss hmm h hb
theorem gI {e:Env} {f:FuncId} {fn:Func} {c:Code} {args r:List D} {ts:List RS} (mask:Nat) (hf:e.P.funcs[f]?=some fn) (h:pwp e mask c ⟨initS 0 args,[]⟩ (retQ e.P ts r)) (hb:fn.body=some c:=by exact rfl) (hnm:(fn.name == "runtime.NumGoroutine")=false:=by kernel_rfl)
  (hok:okCode fn.ntmps c=true:=by kernel_rfl) (hal:Nat.ble args.length fn.ntmps=true:=by exact rfl) (hres:resSlots fn.results.toList=ts:=by exact rfl) (he:e.Ok:=by first | exact e0_ok | exact e1_ok | assumption):Con e f args r:=con_of_pwp he mask hf hb hnm hok hal hres h
theorem gCP {e:Env} {K:St->Prop} {ds:List (Option Nat)} {n n':Nat} {os os':List Oper} {σ:St} {c:Operand} {args:List Operand} {f:FuncId} {xs:List D} {d:Option Nat} {s1 s2 s3:List (Nat × A)} {m1 m2 m3:List (Nat × Bk)} {pm:List Bk} {R:List D->List Bk->Prop} (ks ks':List Nat) (hc:ConP e f xs pm R)
  (hK:∀ r pm',R r pm'->Runs e ds n' os' ⟨setA s3 d (retA r),zipM ks' pm'++m3⟩ K) (h:runOps e.P ds n os σ=.call false c args d n' os' ⟨s1,m1⟩:=by exact sfv) (h1:callP false c args ⟨s1,m1⟩=some (f,xs,⟨s2,m2⟩):=by exact sfv)
  (hpm:getM m2 ks=some pm:=by exact sny) (hpn:pm.all pinned=true:=by simp only [pz,↓reduceIte,Nat.reduceEqDiff,Nat.reduceAdd,Nat.reduceSub,Nat.reduceMul,Nat.reduceLeDiff,Nat.reduceBEq,Bool.false_eq_true,decide_true,decide_false,Int.reduceLE,Int.reduceToNat,Int.reduceLT,Int.reduceEq,eq_self,Nat.reduceShiftRight,Nat.reduceAnd,Nat.reduceBneDiff]) (hn:ks.Nodup:=by decide) (hk:killKs (ks++ks') s2=s3:=by exact snv) (hr:remMs (ks++ks') m2=m3:=by exact snv):Runs e ds n os σ K:=runs_goP ks ks' h h1 hc hpm hpn hn hk hr hK
theorem gP {e:Env} {K:St->Prop} {ds:List (Option Nat)} {n n':Nat} {os os':List Oper} {σ:St} {s1:List (Nat × A)} {m1:List (Nat × Bk)} (j:Nat) (hK:Runs e ds n' os' ⟨s1,m1⟩ K) (h:stopOf (runN e.P ds j n os σ)=some (n',os',s1,m1):=by exact sfv):Runs e ds n os σ K:=runs_part j h hK
theorem gS {e:Env} {K:St->Prop} {ds:List (Option Nat)} {os:List Oper} {s:List (Nat × A)} {m m2:List (Nat × Bk)} {ety sz:Nat} {rows:List (List C)} {s2:Option Addr->Nat->List (Nat × A)} (k:Nat) (hK:∀ a cap,Runs e ds 0 os ⟨s2 a cap,(k,.buf (some (a,cap)) ety sz rows)::m2⟩ K)
  (hm:gm m k=some (.buf none ety sz rows):=by exact snv) (hs:∀ a cap,mapS (litB k a rows.length cap) s=s2 a cap:=by intro a cap;exact snv) (hr:remM k m=m2:=by exact snv):Runs e ds 0 os ⟨s,m⟩ K :=
 runs_turn (turn_pinB k hm) fun σ' ⟨a,cap,hσ⟩=>by subst hσ;simp only [hs,hr];exact hK a cap
theorem gO {e:Env} {K:St->Prop} {ds:List (Option Nat)} {os:List Oper} {s s2:List (Nat × A)} {m m2:List (Nat × Bk)} (t ety sz:Nat) (hK:Runs e ds 0 os ⟨(t,.buf t)::s2,(t,.buf none ety sz [])::m2⟩ K) (h0:0 < sz:=by decide) (hm:gs s t=.d (.clip []):=by simp only [pz,↓reduceIte,Nat.reduceEqDiff,Nat.reduceAdd,Nat.reduceSub,Nat.reduceMul,Nat.reduceLeDiff,Nat.reduceBEq,Bool.false_eq_true,decide_true,decide_false,Int.reduceLE,Int.reduceToNat,Int.reduceLT,Int.reduceEq,eq_self,Nat.reduceShiftRight,Nat.reduceAnd,Nat.reduceBneDiff])
  (hs:killK t s=s2:=by exact snv) (hr:remM t m=m2:=by exact snv):Runs e ds 0 os ⟨s,m⟩ K :=
 runs_turn (turn_own t ety sz h0 hm) fun σ' hσ=>by subst hσ;simp only [hs,hr];exact hK
theorem gK {e:Env} {K:St->Prop} {ds:List (Option Nat)} {os:List Oper} {s:List (Nat × A)} {m:List (Nat × Bk)} {x:A} (t:Nat) (hK:Runs e ds 0 os ⟨(t,x)::s,m⟩ K) (hx:nrm m (gs s t)=x:=by exact snv):Runs e ds 0 os ⟨s,m⟩ K :=
 runs_turn (turn_key t) fun σ' hσ=>by subst hσ;simp only [hx];exact hK
theorem gX {e:Env} {K:St->Prop} {ds:List (Option Nat)} {os:List Oper} {d t ty:Nat} {p:String} {ed:Array Edge} {parts:List (Nat × Operand)} {s:List (Nat × A)} {m:List (Nat × Bk)} {cs cs':List C} (hK:Runs e ds 0 os ⟨(d,.d (.agg cs'))::s,m⟩ K)
  (hz:zeroX e.P t=some cs:=by exact sny) (hst:isStructT e.P t=true:=by simp only [pz,↓reduceIte,Nat.reduceEqDiff,Nat.reduceAdd,Nat.reduceSub,Nat.reduceMul,Nat.reduceLeDiff,Nat.reduceBEq,Bool.false_eq_true,decide_true,decide_false,Int.reduceLE,Int.reduceToNat,Int.reduceLT,Int.reduceEq,eq_self,Nat.reduceShiftRight,Nat.reduceAnd,Nat.reduceBneDiff]) (hok:cs.all okCell=true:=by first | rfl | simp only [pz,↓reduceIte,Nat.reduceEqDiff,Nat.reduceAdd,Nat.reduceSub,Nat.reduceMul,Nat.reduceLeDiff,Nat.reduceBEq,Bool.false_eq_true,decide_true,decide_false,Int.reduceLE,Int.reduceToNat,Int.reduceLT,Int.reduceEq,eq_self,Nat.reduceShiftRight,Nat.reduceAnd,Nat.reduceBneDiff]) (hf:fillA e.P t cs (parts.map fun p=>(p.1,evA s p.2))=some cs':=by exact sfv):Runs e ds 0 (⟨some d,.build t parts.toArray,ty,p,ed,none⟩::os) ⟨s,m⟩ K:=runs_buildX hz hst hok hf hK
theorem pN {e:Env} {mask:Nat} {Q:PX->St->Prop} {c:Code} {s s2:List (Nat × A)} {m m2:List (Nat × Bk)} (κ ety sz:Nat) (hK:pwp e mask c ⟨s2,(κ,.buf (some (none,0)) ety sz [])::m2⟩ Q) (h0:0 < sz:=by decide) (hs:killK κ s=s2:=by exact snv) (hr:remM κ m=m2:=by exact snv):pwp e mask c ⟨s,m⟩ Q :=
 pwp_turn (turn_nil κ ety sz h0) fun σ' hσ=>by subst hσ;simp only [hs,hr];exact hK
theorem pD {e:Env} {mask:Nat} {Q:PX->St->Prop} {c:Code} {s s2:List (Nat × A)} {m m2:List (Nat × Bk)} {a:Option Addr} {cap ety sz:Nat} {rows:List (List C)} (k:Nat) (ts ks:List Nat) (hK:pwp e mask c ⟨s2,m2⟩ Q) (hm:gm m k=some (.buf (some (a,cap)) ety sz rows):=by exact snv)
  (hs:datS a rows.length cap rows ts (frzS k (.buf (some (a,cap)) ety sz rows) s)=s2:=by exact snv) (hr:datM a rows.length cap rows ks (remM k m)=m2:=by exact snv):pwp e mask c ⟨s,m⟩ Q :=
 pwp_turn (turn_dat k ts ks hm) fun σ' hσ=>by subst hσ;simp only [hs,hr];exact hK
theorem pV {e:Env} {mask:Nat} {Q:PX->St->Prop} {c:Code} {s:List (Nat × A)} {m m2:List (Nat × Bk)} {cs:List C} {s2:Nat->List (Nat × A)} (k:Nat) (hK:∀ b,(∀ k' b' cs',k'≠k->gm m k'=some (.var (some b') cs')->b≠b')->pwp e mask c ⟨s2 b,(k,.var (some b) cs)::m2⟩ Q)
  (hm:gm m k=some (.var none cs):=by exact snv) (hs:∀ b,mapS (litV k b) s=s2 b:=by intro b;exact snv) (hr:remM k m=m2:=by exact snv):pwp e mask c ⟨s,m⟩ Q :=
 pwp_turn (turn_pinV k hm) fun σ' ⟨b,hb,hσ⟩=>by subst hσ;simp only [hs,hr];exact hK b hb
theorem pS {e:Env} {mask:Nat} {Q:PX->St->Prop} {c:Code} {s:List (Nat × A)} {m m2:List (Nat × Bk)} {ety sz:Nat} {rows:List (List C)} {s2:Option Addr->Nat->List (Nat × A)} (k:Nat) (hK:∀ a cap,pwp e mask c ⟨s2 a cap,(k,.buf (some (a,cap)) ety sz rows)::m2⟩ Q)
  (hm:gm m k=some (.buf none ety sz rows):=by exact snv) (hs:∀ a cap,mapS (litB k a rows.length cap) s=s2 a cap:=by intro a cap;exact snv) (hr:remM k m=m2:=by exact snv):pwp e mask c ⟨s,m⟩ Q :=
 pwp_turn (turn_pinB k hm) fun σ' ⟨a,cap,hσ⟩=>by subst hσ;simp only [hs,hr];exact hK a cap
def Retold (pm pm':List Bk):Prop:=∀ (w:World) (S:Nat->Prop),(∀ x∈pm,PinRel w S x)->Apart pm->(∀ x∈pm',PinRel w S x)∧Apart pm'∧∀ g,pblks pm' g->pblks pm g
theorem gE {e:Env} {K:St->Prop} {ds:List (Option Nat)} {os:List Oper} {s s2:List (Nat × A)} {m m2 m3:List (Nat × Bk)} {pm pm':List Bk} (ks ks':List Nat) (hre:Retold pm pm') (hK:Runs e ds 0 os ⟨s2,m3⟩ K) (hpm:getM m ks=some pm:=by exact sny) (hn:ks.Nodup:=by decide) (hp:pm.all pinned=true:=by simp only [pz,↓reduceIte,Nat.reduceEqDiff,Nat.reduceAdd,Nat.reduceSub,Nat.reduceMul,Nat.reduceLeDiff,Nat.reduceBEq,Bool.false_eq_true,decide_true,decide_false,Int.reduceLE,Int.reduceToNat,Int.reduceLT,Int.reduceEq,eq_self,Nat.reduceShiftRight,Nat.reduceAnd,Nat.reduceBneDiff])
  (hs:killKs (ks++ks') s=s2:=by exact snv) (hr:remMs (ks++ks') m=m2:=by exact snv) (h3:zipM ks' pm'++m2=m3:=by exact snv):Runs e ds 0 os ⟨s,m⟩ K :=
 runs_turn (turn_re (Φ:=fun x=>x=pm') ks ks' hn hpm hp (fun w S h1 h2=>⟨pm',rfl,hre w S h1 h2⟩)) fun σ' ⟨q,hq,hσ⟩=>by subst hq hσ;simp only [hs,hr,h3];exact hK
theorem pE {e:Env} {mask:Nat} {Q:PX->St->Prop} {c:Code} {s s2:List (Nat × A)} {m m2 m3:List (Nat × Bk)} {pm pm':List Bk} (ks ks':List Nat) (hre:Retold pm pm') (hK:pwp e mask c ⟨s2,m3⟩ Q) (hpm:getM m ks=some pm:=by exact sny) (hn:ks.Nodup:=by decide) (hp:pm.all pinned=true:=by simp only [pz,↓reduceIte,Nat.reduceEqDiff,Nat.reduceAdd,Nat.reduceSub,Nat.reduceMul,Nat.reduceLeDiff,Nat.reduceBEq,Bool.false_eq_true,decide_true,decide_false,Int.reduceLE,Int.reduceToNat,Int.reduceLT,Int.reduceEq,eq_self,Nat.reduceShiftRight,Nat.reduceAnd,Nat.reduceBneDiff])
  (hs:killKs (ks++ks') s=s2:=by exact snv) (hr:remMs (ks++ks') m=m2:=by exact snv) (h3:zipM ks' pm'++m2=m3:=by exact snv):pwp e mask c ⟨s,m⟩ Q :=
 pwp_turn (turn_re (Φ:=fun x=>x=pm') ks ks' hn hpm hp (fun w S h1 h2=>⟨pm',rfl,hre w S h1 h2⟩)) fun σ' ⟨q,hq,hσ⟩=>by subst hq hσ;simp only [hs,hr,h3];exact hK
theorem gIP {e:Env} {f:FuncId} {fn:Func} {c:Code} {args:List D} {pm:List Bk} {m0:List (Nat × Bk)} {R:List D->List Bk->Prop} {ts:List RS} (keys:List Nat) (mask:Nat) (hf:e.P.funcs[f]?=some fn) (h:pwp e mask c ⟨initS 0 args,m0⟩ (retQP e.P ts R)) (hm:zipM keys pm=m0:=by exact snv) (hb:fn.body=some c:=by exact rfl) (hnm:(fn.name == "runtime.NumGoroutine")=false:=by kernel_rfl)
  (hok:okCode fn.ntmps c=true:=by kernel_rfl) (hal:Nat.ble args.length fn.ntmps=true:=by exact rfl) (hres:resSlots fn.results.toList=ts:=by exact rfl) (he:e.Ok:=by first | exact e0_ok | exact e1_ok | assumption):ConP e f args pm R:=conP_of_pwp he keys mask hf hb hnm hok hal hres (by rw [hm];exact h)
theorem gTP {X:Prop} {P:Program} {ts:List RS} {R:List D->List Bk->Prop} {σ:St} {r:List D} {pm:List Bk} (ks:List Nat) (hR:R r pm) (hx:retQP P ts R .ret σ->X:=by exact fun h=>pwp_ret h) (hr:resD P σ ts=some r:=by exact sfy) (hg:getM σ.m ks=some pm:=by exact sny) (hn:ks.Nodup:=by decide) (hp:pm.all pinned=true:=by simp only [pz,↓reduceIte,Nat.reduceEqDiff,Nat.reduceAdd,Nat.reduceSub,Nat.reduceMul,Nat.reduceLeDiff,Nat.reduceBEq,Bool.false_eq_true,decide_true,decide_false,Int.reduceLE,Int.reduceToNat,Int.reduceLT,Int.reduceEq,eq_self,Nat.reduceShiftRight,Nat.reduceAnd,Nat.reduceBneDiff]):X :=
 hx ⟨r,ks,pm,hg,hn,hp,hR,resOk_of hr⟩
end Go.Proofs.YtffmjghcpgpfpaaGreatDoor
namespace Go.Proofs.YtffmjghcpgpfpaaGreatDoor
open Go.RowKit
theorem okC.cell:∀ {f:F} {c:C},okC f c->okCell c=true
 | .int,.lit v,h=>by obtain ⟨n,rfl,_⟩:=h;rfl
 | .str,.lit v,h=>by obtain ⟨n,rfl,_⟩:=h;rfl
 | .bool,.lit v,h=>by obtain ⟨n,rfl⟩:=h;rfl
 | .sl t,.sl rows,h=>rfl
 | .int,.sl _,h=>False.elim h
 | .str,.sl _,h=>False.elim h
 | .bool,.sl _,h=>False.elim h
 | .sl _,.lit _,h=>False.elim h
 | f,.ptr _,h=>by cases f <;> exact False.elim h
 | f,.fn _ _,h=>by cases f <;> exact False.elim h
theorem okRow.cells:∀ {fs:List F} {cs:List C},okRow fs cs->cs.all okCell=true
 | [],[],_=>rfl
 | f::fs,c::cs,h=>by
  simp only [okRow] at h
  rw [List.all_cons,h.1.cell,okRow.cells h.2]
  rfl
 | [],_::_,h=>by simp [okRow] at h
 | _::_,[],h=>by simp [okRow] at h
theorem okRow.take {fs:List F} {cs:List C} (h:okRow fs cs) {n:Nat} (hn:fs.length=n):cs.length=n∧cs.take n=cs∧cs.drop n=[]:=by
 have:=h.len
 refine ⟨by omega,?_,?_⟩
 ·rw [List.take_of_length_le (by omega)]
 ·rw [List.drop_eq_nil_of_le (by omega)]
theorem RepVals.inside' {w:World} {S:Nat->Prop}:∀ {cs:List C} {us:List Value},RepVals w S cs us->RepVals w (fun b=>b < w.heap.size) cs us
 | [],[],_=>by simp [RepVals]
 | c::cs,u::us,h=>by
  simp only [RepVals] at h ⊢
  exact ⟨(Rep.inside c u h.1).mono (fun b hb=>hb.2),RepVals.inside' h.2⟩
 | [],_::_,h=>by simp [RepVals] at h
 | _::_,[],h=>by simp [RepVals] at h
theorem drop0 {α:Type} (l:List α):l.drop 0=l:=rfl
end Go.Proofs.YtffmjghcpgpfpaaGreatDoor
namespace Go.Proofs.YtffmjghcpgpfpaaGreatDoor
open Go.RowKit
section
variable {w:World} {S:Nat->Prop} {T:Nat}
theorem ne_u8 {f:F} {c:C} {z:Int} (h:okC f c) (hr:Rep w S c (.int .u8 z)):False:=by
 cases c with
 | lit v =>
  simp only [Rep] at hr
  subst hr
  cases f with
  | int=>obtain ⟨n,h,_⟩:=h;cases h
  | str=>obtain ⟨n,h,_⟩:=h;cases h
  | bool=>obtain ⟨n,h⟩:=h;cases h
  | sl t=>simp only [okC] at h
 | sl rows =>
  simp only [Rep] at hr
  obtain ⟨A,n,cap,hv,_⟩:=hr
  cases hv
 | ptr cs=>cases f <;> simp only [okC] at h
 | fn g cs=>cases f <;> simp only [okC] at h
theorem fields_ne (t:TN):∃ f fs,fieldsOf t=f::fs:=by cases t <;> exact ⟨_,_,rfl⟩
theorem rows_off (hT:∀ o u,w.cell? ⟨T,o,none⟩=some u->∃ z,u=.int .u8 z) {t:TN} {rows:List (List C)} {b off:Nat} (h0:0 < rows.length) (hok:okRows (fieldsOf t) rows) (h:RepRows w S b off rows):b≠T:=by
 rintro rfl
 cases rows with
 | nil=>simp at h0
 | cons r rs =>
  obtain ⟨f,fs,e⟩:=fields_ne t
  simp only [okRows,RepRows] at hok h
  rw [e] at hok
  cases r with
  | nil=>simp only [okRow] at hok;exact hok.1.elim
  | cons c cs =>
   simp only [okRow,RepRow] at hok h
   obtain ⟨⟨u,hu,hr⟩,_⟩:=h.1
   obtain ⟨z,rfl⟩:=hT off u hu
   exact ne_u8 hok.1.1 hr
mutual
theorem Rep.off (hT:∀ o u,w.cell? ⟨T,o,none⟩=some u->∃ z,u=.int .u8 z):∀ (f:F) (c:C) (v:Value),okC f c->Rep w S c v->Rep w (fun b=>S b∧b≠T) c v
 | _,.lit x,v,_,h=>by simpa [Rep] using h
 | .sl t,.sl rows,v,hok,h=>by
  simp only [okC] at hok
  simp only [Rep] at h ⊢
  obtain ⟨A,n,cap,hv,hn,hc,hm,hr⟩:=h
  refine ⟨A,n,cap,hv,hn,hc,hm,fun h0=>?_⟩
  obtain ⟨b,off,hA,hs,hb,hrows⟩:=hr h0
  exact ⟨b,off,hA,⟨hs,rows_off hT (by omega) hok hrows⟩,hb,RepRows.off hT (fieldsOf t) b off rows hok hrows⟩
 | .int,.sl _,_,hok,_=>by simp only [okC] at hok
 | .str,.sl _,_,hok,_=>by simp only [okC] at hok
 | .bool,.sl _,_,hok,_=>by simp only [okC] at hok
 | f,.ptr _,_,hok,_=>by cases f <;> simp only [okC] at hok
 | f,.fn _ _,_,hok,_=>by cases f <;> simp only [okC] at hok
theorem RepRows.off (hT:∀ o u,w.cell? ⟨T,o,none⟩=some u->∃ z,u=.int .u8 z):∀ (fs:List F) (b off:Nat) (rows:List (List C)),okRows fs rows->RepRows w S b off rows->RepRows w (fun b=>S b∧b≠T) b off rows
 | _,_,_,[],_,_=>by simp [RepRows]
 | fs,b,off,r::rs,hok,h=>by
  simp only [okRows] at hok
  simp only [RepRows] at h ⊢
  exact ⟨RepRow.off hT fs b off r hok.1 h.1,RepRows.off hT fs b _ rs hok.2 h.2⟩
theorem RepRow.off (hT:∀ o u,w.cell? ⟨T,o,none⟩=some u->∃ z,u=.int .u8 z):∀ (fs:List F) (b off:Nat) (cs:List C),okRow fs cs->RepRow w S b off cs->RepRow w (fun b=>S b∧b≠T) b off cs
 | _,_,_,[],_,_=>by simp [RepRow]
 | f::fs,b,off,c::cs,hok,h=>by
  simp only [okRow] at hok
  simp only [RepRow] at h ⊢
  obtain ⟨⟨u,hu,hr⟩,h2⟩:=h
  exact ⟨⟨u,hu,Rep.off hT f c u hok.1 hr⟩,RepRow.off hT fs b _ cs hok.2 h2⟩
 | [],_,_,c::cs,hok,_=>by simp only [okRow] at hok
end
theorem RepVals.off (hT:∀ o u,w.cell? ⟨T,o,none⟩=some u->∃ z,u=.int .u8 z):∀ (fs:List F) (cs:List C) (us:List Value),okRow fs cs->RepVals w S cs us->RepVals w (fun b=>S b∧b≠T) cs us
 | _,[],[],_,_=>by simp [RepVals]
 | f::fs,c::cs,u::us,hok,h=>by
  simp only [okRow] at hok
  simp only [RepVals] at h ⊢
  exact ⟨Rep.off hT f c u hok.1 h.1,RepVals.off hT fs cs us hok.2 h.2⟩
 | [],c::cs,_,hok,_=>by simp only [okRow] at hok
 | _::_,[],_,hok,_=>by simp only [okRow] at hok
 | _,[],_::_,_,h=>by simp [RepVals] at h
 | _,_::_,[],_,h=>by simp [RepVals] at h
end
theorem tab_u8 {w:World} (h:tabOk w):∀ o u,w.cell? ⟨2,o,none⟩=some u->∃ z,u=.int .u8 z:=fun o u hu=>by
 unfold tabOk at h
 unfold World.cell? at hu
 simp only [h] at hu
 unfold tabA at hu
 rw [if_neg (by simp),List.getElem?_toArray,List.getElem?_map] at hu
 obtain ⟨n,_,rfl⟩:=Option.map_eq_some_iff.1 hu
 exact ⟨_,rfl⟩
theorem tab_in {w:World} (h:tabOk w):∀ b,e0.E b->b < w.heap.size:=fun b hb=>by
 have hb:b=2:=hb
 subst hb
 unfold tabOk at h
 exact (Array.getElem?_eq_some_iff.1 h).1
theorem Kept.belowT {w w':World} (h:Kept e0.D e0.E w.heap.size w w') (h1:tabOk w) (h2:tabOk w'):Below w.heap.size w w':=⟨h.os,h.tape,h.output,h.size,fun k hk=>by
 by_cases e:k=2
 ·subst e;exact h2.trans h1.symm
 ·exact h.block k hk e⟩
end Go.Proofs.YtffmjghcpgpfpaaGreatDoor
namespace Go.Proofs.YtffmjghcpgpfpaaGreatDoor
open Go.ChangeShapes Go.WideShapes Go.ChangeAt Go.RowKit
abbrev seatLaid:List (String × DataW Unit):=[("math/bits.deBruijn32tab",Rows.laid_math_bits_deBruijn32tab),("math/bits.deBruijn64tab",Rows.laid_math_bits_deBruijn64tab),("internal/strconv.uint64pow10",Rows.laid_internal_strconv_uint64pow10)]
theorem door_met (os:Os) (args:Array Value):laidMetH Tryz.prog seatLaid ((World.doorLaid Tryz.prog 24 os).forCall (fun _ _=>0) ⟨#[],args,[]⟩).memory :=
 laidMetH_of_parts3 (fuel:=8) (laidMet_of_run' 8 (by kernel_rfl) (by kernel_rfl)) (by kernel_rfl) (by kernel_rfl)
theorem gTab:Tryz.prog.globalNamed "math/bits.deBruijn64tab" = some 2:=by kernel_rfl
theorem tTab:(Tryz.prog.globals[(2:Nat)]?).map (·.type)=some 277:=by kernel_rfl
theorem tab_row:∃ zero,((begin Tryz.prog (fun _ _=>0) default).world.heap[(2:Nat)]?).bind Obj.row?=some (zero,277):=⟨(List.replicate 64 (Value.int .u8 0)).toArray,by kernel_rfl⟩
theorem tabOk_of {W:World} (h:laidMetH Tryz.prog seatLaid W) (hs:W.ShapedOpen Tryz.prog):tabOk W:=by
 rw [MakeChecks.laidMetH_plain _ _ _ (by kernel_rfl)] at h
 have h2:=laidMet.tail h
 have h3:laidMet Tryz.prog [("math/bits.deBruijn64tab",Lib.tabData .u8 (tab64.map fun (n:Nat)=>(n:Int))),("internal/strconv.uint64pow10",Rows.laid_internal_strconv_uint64pow10)] W:=h2
 have h4:=Lib.tabIs_of_head gTab tTab (e:=5) (n:=64) (by kernel_rfl) (by kernel_rfl) (by kernel_rfl) (by kernel_rfl) h3
 obtain ⟨zero,hz⟩:=tab_row
 obtain ⟨cs,hh,_⟩:=hs.1 _ zero _ (by decide +kernel) hz
 unfold Lib.TabIs World.var? at h4
 rw [gTab] at h4
 simp only [Option.bind_some,hh,Option.some.injEq] at h4
 unfold tabOk
 rw [hh,h4]
 unfold tabA
 rw [List.map_map]
 rfl
section
variable {H:Type} {enc:TypeId × Value->H}
theorem returns_door {a:Assume} {C:Checked} {os:Os} {f:FuncId} {fn:Func} {s:ChangeSpec} {conds:List PathCond} {apart fresh handsOn again:Bool} {X:World->Array Value->Prop}
  (hX:∀ (w w':World) (args:Array Value),w.heap=w'.heap->X w args->X w' args)
  (own:ownKnob C.prog.godebug=none) (started:os.Started) (noInit:C.prog.inits.idxOf? f=none) (hfn:C.prog.funcs[f]?=some fn)
  (witness:∃ (w:World) (tape:Tape) (i:Input),w.os=os∧(w.forCall tape i).Shaped C.prog∧i.vars=[]∧Input.okWide C.prog (w.forCall tape i) .any w.heap.size f i ∧
   ((s.pre enc C.prog fn conds apart (w.forCall tape i).memory i.args∧X (w.forCall tape i).memory i.args)∧sizedMet enc C.prog fn (OpenSpec.ofChange s) apart (w.forCall tape i).memory i.args)∧a.holds C.prog (lone (Frame.enter C.prog f i.args .normal) [] (w.forCall tape i)))
  (contract:∀ (W:World) (base:Nat) (args:Array Value) (ds gs:List (DataW H)) (before:List MemPlace),
   (∀ (j:Nat) t v,fn.params[j]?=some t->args[j]?=some v->Value.okWide C.prog W .any base t v) ->
   DataW.Whole enc C.prog fn.params.toList s.vars apart W args.toList ds gs before ->
   conds.all (PathCond.test C.prog ⟨fn.params.toList,ds,s.plain.varTypes C.prog,gs⟩)=true ->
   (DataW.weightsEach C.prog (fn.params.toList++s.plain.varTypes C.prog) (ds++gs)).all (·<=reachBytes)=true->X W args->W.ShapedOpen C.prog ->
   a.holds C.prog (lone (Frame.enter C.prog f args .normal) [] W) ->
   Calls C.prog f args W fun e W'=>∃ v,e=.returned v∧s.post enc C.prog fn apart fresh handsOn again W args v W') :
  ReturnsInHanded a C os f .any (fun w args=>(s.pre enc C.prog fn conds apart w args∧X w args)∧sizedMet enc C.prog fn (OpenSpec.ofChange s) apart w args) (s.post enc C.prog fn apart fresh handsOn again):=by
 refine returnsInHanded_of_calls own started noInit witness ?_
 intro w tape i _ hsh _ hok hpre hholds
 obtain ⟨_,_,_,fn',hfn',_,_,_,_,hval⟩:=hok
 obtain rfl:fn'=fn:=Option.some.inj (hfn'.symm.trans hfn)
 obtain ⟨⟨⟨ds,gs,before,hw,hc⟩,hx⟩,hz⟩:=hpre
 refine (contract (w.forCall tape i) w.heap.size i.args ds gs before hval (DataW.Whole.of_heap (w':=w.forCall tape i) (by rfl) hw) hc (hz.weights hw) (hX _ _ _ (by rfl) hx) hsh hholds).mono fun e W' ⟨v,he,hp⟩=>?_
 subst he
 exact ChangeSpec.post_blind hp
end
end Go.Proofs.YtffmjghcpgpfpaaGreatDoor
namespace Go.Proofs.YtffmjghcpgpfpaaGreatDoor
open Go.ChangeShapes Go.WideShapes Go.ChangeAt Go.RowKit Go.Deep
theorem okWide_one {P:Program} {w:World} {r:Reach} {base:Nat} {t e:TypeId} {v:Value} (ht:P.underlying t=some (.slice e)) (h:Value.okWide P w r base t v):v.cells.toList=[v]:=by
 simp only [Value.okWide,ht] at h
 cases v <;> first
  | rfl
  | (exfalso;simp [Cell.okWide,ht,Cell.ok] at h)
theorem open_sl {w:World} {tn:TN} {row:List C} {v:Value} (hok:okRow [.sl tn] row) (h:RepVals w (fun _=>True) row [v]):∃ rows,okRows (fieldsOf tn) rows∧Rep w (fun _=>True) (.sl rows) v:=by
 match row,hok,h with
 | [c],hok,h =>
  simp only [okRow] at hok
  obtain ⟨rows,rfl,hr⟩:=okC_sl hok.1
  simp only [RepVals] at h
  exact ⟨rows,hr,h.1⟩
end Go.Proofs.YtffmjghcpgpfpaaGreatDoor
namespace Go.Proofs.YtffmjghcpgpfpaaGreatDoor
open Go.RowKit
theorem okRow_Term {r:List C} (h:okRow (fieldsOf .term) r):∃ (i0:Int) (t1:ByteArray) (i2:Int) (r3:List (List C)),r=[.lit (.int .i64 i0),.lit (.string t1),.lit (.int .i64 i2),.sl r3]∧I64 i0∧t1.size<=maxLen∧I64 i2∧okRows (fieldsOf .term) r3:=by
 obtain ⟨c0,c1,c2,c3,rfl⟩:=len4 h.len
 simp only [fieldsOf,termF,occF,sortsF,sigF,moduleF,algF,List.cons_append,List.nil_append,okRow,and_true] at h
 obtain ⟨h0,h1,h2,h3⟩:=h
 obtain ⟨i0,rfl,g0⟩:=okC_int h0
 obtain ⟨t1,rfl,g1⟩:=okC_str h1
 obtain ⟨i2,rfl,g2⟩:=okC_int h2
 obtain ⟨r3,rfl,g3⟩:=okC_sl h3
 exact ⟨i0,t1,i2,r3,rfl,g0,g1,g2,g3⟩
theorem mkRow_Term {i0:Int} {t1:ByteArray} {i2:Int} {r3:List (List C)} (g0:I64 i0) (g1:t1.size<=maxLen) (g2:I64 i2) (g3:okRows (fieldsOf .term) r3):okRow (fieldsOf .term) [.lit (.int .i64 i0),.lit (.string t1),.lit (.int .i64 i2),.sl r3]:=by
 simp only [fieldsOf,termF,occF,sortsF,sigF,moduleF,algF,List.cons_append,List.nil_append,okRow,and_true]
 exact ⟨mk_int g0,mk_str g1,mk_int g2,mk_sl g3⟩
theorem repVals_Term {w:World} {S:Nat->Prop} {i0:Int} {t1:ByteArray} {i2:Int} {r3:List (List C)} {us:List Value} (h:RepVals w S [.lit (.int .i64 i0),.lit (.string t1),.lit (.int .i64 i2),.sl r3] us):∃ v3,us=[.int .i64 i0,.string t1,.int .i64 i2,v3]∧Rep w S (.sl r3) v3:=by
 obtain ⟨u0,u1,u2,u3,rfl⟩:=len4 h.len
 simp only [RepVals,Rep.lit_iff,and_true] at h
 obtain ⟨rfl,rfl,rfl,e3⟩:=h
 exact ⟨u3,rfl,e3⟩
theorem mkVals_Term {w:World} {S:Nat->Prop} {i0:Int} {t1:ByteArray} {i2:Int} {r3:List (List C)} {v3:Value} (e3:Rep w S (.sl r3) v3):RepVals w S [.lit (.int .i64 i0),.lit (.string t1),.lit (.int .i64 i2),.sl r3] [.int .i64 i0,.string t1,.int .i64 i2,v3]:=by
 simp only [RepVals,Rep.lit_iff,and_true,true_and]
 exact e3
def szTermC (row:List C):Prop:=∀ (S:Nat->Prop) (us:List Value) (left:Int) (w:World),okRow (fieldsOf .term) row->RepVals w S row us->0<=left->left<=1048576 ->
 Calls Tryz.prog 10 #[.agg us.toArray,.int .i64 left] w fun e w'=>e=.returned (.int .i64 (sub left (bulkRow row)))∧Below w.heap.size w w'
def eqTermC (row:List C):Prop:=∀ (S S':Nat->Prop) (us us':List Value) (w:World),okRow (fieldsOf .term) row->RepVals w S row us->RepVals w S' row us' ->
 Calls Tryz.prog 18 #[.agg us.toArray,.agg us'.toArray] w fun e w'=>e=.returned (.bool true)∧Below w.heap.size w w'
def toTermC (row:List C):Prop:=∀ (S:Nat->Prop) (us:List Value) (w:World),okRow (fieldsOf .term) row->RepVals w S row us->bulkRow row<=1048576 ->
 Calls Tryz.prog 14 #[.agg us.toArray] w fun e w'=>∃ us':List Value,e=.returned (.agg us'.toArray)∧OwnVals w' row (fun x=>w.heap.size<=x∧x < w'.heap.size) us'∧Below w.heap.size w w'
def szTermSC (rows:List (List C)):Prop:=∀ (S:Nat->Prop) (v:Value) (left:Int) (w:World),okRows (fieldsOf .term) rows->Rep w S (.sl rows) v->0<=left->left<=1048576 ->
 Calls Tryz.prog 42 #[v,.int .i64 left] w fun e w'=>e=.returned (.int .i64 (sub left (rows.length+bulkRows rows)))∧Below w.heap.size w w'
def eqTermSC (rows:List (List C)):Prop:=∀ (S S':Nat->Prop) (v v':Value) (w:World),okRows (fieldsOf .term) rows->Rep w S (.sl rows) v->Rep w S' (.sl rows) v' ->
 Calls Tryz.prog 56 #[v,v'] w fun e w'=>e=.returned (.bool true)∧Below w.heap.size w w'
def toTermSC (rows:List (List C)):Prop:=∀ (S:Nat->Prop) (v:Value) (w:World),okRows (fieldsOf .term) rows->Rep w S (.sl rows) v->rows.length+bulkRows rows<=1048576 ->
 Calls Tryz.prog 48 #[v] w fun e w'=>∃ v',e=.returned v'∧Own w' (.sl rows) (fun x=>w.heap.size<=x∧x < w'.heap.size) v'∧Below w.heap.size w w'
set_option maxHeartbeats 1000000 in
theorem szTerm_of (row:List C) (h:∀ (rows:List (List C)),nodesRows rows < nodesRow row->szTermSC rows):szTermC row:=by
 intro S us left w hok hv h0 h1
 obtain ⟨i0,t1,i2,r3,rfl,g0,g1,g2,g3⟩:=okRow_Term hok
 obtain ⟨v3,rfl,e3⟩:=repVals_Term hv
 have HC3:=Lib.hid (h r3 (by simp [nodesRow,nodesC];omega))
 clear h
 have HB:=Lib.hid (show bulkRow [.lit (.int .i64 i0),.lit (.string t1),.lit (.int .i64 i2),.sl r3]=t1.size+(r3.length+bulkRows r3) from by simp only [bulkRow,bulkC];omega)
 have hs1:=g1
 unfold maxLen at hs1
 have G0:=Lib.hid g0
 have G1:=Lib.hid g1
 have G2:=Lib.hid g2
 have G3:=Lib.hid g3
 clear g0 g1 g2 g3 hok
 have E3:=Lib.hid e3
 clear hv e3
 generalize hrow:bulkRow [.lit (.int .i64 i0),.lit (.string t1),.lit (.int .i64 i2),.sl r3]=total at HB ⊢
 clear hrow
 have hbw:=(Below.refl w.heap.size w).alloc (Nat.le_refl _) (.cells #[.int .i64 i0,.string t1,.int .i64 i2,v3] 32)
 by_cases q1:left - (t1.size:Int) < 0
 ·go_enter Tryz.func10,Tryz.ntmps10
  go_wp2
  go_ret
  exact ⟨ret_int (a:=-1) (sub_neg (by have:=HB.out;omega)).symm,hbw⟩
 go_enter Tryz.func10,Tryz.ntmps10
 go_wp2_with fail
 by_cases q3:(left - (t1.size:Int)) < ((r3.length+bulkRows r3):Nat)
 ·refine (HC3.out S _ _ _ G3.out (E3.out.below hbw) (by omega) (by omega)).mono ?_
  rw [sub_neg (by omega)]
  rintro e w1 ⟨rfl,hb1⟩
  go_wp2
  go_ret
  exact ⟨ret_int (a:=-1) (sub_neg (by have:=HB.out;omega)).symm,hbw.trans (hb1.mono hbw.size)⟩
 refine (HC3.out S _ _ _ G3.out (E3.out.below hbw) (by omega) (by omega)).mono ?_
 rw [sub_pos (by omega)]
 rintro e w1 ⟨rfl,hb1⟩
 obtain ⟨hc1,hf1⟩:=bcell hb1
 have hz1:w.heap.size < w1.heap.size:=(by have:=hb1.size;(try simp at this);omega)
 replace hbw:=hbw.trans (hb1.mono hbw.size)
 go_wp2
 go_ret
 exact ⟨ret_int (by have:=HB.out;rw [sub_pos (by omega)];omega),hbw⟩
set_option maxHeartbeats 1000000 in
theorem eqTerm_of (row:List C) (h:∀ (rows:List (List C)),nodesRows rows < nodesRow row->eqTermSC rows):eqTermC row:=by
 intro S S' us us' w hok hv hv'
 obtain ⟨i0,t1,i2,r3,rfl,g0,g1,g2,g3⟩:=okRow_Term hok
 obtain ⟨v3,rfl,e3⟩:=repVals_Term hv
 obtain ⟨x3,rfl,d3⟩:=repVals_Term hv'
 have HC3:=Lib.hid (h r3 (by simp [nodesRow,nodesC];omega))
 clear h
 have G0:=Lib.hid g0
 have G1:=Lib.hid g1
 have G2:=Lib.hid g2
 have G3:=Lib.hid g3
 clear g0 g1 g2 g3 hok
 have E3:=Lib.hid e3
 have D3:=Lib.hid d3
 clear hv hv' e3 d3
 have hbw:=((Below.refl w.heap.size w).alloc (Nat.le_refl _) (.cells #[.int .i64 i0,.string t1,.int .i64 i2,v3] 46)).alloc (by simp) (.cells #[.int .i64 i0,.string t1,.int .i64 i2,x3] 46)
 go_enter Tryz.func18,Tryz.ntmps18
 go_wp2_with fail
 refine (HC3.out S S' _ _ _ G3.out (E3.out.below hbw) (D3.out.below hbw)).mono ?_
 rintro e w1 ⟨rfl,hb1⟩
 obtain ⟨hc1,hf1⟩:=bcell hb1
 have hz1:w.heap.size+1 < w1.heap.size:=(by have:=hb1.size;(try simp at this);omega)
 have ha1:w.heap.size < w1.heap.size:=by omega
 replace hbw:=hbw.trans (hb1.mono hbw.size)
 go_wp2
 go_ret
 exact ⟨rfl,hbw⟩
set_option maxHeartbeats 2000000 in
theorem toTerm_of (row:List C) (h:∀ (rows:List (List C)),nodesRows rows < nodesRow row->toTermSC rows):toTermC row:=by
 intro S us w hok hv hlen
 obtain ⟨i0,t1,i2,r3,rfl,g0,g1,g2,g3⟩:=okRow_Term hok
 obtain ⟨v3,rfl,e3⟩:=repVals_Term hv
 have HC3:=Lib.hid (h r3 (by simp [nodesRow,nodesC];omega))
 clear h
 have G0:=Lib.hid g0
 have G1:=Lib.hid g1
 have G2:=Lib.hid g2
 have G3:=Lib.hid g3
 clear g0 g1 g2 g3 hok
 have E3:=Lib.hid e3
 clear hv e3
 have hl3:(r3.length+bulkRows r3)<=1048576:=by
  have e:(r3.length+bulkRows r3)<=bulkRow [.lit (.int .i64 i0),.lit (.string t1),.lit (.int .i64 i2),.sl r3]:=by simp only [bulkRow,bulkC];omega
  exact Nat.le_trans e hlen
 clear hlen
 go_enter Tryz.func14,Tryz.ntmps14
 go_wp2_with fail
 refine (HC3.out S _ _ G3.out (by exact E3.out.below (by repeat (first | refine Below.alloc ?_ (by simp;try omega) _ | exact Below.refl _ _))) hl3).mono ?_
 rintro e w1 ⟨y3,rfl,hown3,hb1⟩
 obtain ⟨A3,n3,cap3,rfl,_,_,_⟩:=(Own.rep _ _ _ hown3).form
 have hz1:=hb1.size
 simp at hz1 hown3
 have HOWN3:=Lib.hid hown3
 clear hown3
 have hbw1:Below w.heap.size w w1:=Below.trans (by repeat (first | refine Below.alloc ?_ (by simp;try omega) _ | exact Below.refl _ _)) (hb1.mono (by simp;try omega))
 obtain ⟨hc1,hf1⟩:=bcell hb1
 have ha1:w.heap.size < w1.heap.size:=by omega
 have hbb1:w.heap.size+1 < w1.heap.size:=by omega
 have hcc1:w.heap.size+1+1 < w1.heap.size:=by omega
 go_wp2
 refine bodyPost_ret (v:=.agg #[.int .i64 i0,.string t1,.int .i64 i2,.slice A3 n3 cap3]) (by simp [results,Tryz.results14,go_sem,hc1,ha1,hbb1,hcc1]) rfl ⟨[.int .i64 i0,.string t1,.int .i64 i2,.slice A3 n3 cap3],rfl,?_,(by repeat (first | refine Below.setCell ?_ (by simp;try omega) _ | exact hbw1))⟩
 simp
 exact (OwnVals.lit (OwnVals.lit (OwnVals.lit (OwnVals.cons (fun x=>w.heap.size+1+1+1<=x∧x < w1.heap.size) (fun x=>w1.heap.size<=x∧x < w1.heap.size) (HOWN3.out.same (by repeat (first | refine Same.trans ?_ (Same.setCell _ _ _ _ (by simp;try omega)) | exact Same.refl _ _))) OwnVals.nil (fun x hx=>⟨by omega,by omega⟩) (fun x hx=>⟨by omega,by omega⟩) (fun x hx hy=>by omega)))))
set_option maxHeartbeats 1000000 in
theorem szTermS_of (rows:List (List C)) (h:∀ (i:Nat) r,rows[i]?=some r->szTermC r):szTermSC rows:=by
 intro S v left w hok hv h0 h1
 obtain ⟨A,m,cap,rfl,hm,hmc,hcm⟩:=hv.form
 have H:=Lib.hid h
 have HV:=Lib.hid hv
 have HM:=Lib.hid hm
 have HOK:=Lib.hid hok
 clear h hv hm hok
 unfold maxLen at hcm
 by_cases hlt:left - m < 0
 ·rw [sub_neg (by have:=HM.out;omega)]
  go_enter Tryz.func42,Tryz.ntmps42
  go_wp2
  go_ret
  exact ⟨rfl,Below.refl _ _⟩
 ·go_enter Tryz.func42,Tryz.ntmps42
  go_wp2
  go_loopw [1,5] (fun l i wr=>∃ k:Nat,k<=m∧i=.int .i64 k∧l=.int .i64 (left - m - (bulkRows (rows.take k):Int))∧0<=left - m - (bulkRows (rows.take k):Int)∧Below w.heap.size w wr) (fun _ i _=>m - (intOf i).toNat)
  case atStart=>exact ⟨0,Nat.zero_le _,rfl,by simp [bulkRows],by simp [bulkRows];omega,Below.refl _ _⟩
  case round =>
   obtain ⟨k,hk,rfl,rfl,hl0,hb⟩:=hrel
   by_cases hkm:k < m
   ·obtain ⟨b,off,r,rfl,hS,hbz,hget,hokr,hrow⟩:=(HV.out.below hb).get HOK.out hkm
    obtain ⟨u0,u1,u2,u3,c0,c1,c2,c3,hvals⟩:=hrow.vals4 hokr.len
    have HT:=H.out k r hget
    have HVALS:=Lib.hid hvals
    have HOKR:=Lib.hid hokr
    have HBT:=Lib.hid (bulk_take hget)
    have hle:=bulk_take_le rows (k+1)
    clear hvals hokr hrow hget
    simp only [fieldsOf,termF,occF,sortsF,sigF,moduleF,algF,List.cons_append,List.nil_append,List.length_cons,List.length_nil,Nat.reduceAdd,Nat.mul_one] at c0 c1 c2 c3
    by_cases h2:left - m - (bulkRows (rows.take k):Int) < bulkRow r
    ·go_wp2_with fail
     refine (HT S _ _ _ HOKR.out HVALS.out (by omega) (by omega)).mono ?_
     rw [sub_neg h2]
     rintro e w' ⟨rfl,hb2⟩
     go_wp2
     go_ret
     exact ⟨ret_int (a:=-1) (sub_neg (by have:=HBT.out;have:=HM.out;omega)).symm,hb.trans (hb2.mono hb.size)⟩
    ·go_wp2_with fail
     refine (HT S _ _ _ HOKR.out HVALS.out (by omega) (by omega)).mono ?_
     rw [sub_pos (by omega)]
     rintro e w' ⟨rfl,hb2⟩
     go_wp2
     go_roundw
     case rel=>exact ⟨k+1,by omega,by go_num,by have:=HBT.out;congr 1;omega,by have:=HBT.out;omega,hb.trans (hb2.mono hb.size)⟩
     case measure=>simp [intOf];omega
   ·go_wp2
    go_ret
    have e:k=m:=by omega
    subst e
    have:rows.take k=rows:=List.take_of_length_le (by have:=HM.out;omega)
    rw [this] at hl0 ⊢
    exact ⟨ret_int (by have:=HM.out;rw [sub_pos (by omega)];omega),hb⟩
set_option maxHeartbeats 1000000 in
theorem eqTermS_of (rows:List (List C)) (h:∀ (i:Nat) r,rows[i]?=some r->eqTermC r):eqTermSC rows:=by
 intro S S' v v' w hok hv hv'
 obtain ⟨A,m,cap,rfl,hm,hmc,hcm⟩:=hv.form
 obtain ⟨A',m',cap',rfl,hm',hmc',hcm'⟩:=hv'.form
 obtain rfl:m=m':=by omega
 have H:=Lib.hid h
 have HV:=Lib.hid hv
 have HV':=Lib.hid hv'
 have HM:=Lib.hid hm
 have HOK:=Lib.hid hok
 clear h hv hm hok hm' hv'
 unfold maxLen at hcm hcm'
 go_enter Tryz.func56,Tryz.ntmps56
 go_wp2
 go_loopw [5] (fun i wr=>∃ k:Nat,k<=m∧i=.int .i64 k∧Below w.heap.size w wr) (fun i _=>m - (intOf i).toNat)
 case atStart=>exact ⟨0,Nat.zero_le _,rfl,Below.refl _ _⟩
 case round =>
  obtain ⟨k,hk,rfl,hb⟩:=hrel
  by_cases hkm:k < m
  ·obtain ⟨b,off,r,rfl,hS,hbz,hget,hokr,hrow⟩:=(HV.out.below hb).get HOK.out hkm
   obtain ⟨b',off',r',rfl,hS',hbz',hget',hokr',hrow'⟩:=(HV'.out.below hb).get HOK.out hkm
   obtain rfl:r=r':=by rw [hget] at hget';exact Option.some.inj hget'
   obtain ⟨u0,u1,u2,u3,c0,c1,c2,c3,hvals⟩:=hrow.vals4 hokr.len
   obtain ⟨x0,x1,x2,x3,d0,d1,d2,d3,hvals'⟩:=hrow'.vals4 hokr.len
   have HT:=H.out k r hget
   have HVALS:=Lib.hid hvals
   have HVALS':=Lib.hid hvals'
   have HOKR:=Lib.hid hokr
   clear hvals hvals' hokr hokr' hrow hrow' hget hget'
   simp only [fieldsOf,termF,occF,sortsF,sigF,moduleF,algF,List.cons_append,List.nil_append,List.length_cons,List.length_nil,Nat.reduceAdd,Nat.mul_one] at c0 c1 c2 c3 d0 d1 d2 d3
   have k0:(0:Int)<=(k:Int):=by omega
   have k1:(k:Int) < (m:Int):=by omega
   go_wp2_with fail
   go_region_held3 (fun w'=>∀ b o,b < wr.heap.size->w'.cell? ⟨b,o,none⟩=wr.cell? ⟨b,o,none⟩) (first | go_keep | exact fun b o h=>hb2.cell (p:=⟨b,o,none⟩) h) (first | (go_at_call 18;refine (HT S S' _ _ _ HOKR.out (HVALS.out.below (Below.refl _ _).drew) (HVALS'.out.below (Below.refl _ _).drew)).mono ?_;rintro e w' ⟨rfl,hb2⟩))
   go_wp2
   go_roundw
   case rel=>exact ⟨k+1,by omega,by go_num,hb.trans ((Below.refl _ _).drew.trans (hb2.mono hb.size))⟩
   case measure=>simp [intOf];omega
  ·go_wp2
   go_ret
   exact ⟨rfl,hb⟩
theorem info_Term:(Tryz.prog.info? 46).map (fun i=>(i.zero,i.size,i.bytes))=some (some (.agg #[.int .i64 0,.string .empty,.int .i64 0,.slice none 0 0]),4,56):=by kernel_rfl
set_option maxHeartbeats 1000000 in
theorem toTermS_of (rows:List (List C)) (h:∀ (i:Nat) r,rows[i]?=some r->toTermC r):toTermSC rows:=by
 intro S v w hok hv hlen
 obtain ⟨A,m,cap,rfl,hm,hmc,hcm⟩:=hv.form
 obtain ⟨i0,hi,hz0,hz1,hz2⟩:=info_parts info_Term
 have H:=Lib.hid h
 have HV:=Lib.hid hv
 have HM:=Lib.hid hm
 have HOK:=Lib.hid hok
 have hml:m<=1048576:=by omega
 clear h hv hm hok
 unfold maxLen at hcm
 have hmk:=run_make (P:=Tryz.prog) w 44 46 i0 _ Tryz.underlying44 hi hz0 .i64 .i64 (m:Int) (m:Int) (by omega) (by omega) (by rw [hz2];omega) (by omega)
 go_enter Tryz.func48,Tryz.ntmps48
 go_wp2
 clear hmk
 go_loopw [4] (fun i wr=>∃ k:Nat,k<=m∧i=.int .i64 k∧Filling w w.heap.size 46 m 4 rows k wr) (fun i _=>m - (intOf i).toNat)
 case atStart=>exact ⟨0,Nat.zero_le _,rfl,Filling.start (size_madeCells _ _)⟩
 case round =>
  obtain ⟨k,hk,rfl,hfill⟩:=hrel
  have hb:=hfill.1
  by_cases hkm:k < m
  ·obtain ⟨b,off,r,rfl,hS,hbz,hget,hokr,hrow⟩:=(HV.out.below hb).get HOK.out hkm
   obtain ⟨u0,u1,u2,u3,c0,c1,c2,c3,hvals⟩:=hrow.vals4 hokr.len
   have HT:=H.out k r hget
   have HVALS:=Lib.hid hvals
   have HOKR:=Lib.hid hokr
   have HGET:=Lib.hid hget
   have HF:=Lib.hid hfill
   have hbg:=bulk_get hget
   clear hvals hokr hrow hget hfill
   simp only [fieldsOf,termF,occF,sortsF,sigF,moduleF,algF,List.cons_append,List.nil_append,List.length_cons,List.length_nil,Nat.reduceAdd,Nat.mul_one] at c0 c1 c2 c3
   go_wp2_with fail
   refine (HT S _ _ HOKR.out HVALS.out (by omega)).mono ?_
   rintro e w2 ⟨us,rfl,hown,hb2⟩
   have hone:=HOKR.out.one (OwnVals.rep _ _ (fun _=>True) _ (fun _ _=>trivial) hown)
   obtain ⟨y0,y1,y2,y3,rfl⟩:=len4 (hown.len.trans HOKR.out.len)
   have HOWN:=Lib.hid hown
   have HONE:=Lib.hid hone
   obtain ⟨cur,hcur,hcs⟩:=HF.out.row hb2
   have HCUR:=Lib.hid hcur
   have HCS:=Lib.hid hcs
   clear hown hone hcur hcs
   go_wp2_with (refine wpList_store_put rfl 46 _ _ rfl w.heap.size (k * 4) rfl [y0,y1,y2,y3] rfl i0 hi hz1 46 cur HCUR.out (by have:=HCS.out;simp only [List.length_cons,List.length_nil];omega) HONE.out ?_;intro w3 hput)
   go_roundw
   case rel=>exact ⟨k+1,by omega,by go_num,HF.out.step (fs:=fieldsOf .term) HOK.out HGET.out hb2 HOWN.out hput⟩
   case measure=>simp [intOf];omega
  ·go_wp2
   go_ret
   have e:k=m:=by omega
   subst e
   exact ⟨_,rfl,hfill.done HM.out (by unfold maxLen;omega) (by decide) HOK.out.lens⟩
theorem szTermS_all (n:Nat):∀ rows,nodesRows rows < n->szTermSC rows:=by
 induction n with
 | zero=>intro rows h;omega
 | succ n ih=>exact fun rows h=>szTermS_of rows (fun i r hr=>szTerm_of r (fun rows' h'=>ih rows' (by have:=nodes_get hr;omega)))
theorem szTermS_any (rows:List (List C)):szTermSC rows:=szTermS_all _ rows (Nat.lt_succ_self _)
theorem szTerm_any (row:List C):szTermC row:=szTerm_of row (fun rows _=>szTermS_any rows)
theorem eqTermS_all (n:Nat):∀ rows,nodesRows rows < n->eqTermSC rows:=by
 induction n with
 | zero=>intro rows h;omega
 | succ n ih=>exact fun rows h=>eqTermS_of rows (fun i r hr=>eqTerm_of r (fun rows' h'=>ih rows' (by have:=nodes_get hr;omega)))
theorem eqTermS_any (rows:List (List C)):eqTermSC rows:=eqTermS_all _ rows (Nat.lt_succ_self _)
theorem eqTerm_any (row:List C):eqTermC row:=eqTerm_of row (fun rows _=>eqTermS_any rows)
theorem toTermS_all (n:Nat):∀ rows,nodesRows rows < n->toTermSC rows:=by
 induction n with
 | zero=>intro rows h;omega
 | succ n ih=>exact fun rows h=>toTermS_of rows (fun i r hr=>toTerm_of r (fun rows' h'=>ih rows' (by have:=nodes_get hr;omega)))
theorem toTermS_any (rows:List (List C)):toTermSC rows:=toTermS_all _ rows (Nat.lt_succ_self _)
theorem toTerm_any (row:List C):toTermC row:=toTerm_of row (fun rows _=>toTermS_any rows)
end Go.Proofs.YtffmjghcpgpfpaaGreatDoor
namespace Go.Proofs.YtffmjghcpgpfpaaGreatDoor
open Go.RowKit
inductive Tm where
 | mk (op:Int) (name:ByteArray) (sort:Int) (args:List Tm)
def Tm.args:Tm->List Tm | .mk _ _ _ a=>a
def Tm.op:Tm->Int | .mk a _ _ _=>a
def Tm.name:Tm->ByteArray | .mk _ a _ _=>a
def Tm.sort:Tm->Int | .mk _ _ a _=>a
mutual
def encTm:Tm->List C
 | .mk op nm so args=>[.lit (.int .i64 op),.lit (.string nm),.lit (.int .i64 so),.sl (encTms args)]
def encTms:List Tm->List (List C)
 | []=>[]
 | t::ts=>encTm t::encTms ts
end
mutual
def okTm:Tm->Prop
 | .mk op nm so args=>I64 op∧nm.size<=maxLen∧I64 so∧okTms args
def okTms:List Tm->Prop
 | []=>True
 | t::ts=>okTm t∧okTms ts
end
theorem encTms_eq (ts:List Tm):encTms ts=ts.map encTm:=by
 induction ts with
 | nil=>simp [encTms]
 | cons t ts ih=>simp [encTms,ih]
theorem encTms_len (ts:List Tm):(encTms ts).length=ts.length:=by simp [encTms_eq]
theorem encTms_get (ts:List Tm) (i:Nat):(encTms ts)[i]?=ts[i]?.map encTm:=by simp [encTms_eq]
mutual
theorem okRow_enc:∀ (t:Tm),okTm t->okRow (fieldsOf .term) (encTm t)
 | .mk op nm so args,h=>by
  simp only [okTm] at h
  simp only [encTm]
  exact mkRow_Term h.1 h.2.1 h.2.2.1 (okRows_enc args h.2.2.2)
theorem okRows_enc:∀ (ts:List Tm),okTms ts->okRows (fieldsOf .term) (encTms ts)
 | [],_=>by simp [encTms,okRows]
 | t::ts,h=>by
  simp only [okTms] at h
  simp only [encTms,okRows]
  exact ⟨okRow_enc t h.1,okRows_enc ts h.2⟩
end
theorem dec_both (n:Nat):(∀ row,nodesRow row < n->okRow (fieldsOf .term) row->∃ t,row=encTm t∧okTm t)∧(∀ rows,nodesRows rows < n->okRows (fieldsOf .term) rows->∃ ts,rows=encTms ts∧okTms ts):=by
 induction n with
 | zero=>exact ⟨fun _ h=>by omega,fun _ h=>by omega⟩
 | succ n ih =>
  have h1:∀ row,nodesRow row < n+1->okRow (fieldsOf .term) row->∃ t,row=encTm t∧okTm t:=by
   intro row hn hok
   obtain ⟨i0,t1,i2,r3,rfl,g0,g1,g2,g3⟩:=okRow_Term hok
   obtain ⟨ts,rfl,hts⟩:=ih.2 r3 (by simp only [nodesRow,nodesC] at hn;omega) g3
   exact ⟨.mk i0 t1 i2 ts,by simp [encTm],by simp only [okTm];exact ⟨g0,g1,g2,hts⟩⟩
  refine ⟨h1,fun rows=>?_⟩
  induction rows with
  | nil=>exact fun _ _=>⟨[],by simp [encTms],by simp [okTms]⟩
  | cons r rs ihr =>
   intro hn hok
   simp only [nodesRows] at hn
   simp only [okRows] at hok
   obtain ⟨t,rfl,ht⟩:=h1 r (by omega) hok.1
   obtain ⟨ts,rfl,hts⟩:=ihr (by omega) hok.2
   exact ⟨t::ts,by simp [encTms],by simp only [okTms];exact ⟨ht,hts⟩⟩
theorem decTm {row:List C} (h:okRow (fieldsOf .term) row):∃ t,row=encTm t∧okTm t:=(dec_both _).1 row (Nat.lt_succ_self _) h
theorem decTms {rows:List (List C)} (h:okRows (fieldsOf .term) rows):∃ ts,rows=encTms ts∧okTms ts:=(dec_both _).2 rows (Nat.lt_succ_self _) h
theorem okTms.mem:∀ {ts:List Tm} {t:Tm},okTms ts->t∈ts->okTm t
 | [],_,_,h=>by simp at h
 | x::xs,t,h,ht=>by
  simp only [okTms] at h
  rcases List.mem_cons.1 ht with rfl | ht
  ·exact h.1
  ·exact okTms.mem h.2 ht
def cmpInt (a b:Int):Int:=if a < b then -1 else if b < a then 1 else 0
def cmpStr (a b:ByteArray):Int:=Lib.compareBytes a.data.toList b.data.toList
def firstNZ:List Int->Int
 | []=>0
 | x::xs=>if x=0 then firstNZ xs else x
mutual
def cmpTm:Tm->Tm->Int
 | .mk o n s a,.mk o' n' s' a'=>firstNZ [cmpInt o o',cmpStr n n',cmpInt s s',cmpTms a a']
def cmpTms:List Tm->List Tm->Int
 | [],[]=>0
 | [],_::_=>-1
 | _::_,[]=>1
 | x::xs,y::ys=>firstNZ [cmpTm x y,cmpTms xs ys]
end
theorem compareBytes_self:∀ (l:List UInt8),Lib.compareBytes l l=0
 | []=>rfl
 | x::xs=>by simp [Lib.compareBytes,compareBytes_self xs]
theorem compareBytes_zero:∀ {l m:List UInt8},Lib.compareBytes l m=0->l=m
 | [],[],_=>rfl
 | [],_::_,h=>by simp [Lib.compareBytes] at h
 | _::_,[],h=>by simp [Lib.compareBytes] at h
 | x::xs,y::ys,h=>by
  simp only [Lib.compareBytes] at h
  split at h
  ·simp at h
  ·split at h
   ·simp at h
   ·rename_i h1 h2
    have e:x=y:=UInt8.le_antisymm (UInt8.not_lt.1 h2) (UInt8.not_lt.1 h1)
    rw [e,compareBytes_zero h]
theorem compareBytes_less:∀ (l m:List UInt8),Op.bytesLess l m=decide (Lib.compareBytes l m=-1)
 | [],[]=>by simp [Op.bytesLess,Lib.compareBytes]
 | [],_::_=>by simp [Op.bytesLess,Lib.compareBytes]
 | _::_,[]=>by simp [Op.bytesLess,Lib.compareBytes]
 | x::xs,y::ys=>by
  have ih:=compareBytes_less xs ys
  simp only [Op.bytesLess,Lib.compareBytes,ih]
  by_cases h1:x < y
  ·simp [h1]
  ·by_cases h2:y < x
   ·have:¬ x=y:=fun e=>by subst e;exact h1 h2
    simp [h1,h2,this]
   ·have e:x=y:=UInt8.le_antisymm (UInt8.not_lt.1 h2) (UInt8.not_lt.1 h1)
    subst e
    simp [h1]
theorem compareBytes_range:∀ (l m:List UInt8),Lib.compareBytes l m=-1∨Lib.compareBytes l m=0∨Lib.compareBytes l m=1
 | [],[]=>by simp [Lib.compareBytes]
 | [],_::_=>by simp [Lib.compareBytes]
 | _::_,[]=>by simp [Lib.compareBytes]
 | x::xs,y::ys=>by
  have ih:=compareBytes_range xs ys
  simp only [Lib.compareBytes]
  split
  ·simp
  ·split
   ·simp
   ·exact ih
theorem cmpInt_zero {a b:Int}:cmpInt a b=0 ↔ a=b:=by unfold cmpInt;split <;> (try split) <;> simp <;> omega
theorem cmpStr_zero {a b:ByteArray}:cmpStr a b=0 ↔ a=b:=by
 constructor
 ·intro h
  have:=compareBytes_zero h
  obtain ⟨⟨la⟩⟩:=a
  obtain ⟨⟨lb⟩⟩:=b
  simp at this
  rw [this]
 ·rintro rfl
  exact compareBytes_self _
theorem cmpStr_range (a b:ByteArray):cmpStr a b=-1∨cmpStr a b=0∨cmpStr a b=1:=compareBytes_range _ _
theorem cmpTms_step:∀ {ps qs:List Tm} {k:Nat} {x y:Tm},ps[k]?=some x->qs[k]?=some y->cmpTms (ps.drop k) (qs.drop k)=firstNZ [cmpTm x y,cmpTms (ps.drop (k+1)) (qs.drop (k+1))]:=by
 intro ps qs k x y h1 h2
 have e1:ps.drop k=x::ps.drop (k+1):=by
  obtain ⟨hl,hx⟩:=List.getElem?_eq_some_iff.1 h1
  rw [<- hx];exact List.drop_eq_getElem_cons hl
 have e2:qs.drop k=y::qs.drop (k+1):=by
  obtain ⟨hl,hx⟩:=List.getElem?_eq_some_iff.1 h2
  rw [<- hx];exact List.drop_eq_getElem_cons hl
 rw [e1,e2,cmpTms]
end Go.Proofs.YtffmjghcpgpfpaaGreatDoor
namespace Go.Proofs.YtffmjghcpgpfpaaGreatDoor
open Go.RowKit
theorem cmpCompare (a b:Int) (w:World):Calls Tryz.prog 133 #[.int .i64 a,.int .i64 b] w fun e w'=>e=.returned (.int .i64 (cmpInt a b))∧w=w':=by
 unfold cmpInt
 by_cases h1:a < b
 ·rw [if_pos h1]
  go_enter Tryz.func133,Tryz.ntmps133
  go_wp2
  go_ret
  exact ⟨rfl,rfl⟩
 ·by_cases h2:b < a
  ·rw [if_neg h1,if_pos h2]
   go_enter Tryz.func133,Tryz.ntmps133
   go_wp2
   go_ret
   exact ⟨rfl,rfl⟩
  ·rw [if_neg h1,if_neg h2]
   go_enter Tryz.func133,Tryz.ntmps133
   go_wp2
   go_ret
   exact ⟨rfl,rfl⟩
set_option maxRecDepth 100000 in
theorem bytealgCompare (a b:ByteArray) (w:World):Calls Tryz.prog 201 #[.string a,.string b] w fun e w'=>e=.returned (.int .i64 (cmpStr a b))∧w=w':=by
 go_enter Tryz.func201,Tryz.ntmps201
 go_wp2
 rw [run_callFunc_extern Tryz.func240 (by kernel_rfl) (by kernel_rfl) (by kernel_rfl) (e:=Extern.BytealgCompare.compare) (by kernel_rfl),Lib.run_compareString]
 simp only [Result.andThen]
 rw [Oper.upon_value]
 go_wp2
 go_ret
 exact ⟨rfl,rfl⟩
theorem stringsCompare (a b:ByteArray) (w:World):Calls Tryz.prog 134 #[.string a,.string b] w fun e w'=>e=.returned (.int .i64 (cmpStr a b))∧w=w':=by
 go_enter Tryz.func134,Tryz.ntmps134
 go_wp2_with fail
 refine (bytealgCompare _ _ _).mono ?_
 rintro e w' ⟨rfl,rfl⟩
 go_wp2
 go_ret
 exact ⟨rfl,rfl⟩
theorem firstNZ_drop {l:List Int} {k:Nat} {x:Int} (h:l[k]?=some x):firstNZ (l.drop k)=if x=0 then firstNZ (l.drop (k+1)) else x:=by
 obtain ⟨hl,hx⟩:=List.getElem?_eq_some_iff.1 h
 rw [List.drop_eq_getElem_cons hl,hx,firstNZ]
set_option maxHeartbeats 1000000 in
theorem cmpOr (l:List Int) (g n cap:Nat) (w:World) (hn:l.length=n) (hm:n<=9223372036854775807) (hc:∀ (i:Nat) x,l[i]?=some x->w.cell? ⟨g,i,none⟩=some (.int .i64 x)) :
  Calls Tryz.prog 132 #[.slice (some ⟨g,0,none⟩) n cap] w fun e w'=>e=.returned (.int .i64 (firstNZ l))∧w=w':=by
 have HC:=Lib.hid hc
 have HN:=Lib.hid hn
 clear hc hn
 go_enter Tryz.func132,Tryz.ntmps132
 go_wp2
 go_loop [8] (fun i=>∃ k:Nat,k<=n∧i=.int .i64 k∧firstNZ l=firstNZ (l.drop k)) (fun i=>n - (intOf i).toNat)
 case atStart=>exact ⟨0,Nat.zero_le _,rfl,rfl⟩
 case round =>
  obtain ⟨k,hk,rfl,hz⟩:=hrel
  have HZ:=Lib.hid hz
  clear hz
  by_cases hkn:k < n
  ·have hget:l[k]?=some (l[k]'(by have:=HN.out;omega)):=List.getElem?_eq_getElem _
   generalize (l[k]'(by have:=HN.out;omega))=x at hget
   have hcell:=HC.out k x hget
   have hd:=Lib.hid (firstNZ_drop hget)
   clear hget
   by_cases hx:x=0
   ·subst hx
    go_wp2
    go_round
    case rel=>exact ⟨k+1,by omega,by go_num,by rw [HZ.out,hd.out,if_pos rfl]⟩
    case measure=>simp [intOf];omega
   ·have hx1:(x==0)=false:=by simpa using hx
    have hx2:(x != 0)=true:=by simpa using hx
    go_wp2
    go_ret
    exact ⟨ret_int (by rw [HZ.out,hd.out,if_neg hx]),rfl⟩
  ·go_wp2
   go_ret
   refine ⟨ret_int ?_,rfl⟩
   rw [HZ.out,List.drop_eq_nil_of_le (by have:=HN.out;omega)]
   rfl
end Go.Proofs.YtffmjghcpgpfpaaGreatDoor
namespace Go.Proofs.YtffmjghcpgpfpaaGreatDoor
open Go.RowKit
theorem tm_len (t:Tm):(encTm t).length=4:=by cases t;rfl
theorem tm_take (t:Tm):(encTm t).take 4=encTm t:=by cases t;rfl
theorem tm_drop (t:Tm):(encTm t).drop 4=[]:=by cases t;rfl
theorem tm_ok (t:Tm):(encTm t).all okCell=true:=by cases t;rfl
theorem rb_tm (ts:List Tm):rowsB 4 (encTms ts)=true:=by
 rw [encTms_eq]
 exact rowsB_map (e:=encTm) (n:=4) (fun t=>by rw [tm_len,tm_ok];rfl) ts
theorem tm_v0 (t:Tm):valT .one (encTm t)=some (.d (.one (.lit (.int .i64 t.op)))):=by cases t;rfl
theorem tm_d1 (t:Tm):(encTm t).drop 1=[.lit (.string t.name),.lit (.int .i64 t.sort),.sl (encTms t.args)]:=by cases t;rfl
theorem tm_d2 (t:Tm):(encTm t).drop 2=[.lit (.int .i64 t.sort),.sl (encTms t.args)]:=by cases t;rfl
theorem tm_d3 (t:Tm):(encTm t).drop 3=[.sl (encTms t.args)]:=by cases t;rfl
theorem tmz:type_of% (ai tm_v0 (ai tm_d1 (ai tm_d2 (ai tm_d3 (ai tm_len (ai tm_take (ai tm_drop (ai tm_ok (ai rb_tm (ai encTms_get (ai encTms_len @drop0))))))))))):=(ai tm_v0 (ai tm_d1 (ai tm_d2 (ai tm_d3 (ai tm_len (ai tm_take (ai tm_drop (ai tm_ok (ai rb_tm (ai encTms_get (ai encTms_len @drop0)))))))))))
end Go.Proofs.YtffmjghcpgpfpaaGreatDoor
namespace Go.Proofs.YtffmjghcpgpfpaaGreatDoor
open Go.RowKit
theorem con_same {e:Env} {f:FuncId} {args:List D} {x:Value} (hb:hasBody e.P f=true) (h:∀ (w:World) (S:Nat->Prop) (vs:List Value),DsRel w S args vs->Calls e.P f vs.toArray w fun en w'=>en=.returned x∧w=w'):Con e f args [.one (.lit x)] :=
 ⟨hb,fun w S vs _ _ hG hv=>(h w S vs hv).mono fun en w' ⟨h1,h2⟩=>by subst h2;exact ⟨x,h1,Kept.refl ..,hG,by simp [retA,ARel,DRel,Rep]⟩⟩
theorem con_when {e:Env} {f:FuncId} {args r:List D} {φ:Prop} (hb:hasBody e.P f=true) (hφ:∀ (w:World) (S:Nat->Prop) (vs:List Value),DsRel w S args vs->φ) (h:φ->Con e f args r):Con e f args r :=
 ⟨hb,fun w S vs h1 h2 h3 h4=>(h (hφ w S vs h4)).2 w S vs h1 h2 h3 h4⟩
theorem con_cmpI1 (a b:Int):Con e1 133 [.one (.lit (.int .i64 a)),.one (.lit (.int .i64 b))] [.one (.lit (.int .i64 (cmpInt a b)))]:=by
 refine con_same (by kernel_rfl) fun w S vs h=>?_
 match vs,h with
 | [x,y],h =>
  obtain ⟨hx,hy,_⟩:=h
  have hx:x=.int .i64 a:=hx
  have hy:y=.int .i64 b:=hy
  subst hx hy
  exact cmpCompare a b w
theorem con_cmpS1 (a b:ByteArray):Con e1 134 [.one (.lit (.string a)),.one (.lit (.string b))] [.one (.lit (.int .i64 (cmpStr a b)))]:=by
 refine con_same (by kernel_rfl) fun w S vs h=>?_
 match vs,h with
 | [x,y],h =>
  obtain ⟨hx,hy,_⟩:=h
  have hx:x=.string a:=hx
  have hy:y=.string b:=hy
  subst hx hy
  exact stringsCompare a b w
set_option maxHeartbeats 4000000 in
theorem con_cmpOr1 (l:List Int) (hl:l.length<=1048576):Con e1 132 [.clip (l.map fun n=>[.lit (.int .i64 n)])] [.one (.lit (.int .i64 (firstNZ l)))]:=by
 have rb:rowsB 1 (l.map fun n=>[C.lit (.int .i64 n)])=true:=rowsB_map (e:=fun n=>[C.lit (.int .i64 n)]) (n:=1) (fun _=>rfl) l
 refine gI (ts:=[.slot 2]) 17389 Tryz.func132 ?_
 (have F:=@rb;refine gG ?_;clear F)
 (have F:=@rb;refine gL (ι:=Nat) [2,5,8,9,14] [] (fun x=>[(8,.d (.one (.lit (.int .i64 (x:Int)))))]) (fun x=>[]) (fun x=>x<=l.length∧firstNZ l=firstNZ (l.drop x)) (fun x=>l.length - x) (0) (⟨Nat.zero_le _,rfl⟩) (fun x hx=>?_);clear F)
 obtain ⟨hi,hf⟩:=hx
 rw [hf]
 clear hf
 by_cases hlt:x < l.length
 ·obtain ⟨n,hn⟩:∃ n,l[x]?=some n:=⟨_,List.getElem?_eq_getElem hlt⟩
  have q1:((x:Int) < (l.length:Int))=True:=eq_true (by omega)
  have q4:IntKind.i64.wrap ((x:Int)+1)=(x:Int)+1:=IntWalk.i64_in _ (by omega)
  rw [firstNZ_drop hn]
  by_cases h0:n=0
  ·subst h0
   rw [if_pos rfl]
   (have F:=ai @q1 (ai @rb @hn);refine gG ?_;clear F)
   (have F:=@q4;refine gG ?_;exact ⟨x+1,⟨hlt,rfl⟩,gw,gw,by omega⟩)
  ·have q2:(n=0)=False:=eq_false h0
   rw [if_neg h0]
   (have F:=ai @q1 (ai @rb (ai @hn @q2));refine gG ?_;exact gTd)
 ·obtain rfl:x=l.length:=by omega
  have q1:((l.length:Int) < (l.length:Int))=False:=eq_false (by omega)
  rw [List.drop_length]
  simp only [firstNZ]
  (have F:=@q1;refine gG ?_;exact gTd)
theorem cmpTms_nilL {b:List Tm} {k:Nat} {xs:List Tm} (h:xs.length<=k):cmpTms (xs.drop k) b=if b=[] then 0 else -1:=by
 rw [List.drop_eq_nil_of_le h]
 cases b with
 | nil=>simp [cmpTms]
 | cons x xs=>simp [cmpTms]
theorem cmpTms_nilR {a:Tm} {k:Nat} {xs bs:List Tm} (ha:xs[k]?=some a) (h:bs.length<=k):cmpTms (xs.drop k) (bs.drop k)=1:=by
 obtain ⟨hl,hx⟩:=List.getElem?_eq_some_iff.1 ha
 rw [List.drop_eq_nil_of_le h,List.drop_eq_getElem_cons hl]
 simp [cmpTms]
set_option maxHeartbeats 4000000 in
theorem con_cmpFunc1_of (xs bs:List Tm) (hla:xs.length<=maxLen) (hlb:bs.length<=maxLen) (h:∀ a∈xs,∀ b∈bs,Con e1 82 [.agg (encTm a),.agg (encTm b)] [.one (.lit (.int .i64 (cmpTm a b)))]):Con e1 135 [.one (.sl (encTms xs)),.one (.sl (encTms bs)),.one (.fn 82 [])] [.one (.lit (.int .i64 (cmpTms xs bs)))]:=by
 unfold maxLen at hla hlb
 refine gI (ts:=[.slot 6]) 277027520455 Tryz.func135 ?_
 (have F:=@tmz;refine gG ?_;clear F)
 (have F:=@tmz;refine gL (ι:=Nat) [6,7,8,9,10,13,14,21,31] [] (fun x=>[(13,.d (.one (.lit (.int .i64 (x:Int)))))]) (fun x=>[]) (fun x=>x<=xs.length∧x<=bs.length∧cmpTms xs bs=cmpTms (xs.drop x) (bs.drop x)) (fun x=>xs.length - x) (0) (⟨Nat.zero_le _,Nat.zero_le _,rfl⟩) (fun x hx=>?_);clear F)
 obtain ⟨hi,hj,hf⟩:=hx
 rw [hf]
 clear hf
 by_cases hlt:x < xs.length
 ·obtain ⟨a,ha⟩:∃ n,xs[x]?=some n:=⟨_,List.getElem?_eq_getElem hlt⟩
  have q1:((x:Int) < (xs.length:Int))=True:=eq_true (by omega)
  by_cases hlt2:x < bs.length
  ·obtain ⟨b,hb⟩:∃ n,bs[x]?=some n:=⟨_,List.getElem?_eq_getElem hlt2⟩
   have q2:((x:Int) ≥ (bs.length:Int))=False:=eq_false (by omega)
   have q4:IntKind.i64.wrap ((x:Int)+1)=(x:Int)+1:=IntWalk.i64_in _ (by omega)
   rw [cmpTms_step ha hb]
   simp only [firstNZ]
   (have F:=ai @q1 (ai @q2 (ai @tmz (ai @ha @hb)));refine gG ?_;clear F)
   refine gB ?_
   (have F:=@tmz;refine gC (h a (List.mem_of_getElem? ha) b (List.mem_of_getElem? hb)) ?_;clear F)
   (have F:=@tmz;refine gR ?_;clear F)
   by_cases h0:cmpTm a b=0
   ·have q3:(cmpTm a b=0)=True:=eq_true h0
    rw [if_pos h0,show (if cmpTms (xs.drop (x+1)) (bs.drop (x+1))=0 then (0:Int) else cmpTms (xs.drop (x+1)) (bs.drop (x+1)))=cmpTms (xs.drop (x+1)) (bs.drop (x+1)) by split <;> simp_all]
    (have F:=ai @tmz @q3;refine gG ?_;clear F)
    (have F:=@q4;refine gG ?_;exact ⟨x+1,⟨hlt,hlt2,rfl⟩,gw,gw,by omega⟩)
   ·have q3:(cmpTm a b=0)=False:=eq_false h0
    rw [if_neg h0]
    (have F:=ai @tmz @q3;refine gG ?_;exact gTd)
  ·have q2:((x:Int) ≥ (bs.length:Int))=True:=eq_true (by omega)
   rw [cmpTms_nilR ha (by omega)]
   (have F:=ai @q1 (ai @q2 (ai @tmz @ha));refine gG ?_;exact gTd)
 ·have q1:((x:Int) < (xs.length:Int))=False:=eq_false (by omega)
  rw [cmpTms_nilL (by omega)]
  by_cases h2:xs.length < bs.length
  ·have q2:((xs.length:Int) < (bs.length:Int))=True:=eq_true (by omega)
   rw [if_neg (by intro e;have:=congrArg List.length e;simp at this;omega)]
   (have F:=ai @q1 (ai @q2 @tmz);refine gG ?_;exact gTd)
  ·have q2:((xs.length:Int) < (bs.length:Int))=False:=eq_false (by omega)
   rw [if_pos (by apply List.drop_eq_nil_of_le;omega)]
   (have F:=ai @q1 (ai @q2 @tmz);refine gG ?_;exact gTd)
theorem rel_len {w:World} {S:Nat->Prop} {rows:List (List C)} {v:Value} (h:Rep w S (.sl rows) v):rows.length<=maxLen:=by
 simp only [Rep] at h
 obtain ⟨A,n,cap,_,h1,h2,h3,_⟩:=h
 omega
theorem con_cmpFunc1 (xs bs:List Tm) (h:∀ a∈xs,∀ b∈bs,Con e1 82 [.agg (encTm a),.agg (encTm b)] [.one (.lit (.int .i64 (cmpTm a b)))]):Con e1 135 [.one (.sl (encTms xs)),.one (.sl (encTms bs)),.one (.fn 82 [])] [.one (.lit (.int .i64 (cmpTms xs bs)))]:=by
 refine con_when (φ:=xs.length<=maxLen∧bs.length<=maxLen) (by kernel_rfl) (fun w S vs hv=>?_) fun hφ=>con_cmpFunc1_of xs bs hφ.1 hφ.2 h
 match vs,hv with
 | [x,y,z],hv =>
  have h1:=rel_len hv.1
  have h2:=rel_len hv.2.1
  rw [encTms_len] at h1 h2
  exact ⟨h1,h2⟩
set_option maxHeartbeats 4000000 in
theorem con_cmp1_of (a b:Tm) (h:∀ x∈a.args,∀ y∈b.args,Con e1 82 [.agg (encTm x),.agg (encTm y)] [.one (.lit (.int .i64 (cmpTm x y)))]):Con e1 82 [.agg (encTm a),.agg (encTm b)] [.one (.lit (.int .i64 (cmpTm a b)))]:=by
 obtain ⟨o,n,s,xs⟩:=a
 obtain ⟨o',n',s',bs⟩:=b
 simp only [Tm.args] at h
 have c1:encTm (.mk o n s xs)=[.lit (.int .i64 o),.lit (.string n),.lit (.int .i64 s),.sl (encTms xs)]:=by simp only [encTm]
 have c2:encTm (.mk o' n' s' bs)=[.lit (.int .i64 o'),.lit (.string n'),.lit (.int .i64 s'),.sl (encTms bs)]:=by simp only [encTm]
 have e3:cmpTm (.mk o n s xs) (.mk o' n' s' bs)=if firstNZ [cmpInt o o',cmpStr n n',cmpInt s s']=0 then cmpTms xs bs else firstNZ [cmpInt o o',cmpStr n n',cmpInt s s']:=by
  simp only [cmpTm,firstNZ]
  by_cases h1:cmpInt o o'=0
  ·by_cases h2:cmpStr n n'=0
   ·by_cases h3:cmpInt s s'=0
    ·simp only [h1,h2,h3,if_true]
     split <;> simp_all
    ·simp only [h1,h2,h3,if_true,if_false]
   ·simp only [h1,h2,if_true,if_false]
  ·simp only [h1,if_false]
 have hor:=con_cmpOr1 [cmpInt o o',cmpStr n n',cmpInt s s'] (by simp)
 simp only [List.map_cons,List.map_nil] at hor
 rw [e3]
 refine gI (ts:=[.slot 4]) 16777279 Tryz.func82 ?_
 (have F:=ai @c1 @c2;refine gG ?_;clear F)
 refine gB ?_
 (have F:=ai @c1 @c2;refine gC (con_cmpI1 o o') ?_;clear F)
 (have F:=ai @c1 @c2;refine gC (con_cmpS1 n n') ?_;clear F)
 (have F:=ai @c1 @c2;refine gC (con_cmpI1 s s') ?_;clear F)
 (have F:=ai @c1 @c2;refine gC (hor) ?_;clear F)
 (have F:=ai @c1 @c2;refine gR ?_;clear F)
 by_cases h0:firstNZ [cmpInt o o',cmpStr n n',cmpInt s s']=0
 ·have q3:(firstNZ [cmpInt o o',cmpStr n n',cmpInt s s']=0)=True:=eq_true h0
  rw [if_pos h0]
  (have F:=ai @q3 (ai @c1 @c2);refine gG ?_;clear F)
  refine gB ?_
  (have F:=ai @c1 @c2;refine gC (con_cmpFunc1 xs bs h) ?_;clear F)
  (have F:=ai @c1 @c2;refine gR ?_;clear F)
  (have F:=ai @c1 @c2;refine gG ?_;exact gTd)
 ·have q3:(firstNZ [cmpInt o o',cmpStr n n',cmpInt s s']=0)=False:=eq_false h0
  rw [if_neg h0]
  (have F:=ai @q3 (ai @c1 @c2);refine gG ?_;exact gTd)
theorem con_cmp1_n (n:Nat):∀ a b:Tm,nodesRow (encTm a) < n->Con e1 82 [.agg (encTm a),.agg (encTm b)] [.one (.lit (.int .i64 (cmpTm a b)))]:=by
 induction n with
 | zero=>exact fun _ _ h=>by omega
 | succ n ih =>
  intro a b hn
  refine con_cmp1_of a b fun x hx y hy=>ih x y ?_
  obtain ⟨op,nm,so,args⟩:=a
  simp only [encTm,nodesRow,nodesC] at hn
  simp only [Tm.args] at hx
  obtain ⟨i,hi⟩:=List.getElem?_of_mem hx
  have hi':(encTms args)[i]?=some (encTm x):=by rw [encTms_get,hi];rfl
  have h1:=nodes_get hi'
  omega
theorem con_cmp1 (a b:Tm):Con e1 82 [.agg (encTm a),.agg (encTm b)] [.one (.lit (.int .i64 (cmpTm a b)))]:=con_cmp1_n _ a b (Nat.lt_succ_self _)
end Go.Proofs.YtffmjghcpgpfpaaGreatDoor
namespace Go.Proofs.YtffmjghcpgpfpaaGreatDoor
open Go.RowKit
def cmpTmC (f:FuncId) (a b:Tm):Prop:=∀ (S S':Nat->Prop) (us us':List Value) (w:World),okTm a->okTm b->RepVals w S (encTm a) us->RepVals w S' (encTm b) us' ->
 Calls Tryz.prog f #[.agg us.toArray,.agg us'.toArray] w fun e w'=>e=.returned (.int .i64 (cmpTm a b))∧Below w.heap.size w w'
def cmpTmsC (f:FuncId) (x y:List Tm):Prop:=∀ (S S':Nat->Prop) (v v':Value) (w:World),okTms x->okTms y->Rep w S (.sl (encTms x)) v->Rep w S' (.sl (encTms y)) v' ->
 Calls Tryz.prog f #[v,v',.func (.func 82) #[] #[]] w fun e w'=>e=.returned (.int .i64 (cmpTms x y))∧Below w.heap.size w w'
theorem firstNZ2_zero {a b:Int} (h:a=0):firstNZ [a,b]=b:=by
 simp only [firstNZ,h,if_true]
 split <;> simp_all
theorem firstNZ2_nz {a b:Int} (h:a≠0):firstNZ [a,b]=a:=by simp [firstNZ,h]
set_option maxHeartbeats 2000000 in
set_option maxRecDepth 100000 in
theorem implCompareFunc_of (x y:List Tm) (h:∀ (i:Nat) a b,x[i]?=some a->y[i]?=some b->cmpTmC 82 a b):cmpTmsC 135 x y:=by
 intro S S' v v' w hx hy hv hv'
 obtain ⟨A,m,cap,rfl,hm,hmc,hcm⟩:=hv.form
 obtain ⟨A',m',cap',rfl,hm',hmc',hcm'⟩:=hv'.form
 rw [encTms_len] at hm hm'
 obtain ⟨ic,hci,_,hcs,_⟩:=info_parts info_Term
 have H:=Lib.hid h
 have HV:=Lib.hid hv
 have HV':=Lib.hid hv'
 have HM:=Lib.hid hm
 have HM':=Lib.hid hm'
 have HX:=Lib.hid hx
 have HY:=Lib.hid hy
 clear h hv hv' hm hm' hx hy
 unfold maxLen at hcm hcm'
 go_enter Tryz.func135,Tryz.ntmps135
 go_wp2
 go_loopw [13] (fun i wr=>∃ k:Nat,k<=m∧k<=m'∧i=.int .i64 k∧cmpTms x y=cmpTms (x.drop k) (y.drop k)∧Below w.heap.size w wr) (fun i _=>m - (intOf i).toNat)
 case atStart=>exact ⟨0,Nat.zero_le _,Nat.zero_le _,rfl,rfl,Below.refl _ _⟩
 case round =>
  obtain ⟨k,hk,hk',rfl,hz,hb⟩:=hrel
  have HZ:=Lib.hid hz
  clear hz
  by_cases hkm:k < m
  ·obtain ⟨b,off,r,rfl,hS,hbz,hget,hokr,hrow⟩:=(HV.out.below hb).get (okRows_enc x HX.out) hkm
   obtain ⟨u0,u1,u2,u3,c0,c1,c2,c3,hvals⟩:=hrow.vals4 hokr.len
   have hone:=okRow.one hokr hvals
   rw [encTms_get] at hget
   obtain ⟨t,ht,rfl⟩:=Option.map_eq_some_iff.1 hget
   have HVALS:=Lib.hid hvals
   have HONE:=Lib.hid hone
   have HT:=Lib.hid ht
   clear hvals hokr hrow hget hone ht
   simp only [fieldsOf,termF,List.length_cons,List.length_nil,Nat.reduceAdd] at c0 c1 c2 c3
   by_cases hkm':k < m'
   ·obtain ⟨b',off',r',rfl,hS',hbz',hget',hokr',hrow'⟩:=(HV'.out.below hb).get (okRows_enc y HY.out) hkm'
    obtain ⟨x0,x1,x2,x3,d0,d1,d2,d3,hvals'⟩:=hrow'.vals4 hokr'.len
    have hone':=okRow.one hokr' hvals'
    rw [encTms_get] at hget'
    obtain ⟨t',ht',rfl⟩:=Option.map_eq_some_iff.1 hget'
    have HVALS':=Lib.hid hvals'
    have HONE':=Lib.hid hone'
    have HT':=Lib.hid ht'
    clear hvals' hokr' hrow' hget' hone' ht'
    simp only [fieldsOf,termF,List.length_cons,List.length_nil,Nat.reduceAdd] at d0 d1 d2 d3
    have hbb:∀ o1 o2,Below w.heap.size w ((wr.alloc o1).alloc o2):=fun o1 o2=>(hb.alloc hb.size o1).alloc (by have:=hb.size;simp;omega) o2
    have hbr:∀ o1 o2,Below wr.heap.size wr ((wr.alloc o1).alloc o2):=fun o1 o2=>((Below.refl _ _).alloc (Nat.le_refl _) o1).alloc (by simp) o2
    have hbne:b'≠wr.heap.size:=by omega
    have HC:=Lib.hid (H.out k t t' HT.out HT'.out)
    go_wp2_with (first
     | refine wpList_store_new rfl 46 _ _ rfl _ _ _ rfl _ rfl (by simp) [u0,u1,u2,u3] rfl ic hci hcs rfl HONE.out ?_
     | refine wpList_store_new rfl 46 _ _ rfl _ _ _ rfl _ rfl (by simp) [x0,x1,x2,x3] rfl ic hci hcs rfl HONE'.out ?_)
    refine (HC.out S S' _ _ _ (HX.out.mem (List.mem_of_getElem? HT.out)) (HY.out.mem (List.mem_of_getElem? HT'.out)) (HVALS.out.below (hbr _ _)) (HVALS'.out.below (hbr _ _))).mono ?_
    rintro e w2 ⟨rfl,hb2⟩
    have HST:=Lib.hid (cmpTms_step HT.out HT'.out)
    generalize hc:cmpTm t t'=c at HST ⊢
    clear hc
    by_cases hc0:c=0
    ·subst hc0
     go_wp2
     go_roundw
     case rel=>exact ⟨k+1,by omega,by omega,by go_num,by rw [HZ.out,HST.out,firstNZ2_zero rfl],(hbb _ _).trans (hb2.mono (by have:=hb.size;simp;omega))⟩
     case measure=>simp [intOf];omega
    ·have hc1:(c==0)=false:=by simpa using hc0
     have hc2:(c != 0)=true:=by simpa using hc0
     go_wp2
     go_ret
     exact ⟨ret_int (by rw [HZ.out,HST.out,firstNZ2_nz hc0]),(hbb _ _).trans (hb2.mono (by have:=hb.size;simp;omega))⟩
   ·go_wp2_with (refine wpList_store_new rfl 46 _ _ rfl _ _ _ rfl _ rfl (by simp) [u0,u1,u2,u3] rfl ic hci hcs rfl HONE.out ?_)
    go_ret
    refine ⟨ret_int (a:=1) ?_,hb.alloc hb.size _⟩
    rw [HZ.out]
    have e2:y.drop k=[]:=List.drop_eq_nil_of_le (by have:=HM'.out;omega)
    have e1:x.drop k=t::x.drop (k+1):=by
     obtain ⟨hl,hx⟩:=List.getElem?_eq_some_iff.1 HT.out
     rw [<- hx];exact List.drop_eq_getElem_cons hl
    rw [e1,e2,cmpTms]
  ·have e1:x.drop k=[]:=List.drop_eq_nil_of_le (by have:=HM.out;omega)
   by_cases hlt:m < m'
   ·go_wp2
    go_ret
    refine ⟨ret_int (a:=-1) ?_,hb⟩
    have hl:k < y.length:=by have:=HM'.out;omega
    rw [HZ.out,e1,List.drop_eq_getElem_cons hl,cmpTms]
   ·go_wp2
    go_ret
    refine ⟨ret_int (a:=0) ?_,hb⟩
    rw [HZ.out,e1,List.drop_eq_nil_of_le (by have:=HM'.out;omega),cmpTms]
end Go.Proofs.YtffmjghcpgpfpaaGreatDoor
namespace Go.Proofs.YtffmjghcpgpfpaaGreatDoor
open Go.RowKit
theorem cell_alloc_drew (W:World) (o:Obj) (p:Addr) (h:p.block < W.heap.size):(W.alloc o).drew.cell? p=W.cell? p:=(show (W.alloc o).drew.cell? p=(W.alloc o).cell? p from rfl).trans (World.cell?_alloc_lt W o p h)
theorem cells_of_list {W:World} {l:List Int} {t:TypeId}:∀ (i:Nat) x,l[i]?=some x->(W.alloc (.cells (l.map (Value.int .i64)).toArray t)).drew.cell? ⟨W.heap.size,i,none⟩=some (.int .i64 x):=by
 intro i x h
 show (W.alloc (.cells (l.map (Value.int .i64)).toArray t)).cell? ⟨W.heap.size,i,none⟩=_
 rw [cell_of_row _ _ _ _ _ _ (heap_alloc_new W _)]
 simp [h]
set_option maxHeartbeats 2000000 in
set_option maxRecDepth 100000 in
theorem implCompareTerms_of (a b:Tm) (h:cmpTmsC 135 a.args b.args):cmpTmC 82 a b:=by
 intro S S' us us' w ha hb hv hv'
 obtain ⟨o,n,s,x⟩:=a
 obtain ⟨o',n',s',y⟩:=b
 simp only [encTm] at hv hv'
 obtain ⟨v3,rfl,e3⟩:=repVals_Term hv
 obtain ⟨v3',rfl,e3'⟩:=repVals_Term hv'
 simp only [okTm] at ha hb
 have HX:=Lib.hid ha.2.2.2
 have HY:=Lib.hid hb.2.2.2
 have H:=Lib.hid h
 have E:=Lib.hid e3
 have E':=Lib.hid e3'
 have HF:Hid (cmpTm (.mk o n s x) (.mk o' n' s' y)=firstNZ [firstNZ [cmpInt o o',cmpStr n n',cmpInt s s'],cmpTms x y]):=by
  show _=_
  simp only [cmpTm,firstNZ]
  repeat' split
  all_goals first | rfl | simp_all
 clear ha hb h e3 e3' hv hv'
 go_enter Tryz.func82,Tryz.ntmps82
 go_wp2_with fail
 generalize hW:(w.alloc _).alloc _=W
 have hbW:Below w.heap.size w W:=by rw [<- hW];exact ((Below.refl _ _).alloc (Nat.le_refl _) _).alloc (by simp) _
 have p0:W.cell? ⟨w.heap.size,0,none⟩=some (.int .i64 o):=by rw [<- hW];simp
 have p1:W.cell? ⟨w.heap.size,1,none⟩=some (.string n):=by rw [<- hW];simp
 have p2:W.cell? ⟨w.heap.size,2,none⟩=some (.int .i64 s):=by rw [<- hW];simp
 have p3:W.cell? ⟨w.heap.size,3,none⟩=some v3:=by rw [<- hW];simp
 have q0:W.cell? ⟨w.heap.size+1,0,none⟩=some (.int .i64 o'):=by rw [<- hW];simp
 have q1:W.cell? ⟨w.heap.size+1,1,none⟩=some (.string n'):=by rw [<- hW];simp
 have q2:W.cell? ⟨w.heap.size+1,2,none⟩=some (.int .i64 s'):=by rw [<- hW];simp
 have q3:W.cell? ⟨w.heap.size+1,3,none⟩=some v3':=by rw [<- hW];simp
 have z0:w.heap.size < W.heap.size:=by rw [<- hW];simp;omega
 have z1:w.heap.size+1 < W.heap.size:=by rw [<- hW];simp
 have HOR:=Lib.hid (fun w=>cmpOr [cmpInt o o',cmpStr n n',cmpInt s s'] W.heap.size 3 3 w rfl (by omega))
 clear hW
 go_region_held3 (fun w'=>∀ b o,b < W.heap.size->w'.cell? ⟨b,o,none⟩=W.cell? ⟨b,o,none⟩) (first | exact fun b o h=>cell_alloc_drew _ _ _ h | go_keep)
  (first
   | (go_at_call 133;refine (cmpCompare _ _ _).mono ?_;rintro e w' ⟨rfl,rfl⟩)
   | (go_at_call 134;refine (stringsCompare _ _ _).mono ?_;rintro e w' ⟨rfl,rfl⟩)
   | (go_at_call 132;refine (HOR.out _ (cells_of_list (W:=W))).mono ?_;rintro e w' ⟨rfl,rfl⟩))
 have hbD:∀ o1,Below w.heap.size w (W.alloc o1).drew:=fun o1=>(hbW.alloc hbW.size o1).drew
 have hcd:∀ o1 b o,b < W.heap.size->(W.alloc o1).drew.cell? ⟨b,o,none⟩=W.cell? ⟨b,o,none⟩:=fun o1 b o h=>cell_alloc_drew W o1 ⟨b,o,none⟩ h
 generalize hc:firstNZ [cmpInt o o',cmpStr n n',cmpInt s s']=c at HF ⊢
 clear hc
 by_cases hc0:c=0
 ·subst hc0
  go_wp2_with fail
  refine (H.out S S' _ _ _ HX.out HY.out (E.out.below (hbD _)) (E'.out.below (hbD _))).mono ?_
  rintro e w2 ⟨rfl,hb2⟩
  go_wp2
  go_ret
  exact ⟨ret_int (by rw [HF.out,firstNZ2_zero rfl];rfl),(hbD _).trans (hb2.mono (hbD _).size)⟩
 ·have hc1:(c==0)=false:=by simpa using hc0
  have hc2:(c != 0)=true:=by simpa using hc0
  go_wp2
  go_ret
  exact ⟨ret_int (by rw [HF.out,firstNZ2_nz hc0]),hbD _⟩
mutual
def sizeTm:Tm->Nat
 | .mk _ _ _ a=>1+sizeTms a
def sizeTms:List Tm->Nat
 | []=>0
 | t::ts=>sizeTm t+sizeTms ts
end
theorem sizeTms_get:∀ {ts:List Tm} {i:Nat} {t:Tm},ts[i]?=some t->sizeTms t.args < sizeTms ts
 | [],_,_,h=>by simp at h
 | x::xs,0,t,h=>by
  simp at h
  subst h
  cases x
  simp only [sizeTms,sizeTm,Tm.args]
  omega
 | x::xs,i+1,t,h=>by
  have:=sizeTms_get (ts:=xs) (i:=i) (by simpa using h)
  simp only [sizeTms]
  omega
theorem implCompareFunc_all (n:Nat):∀ x y,sizeTms x < n->cmpTmsC 135 x y:=by
 induction n with
 | zero=>intro x y h;omega
 | succ n ih=>exact fun x y h=>implCompareFunc_of x y (fun i a b ha hb=>implCompareTerms_of a b (ih _ _ (by have:=sizeTms_get ha;omega)))
theorem implCompareFunc (x y:List Tm):cmpTmsC 135 x y:=implCompareFunc_all _ x y (Nat.lt_succ_self _)
theorem implCompareTerms (a b:Tm):cmpTmC 82 a b:=implCompareTerms_of a b (implCompareFunc _ _)
end Go.Proofs.YtffmjghcpgpfpaaGreatDoor
namespace Go.Proofs.YtffmjghcpgpfpaaGreatDoor
open Go.RowKit
set_option maxHeartbeats 4000000 in
set_option maxRecDepth 100000 in
theorem specCompareTerms_of (a b:Tm) (h:∀ (i:Nat) p q,a.args[i]?=some p->b.args[i]?=some q->cmpTmC 114 p q):cmpTmC 114 a b:=by
 intro S S' us us' w ha hb hv hv'
 obtain ⟨o,n,s,x⟩:=a
 obtain ⟨o',n',s',y⟩:=b
 simp only [encTm] at hv hv'
 obtain ⟨v3,rfl,e3⟩:=repVals_Term hv
 obtain ⟨v3',rfl,e3'⟩:=repVals_Term hv'
 simp only [okTm] at ha hb
 have HX:=Lib.hid ha.2.2.2
 have HY:=Lib.hid hb.2.2.2
 have H:=Lib.hid h
 have hbW:=((Below.refl w.heap.size w).alloc (Nat.le_refl _) (.cells #[.int .i64 o,.string n,.int .i64 s,v3] 46)).alloc (by simp) (.cells #[.int .i64 o',.string n',.int .i64 s',v3'] 46)
 by_cases ho:o=o'
 case neg =>
  have ho1:(o==o')=false:=by simpa using ho
  have ho2:(o != o')=true:=by simpa using ho
  have hz:cmpInt o o'≠0:=fun e=>ho (cmpInt_zero.1 e)
  have HF:Hid (cmpTm (.mk o n s x) (.mk o' n' s' y)=cmpInt o o'):=by show _=_;simp only [cmpTm,firstNZ,if_neg hz]
  clear hz h H ha hb hv hv' e3 e3' ho
  by_cases hlt:o < o'
  ·go_enter Tryz.func114,Tryz.ntmps114
   go_wp2
   go_ret
   exact ⟨ret_int (a:=-1) (by rw [HF.out];unfold cmpInt;rw [if_pos hlt]),hbW⟩
  ·have HL:=Lib.hid hlt
   go_enter Tryz.func114,Tryz.ntmps114
   go_wp2
   go_ret
   exact ⟨ret_int (a := 1) (by have h1 : o ≠ o' := by simpa using ho1
                               have:=HL.out
                               rw [HF.out];unfold cmpInt;rw [if_neg (by omega),if_pos (by omega)]),hbW⟩
 subst ho
 have hz0:cmpInt o o=0:=cmpInt_zero.2 rfl
 by_cases hn:n=n'
 case neg =>
  have hz:cmpStr n n'≠0:=fun e=>hn (cmpStr_zero.1 e)
  have HF:Hid (cmpTm (.mk o n s x) (.mk o n' s' y)=cmpStr n n'):=by show _=_;simp only [cmpTm,firstNZ,if_pos hz0,if_neg hz]
  clear h H ha hb hv hv' e3 e3' hz0
  have hn1:(n.toList==n'.toList)=false:=by
   simp only [beq_eq_false_iff_ne,ne_eq,ByteArray.toList_eq]
   intro e
   apply hn
   obtain ⟨⟨la⟩⟩:=n
   obtain ⟨⟨lb⟩⟩:=n'
   simp at e
   rw [e]
  have hlq:Op.bytesLess n.toList n'.toList=decide (cmpStr n n'=-1):=by rw [ByteArray.toList_eq,ByteArray.toList_eq];exact compareBytes_less _ _
  have HZ:=Lib.hid hz
  have HR:=Lib.hid (cmpStr_range n n')
  clear hn hz
  by_cases hlt:cmpStr n n'=-1
  ·have hl1:Op.bytesLess n.toList n'.toList=true:=by rw [hlq];simpa using hlt
   have HLT:=Lib.hid hlt
   clear hlq hlt
   go_enter Tryz.func114,Tryz.ntmps114
   go_wp2
   go_ret
   exact ⟨ret_int (a:=-1) (by rw [HF.out,HLT.out]),hbW⟩
  ·have hl1:Op.bytesLess n.toList n'.toList=false:=by rw [hlq];simpa using hlt
   have HLT:=Lib.hid hlt
   clear hlq hlt
   go_enter Tryz.func114,Tryz.ntmps114
   go_wp2
   go_ret
   exact ⟨ret_int (a := 1) (by rw [HF.out]; rcases HR.out with e | e | e
                               ·exact absurd e HLT.out
                               ·exact absurd e HZ.out
                               ·exact e.symm),hbW⟩
 subst hn
 have hz1:cmpStr n n=0:=cmpStr_zero.2 rfl
 by_cases hs:s=s'
 case neg =>
  have hs1:(s==s')=false:=by simpa using hs
  have hs2:(s != s')=true:=by simpa using hs
  have hz:cmpInt s s'≠0:=fun e=>hs (cmpInt_zero.1 e)
  have HF:Hid (cmpTm (.mk o n s x) (.mk o n s' y)=cmpInt s s'):=by show _=_;simp only [cmpTm,firstNZ,if_pos hz0,if_pos hz1,if_neg hz]
  clear hz h H ha hb hv hv' e3 e3' hs hz0 hz1
  by_cases hlt:s < s'
  ·go_enter Tryz.func114,Tryz.ntmps114
   go_wp2
   go_ret
   exact ⟨ret_int (a:=-1) (by rw [HF.out];unfold cmpInt;rw [if_pos hlt]),hbW⟩
  ·have HL:=Lib.hid hlt
   go_enter Tryz.func114,Tryz.ntmps114
   go_wp2
   go_ret
   exact ⟨ret_int (a := 1) (by have h1 : s ≠ s' := by simpa using hs1
                               have:=HL.out
                               rw [HF.out];unfold cmpInt;rw [if_neg (by omega),if_pos (by omega)]),hbW⟩
 subst hs
 have HF:Hid (cmpTm (.mk o n s x) (.mk o n s y)=cmpTms x y):=by
  show _=_
  simp only [cmpTm,firstNZ,if_pos hz0,if_pos hz1,if_pos (cmpInt_zero.2 (rfl:s=s))]
  split <;> simp_all
 obtain ⟨A,m,cap,rfl,hm,hmc,hcm⟩:=e3.form
 obtain ⟨A',m',cap',rfl,hm',hmc',hcm'⟩:=e3'.form
 rw [encTms_len] at hm hm'
 have HM:=Lib.hid hm
 have HM':=Lib.hid hm'
 have HV:=Lib.hid e3
 have HV':=Lib.hid e3'
 clear hz0 hz1 h ha hb hv hv' e3 e3' hm hm'
 unfold maxLen at hcm hcm'
 go_enter Tryz.func114,Tryz.ntmps114
 go_wp2
 generalize hW:(w.alloc _).alloc _=W at hbW ⊢
 have p3:W.cell? ⟨w.heap.size,3,none⟩=some (.slice A m cap):=by rw [<- hW];simp
 have q3:W.cell? ⟨w.heap.size+1,3,none⟩=some (.slice A' m' cap'):=by rw [<- hW];simp
 have z0:w.heap.size < W.heap.size:=by rw [<- hW];simp;omega
 have z1:w.heap.size+1 < W.heap.size:=by rw [<- hW];simp
 have HVW:=Lib.hid (HV.out.below hbW)
 have HVW':=Lib.hid (HV'.out.below hbW)
 clear hW HV HV'
 go_loopw [5] (fun i wr=>∃ k:Nat,k<=m∧k<=m'∧i=.int .i64 k∧cmpTms x y=cmpTms (x.drop k) (y.drop k)∧Below W.heap.size W wr) (fun i _=>m - (intOf i).toNat)
 case atStart=>exact ⟨0,Nat.zero_le _,Nat.zero_le _,rfl,rfl,Below.refl _ _⟩
 case round =>
  obtain ⟨k,hk,hk',rfl,hz,hb⟩:=hrel
  have HZ:=Lib.hid hz
  clear hz
  obtain ⟨hcw,_⟩:=bcell hb
  have hbw':Below w.heap.size w wr:=hbW.trans (hb.mono hbW.size)
  by_cases hkm:k < m
  ·obtain ⟨b,off,r,rfl,hS,hbz,hget,hokr,hrow⟩:=HVW.out.get (okRows_enc x HX.out) hkm
   obtain ⟨u0,u1,u2,u3,c0,c1,c2,c3,hvals⟩:=hrow.vals4 hokr.len
   rw [encTms_get] at hget
   obtain ⟨t,ht,rfl⟩:=Option.map_eq_some_iff.1 hget
   have HVALS:=Lib.hid hvals
   have HT:=Lib.hid ht
   clear hvals hokr hrow hget ht
   simp only [fieldsOf,termF,List.length_cons,List.length_nil,Nat.reduceAdd] at c0 c1 c2 c3
   have k0:(0:Int)<=(k:Int):=by omega
   have k1:(k:Int) < (m:Int):=by omega
   have hd1:decide (k < m)=true:=by simpa using hkm
   by_cases hkm':k < m'
   ·obtain ⟨b',off',r',rfl,hS',hbz',hget',hokr',hrow'⟩:=HVW'.out.get (okRows_enc y HY.out) hkm'
    obtain ⟨x0,x1,x2,x3,d0,d1,d2,d3,hvals'⟩:=hrow'.vals4 hokr'.len
    rw [encTms_get] at hget'
    obtain ⟨t',ht',rfl⟩:=Option.map_eq_some_iff.1 hget'
    have HVALS':=Lib.hid hvals'
    have HT':=Lib.hid ht'
    clear hvals' hokr' hrow' hget' ht'
    simp only [fieldsOf,termF,List.length_cons,List.length_nil,Nat.reduceAdd] at d0 d1 d2 d3
    have k2:(k:Int) < (m':Int):=by omega
    have hd2:decide (k < m')=true:=by simpa using hkm'
    have HC:=Lib.hid (H.out k t t' HT.out HT'.out)
    go_wp2_with fail
    go_region_held3 (fun w'=>∀ b o,b < W.heap.size->w'.cell? ⟨b,o,none⟩=W.cell? ⟨b,o,none⟩) (first | exact fun b o h=>(hb2.cell (p:=⟨b,o,none⟩) (Nat.lt_of_lt_of_le h hb.size)).trans (hcw b o h) | exact fun b o h=>hcw b o h | go_keep)
     (first | (go_at_call 114;refine (HC.out S S' _ _ _ (HX.out.mem (List.mem_of_getElem? HT.out)) (HY.out.mem (List.mem_of_getElem? HT'.out)) (HVALS.out.below hb.drew) (HVALS'.out.below hb.drew)).mono ?_;rintro e w2 ⟨rfl,hb2⟩))
    have hbq:Below W.heap.size W w2:=hb.drew.trans (hb2.mono (show W.heap.size<=wr.heap.size from hb.size))
    have HST:=Lib.hid (cmpTms_step HT.out HT'.out)
    generalize hc:cmpTm t t'=c at HST ⊢
    clear hc
    by_cases hc0:c=0
    ·subst hc0
     go_wp2
     go_roundw
     case rel=>exact ⟨k+1,by omega,by omega,by go_num,by rw [HZ.out,HST.out,firstNZ2_zero rfl],hbq⟩
     case measure=>simp [intOf];omega
    ·have hc1:(c==0)=false:=by simpa using hc0
     have hc2:(c != 0)=true:=by simpa using hc0
     go_wp2
     go_ret
     exact ⟨ret_int (by rw [HF.out,HZ.out,HST.out,firstNZ2_nz hc0]),hbW.trans (hbq.mono hbW.size)⟩
   ·have hd2:decide (k < m')=false:=by simpa using hkm'
    have hmm:¬ m < m':=by omega
    have hmm2:m' < m:=by omega
    go_wp2
    go_ret
    refine ⟨ret_int (a:=1) ?_,hbw'⟩
    rw [HF.out,HZ.out]
    have e2:y.drop k=[]:=List.drop_eq_nil_of_le (by have:=HM'.out;omega)
    have e1:x.drop k=t::x.drop (k+1):=by
     obtain ⟨hl,hx⟩:=List.getElem?_eq_some_iff.1 HT.out
     rw [<- hx];exact List.drop_eq_getElem_cons hl
    rw [e1,e2,cmpTms]
  ·have e1:Hid (x.drop k=[]):=Lib.hid (List.drop_eq_nil_of_le (by have:=HM.out;omega))
   have hd1:decide (k < m)=false:=by simpa using hkm
   by_cases hlt:m < m'
   ·go_wp2
    go_ret
    refine ⟨ret_int (a:=-1) ?_,hbw'⟩
    have hl:k < y.length:=by have:=HM'.out;omega
    rw [HF.out,HZ.out,e1.out,List.drop_eq_getElem_cons hl,cmpTms]
   ·have hlt2:¬ m' < m:=by omega
    go_wp2
    go_ret
    refine ⟨ret_int (a:=0) ?_,hbw'⟩
    rw [HF.out,HZ.out,e1.out,List.drop_eq_nil_of_le (by have:=HM'.out;omega),cmpTms]
theorem specCompareTerms_all (n:Nat):∀ a b,sizeTm a < n->cmpTmC 114 a b:=by
 induction n with
 | zero=>intro a b h;omega
 | succ n ih =>
  intro a b h
  refine specCompareTerms_of a b (fun i p q hp hq=>ih p q ?_)
  have h1:=sizeTms_get hp
  cases a
  cases p
  simp only [sizeTm,Tm.args] at h h1 ⊢
  omega
theorem specCompareTerms (a b:Tm):cmpTmC 114 a b:=specCompareTerms_all _ a b (Nat.lt_succ_self _)
end Go.Proofs.YtffmjghcpgpfpaaGreatDoor
namespace Go.Proofs.YtffmjghcpgpfpaaGreatDoor
open Go.RowKit
theorem wrap_i64 {n:Int} (h0:0<=n) (h1:n < 9223372036854775808):IntKind.i64.wrap n=n:=by
 simp [IntKind.wrap,IntKind.bits,IntKind.signed]
 omega
theorem bv_nat {a:Nat} (h:a < 18446744073709551616):(BitVec.ofInt 64 (a:Int)).toNat=a:=by
 rw [BitVec.toNat_ofInt]
 omega
theorem bits_or {a b:Nat} (ha:a < 4611686018427387904) (hb:b < 4611686018427387904):bits .or .i64 (a:Int) (b:Int)=((a ||| b:Nat):Int):=by
 have h:a ||| b < 2 ^ 62:=Nat.or_lt_two_pow (by omega) (by omega)
 have e:(BitVec.ofInt IntKind.i64.bits (a:Int) ||| BitVec.ofInt IntKind.i64.bits (b:Int)).toNat=a ||| b:=by
  rw [BitVec.toNat_or]
  show (BitVec.ofInt 64 (a:Int)).toNat ||| (BitVec.ofInt 64 (b:Int)).toNat=_
  rw [bv_nat (by omega),bv_nat (by omega)]
 unfold bits
 show IntKind.i64.wrap _=_
 rw [e]
 exact wrap_i64 (by omega) (by omega)
theorem bits_and {a b:Nat} (ha:a < 4611686018427387904) (hb:b < 4611686018427387904):bits .and .i64 (a:Int) (b:Int)=((a &&& b:Nat):Int):=by
 have h:a &&& b < 2 ^ 62:=Nat.and_lt_two_pow _ (by omega)
 have e:(BitVec.ofInt IntKind.i64.bits (a:Int) &&& BitVec.ofInt IntKind.i64.bits (b:Int)).toNat=a &&& b:=by
  rw [BitVec.toNat_and]
  show (BitVec.ofInt 64 (a:Int)).toNat &&& (BitVec.ofInt 64 (b:Int)).toNat=_
  rw [bv_nat (by omega),bv_nat (by omega)]
 unfold bits
 show IntKind.i64.wrap _=_
 rw [e]
 exact wrap_i64 (by omega) (by omega)
theorem pow_lt62 {k:Nat} (h:k < 62):2 ^ k < 4611686018427387904:=Nat.lt_of_lt_of_le (Nat.pow_lt_pow_right (by omega) h) (by omega)
theorem testBit_and (a k:Nat):((a &&& 2 ^ k) != 0)=a.testBit k:=by
 cases h:a.testBit k
 ·have:a &&& 2 ^ k=0:=by
   apply Nat.eq_of_testBit_eq
   intro j
   rw [Nat.testBit_and,Nat.testBit_two_pow,Nat.zero_testBit]
   by_cases hj:k=j
   ·subst hj;simp [h]
   ·simp [hj]
  simp [this]
 ·have:¬ (a &&& 2 ^ k=0):=by
   intro h0
   have h1:(a &&& 2 ^ k).testBit k=true:=by rw [Nat.testBit_and,Nat.testBit_two_pow];simp [h]
   rw [h0,Nat.zero_testBit] at h1
   simp at h1
  simp [this]
theorem testBit_shr {a k:Nat} (ha:a < 4611686018427387904):(bits .and .i64 ((a:Int) / 2 ^ k) 1==1)=a.testBit k:=by
 have e:(a:Int) / 2 ^ k=((a / 2 ^ k:Nat):Int):=by simp
 have h1:a / 2 ^ k<=a:=Nat.div_le_self _ _
 have h2:bits .and .i64 ((a / 2 ^ k:Nat):Int) ((1:Nat):Int)=_:=bits_and (by omega) (by omega)
 rw [e]
 rw [show (1:Int)=((1:Nat):Int) from rfl,h2,Nat.testBit,Nat.shiftRight_eq_div_pow,Nat.and_comm]
 have h3:1 &&& a / 2 ^ k < 2:=by rw [Nat.one_and_eq_mod_two];omega
 generalize 1 &&& a / 2 ^ k=x at h3 ⊢
 have:x=0∨x=1:=by omega
 rcases this with rfl | rfl <;> rfl
def upSub (l:List Nat) (p:Int × Int):List Nat:=l.set p.1.toNat (l.getD p.1.toNat 0 ||| l.getD p.2.toNat 0)
def upRound (subs:List (Int × Int)) (l:List Nat):List Nat:=subs.foldl upSub l
def upIter (subs:List (Int × Int)):Nat->List Nat->List Nat
 | 0,l=>l
 | k+1,l=>upRound subs (upIter subs k l)
def up0 (n:Nat):List Nat:=(List.range n).map (2 ^ ·)
def up (s:Srt):List Nat:=upIter s.subs s.names.length (up0 s.names.length)
def casts (l:List Nat):List Int:=l.map (fun (n:Nat)=>(n:Int))
def SubsIn (n:Nat) (subs:List (Int × Int)):Prop:=∀ p∈subs,0<=p.1∧p.1 < n∧0<=p.2∧p.2 < n
def UpOk (n:Nat) (l:List Nat):Prop:=l.length=n∧∀ x∈l,x < 2 ^ n
theorem UpOk.get {n:Nat} {l:List Nat} (h:UpOk n l) {i:Nat} (hi:i < n):l[i]?=some (l.getD i 0)∧l.getD i 0 < 2 ^ n:=by
 have hl:i < l.length:=by rw [h.1];exact hi
 have e:l[i]?=some l[i]:=List.getElem?_eq_getElem hl
 have e2:l.getD i 0=l[i]:=by simp [List.getD,e]
 rw [e2]
 exact ⟨e,h.2 _ (List.getElem_mem hl)⟩
theorem UpOk.sub {n:Nat} {l:List Nat} (h:UpOk n l) {p:Int × Int} (hp:0<=p.1∧p.1 < n∧0<=p.2∧p.2 < n):UpOk n (upSub l p):=by
 refine ⟨by unfold upSub;rw [List.length_set];exact h.1,fun x hx=>?_⟩
 unfold upSub at hx
 rcases List.mem_or_eq_of_mem_set hx with hx | rfl
 ·exact h.2 x hx
 ·exact Nat.or_lt_two_pow (h.get (i:=p.1.toNat) (by omega)).2 (h.get (i:=p.2.toNat) (by omega)).2
theorem UpOk.foldl {n:Nat}:∀ {subs:List (Int × Int)} {l:List Nat},UpOk n l->SubsIn n subs->UpOk n (subs.foldl upSub l)
 | [],l,h,_=>h
 | p::ps,l,h,hs=>UpOk.foldl (subs:=ps) (h.sub (hs p (by simp))) (fun q hq=>hs q (by simp [hq]))
theorem UpOk.iter {n:Nat} {subs:List (Int × Int)} (hs:SubsIn n subs):∀ (k:Nat) {l:List Nat},UpOk n l->UpOk n (upIter subs k l)
 | 0,l,h=>h
 | k+1,l,h=>(UpOk.iter hs k h).foldl hs
theorem UpOk.start (n:Nat):UpOk n (up0 n):=by
 refine ⟨by simp [up0],fun x hx=>?_⟩
 simp only [up0,List.mem_map,List.mem_range] at hx
 obtain ⟨i,hi,rfl⟩:=hx
 exact Nat.pow_lt_pow_right (by omega) hi
theorem up_ok {s:Srt} (h:SubsIn s.names.length s.subs):UpOk s.names.length (up s):=UpOk.iter h _ (UpOk.start _)
theorem foldl_take {α β:Type} {f:β->α->β} {l:List α} {k:Nat} {a:α} (h:l[k]?=some a) (b:β):(l.take (k+1)).foldl f b=f ((l.take k).foldl f b) a:=by
 rw [take_snoc h,List.foldl_append];rfl
theorem SubsIn.take {n:Nat} {subs:List (Int × Int)} (h:SubsIn n subs) (k:Nat):SubsIn n (subs.take k):=fun p hp=>h p (List.mem_of_mem_take hp)
theorem casts_len (l:List Nat):(casts l).length=l.length:=by simp [casts]
theorem casts_get {l:List Nat} {i x:Nat} (h:l[i]?=some x):(casts l)[i]?=some (x:Int):=by simp [casts,h]
theorem casts_set (l:List Nat) (i x:Nat):casts (l.set i x)=(casts l).set i (x:Int):=by simp [casts,List.map_set]
theorem casts_snoc (l:List Nat) (x:Nat):casts (l++[x])=casts l++[(x:Int)]:=by simp [casts]
def fill0 (n k:Nat):List Nat:=up0 k++List.replicate (n - k) 0
theorem fill0_len {n k:Nat} (h:k<=n):(fill0 n k).length=n:=by simp [fill0,up0];omega
theorem fill0_set {n k:Nat} (h:k < n):(fill0 n k).set k (2 ^ k)=fill0 n (k+1):=by
 unfold fill0
 have e:n - k=(n - (k+1))+1:=by omega
 have e2:up0 (k+1)=up0 k++[2 ^ k]:=by simp [up0,List.range_succ]
 have e3:(up0 k).length=k:=by simp [up0]
 rw [e,List.replicate_succ,List.set_append_right _ _ (by omega),e3,Nat.sub_self,List.set_cons_zero,e2,List.append_assoc]
 rfl
theorem fill0_end (n:Nat):fill0 n n=up0 n:=by simp [fill0]
theorem up0_snoc (k:Nat):up0 (k+1)=up0 k++[2 ^ k]:=by simp [up0,List.range_succ]
def hasStr (l:List ByteArray) (s:ByteArray):Bool:=l.any (fun t=>s.toList==t.toList)
def nameB (n:Int):Bool:=decide (48<=n∧n<=57) || decide (65<=n∧n<=90) || decide (97<=n∧n<=122)
def byteAt (s:ByteArray) (i:Nat):Int:=if h:i < s.size then (s[i].toNat:Int) else 0
def nameFrom (s:ByteArray) (k:Nat):Bool:=(List.range' k (s.size - k)).all (fun i=>nameB (byteAt s i) && !(i==0 && decide (byteAt s i<=57)))
def isName (s:ByteArray):Bool:=decide (1<=s.size∧s.size<=12) && !(s.toList==[105,102]) && !(s.toList==[97,110,100]) && nameFrom s 0
theorem nameFrom_step {s:ByteArray} {k:Nat} (h:k < s.size):nameFrom s k=((nameB (s[k].toNat:Int) && !(k==0 && decide ((s[k].toNat:Int)<=57))) && nameFrom s (k+1)):=by
 have eb:byteAt s k=(s[k].toNat:Int):=by unfold byteAt;rw [dif_pos h]
 rw [<- eb]
 unfold nameFrom
 have e:s.size - k=(s.size - (k+1))+1:=by omega
 rw [e,List.range'_succ,List.all_cons]
theorem nameFrom_end {s:ByteArray} {k:Nat} (h:s.size<=k):nameFrom s k=true:=by
 unfold nameFrom
 have e:s.size - k=0:=by omega
 rw [e]
 rfl
theorem isName_bad {s:ByteArray} (h:s.size < 1∨12 < s.size∨s.toList=[105,102]∨s.toList=[97,110,100]):isName s=false:=by
 unfold isName
 rcases h with h | h | h | h
 ·have:¬ (1<=s.size∧s.size<=12):=by omega
  simp [this]
 ·have:¬ (1<=s.size∧s.size<=12):=by omega
  simp [this]
 ·simp [h]
 ·simp [h]
def SubOk (n:Nat) (p:Int × Int):Prop:=0<=p.1∧p.1 < n∧0<=p.2∧p.2 < n∧p.1≠p.2
def NameOk (names:List ByteArray) (i:Nat):Prop:=∀ x,names[i]?=some x->isName x=true∧hasStr (names.take i) x=false
def PairOk (u:List Nat) (i k:Nat):Prop:=¬ (i≠k∧(u.getD i 0).testBit k=true∧(u.getD k 0).testBit i=true)
structure SortsOk (s:Srt):Prop where
 n1:1<=s.names.length
 n8:s.names.length<=8
 m16:s.subs.length<=16
 names:∀ i,i < s.names.length->NameOk s.names i
 subs:∀ p∈s.subs,SubOk s.names.length p
 pairs:∀ i k,i < s.names.length->k < s.names.length->PairOk (up s) i k
open Classical in
noncomputable def isSorts (s:Srt):Bool:=decide (SortsOk s)
theorem isSorts_true {s:Srt} (h:SortsOk s):isSorts s=true:=by unfold isSorts;simp [h]
theorem isSorts_false {s:Srt} (h:¬ SortsOk s):isSorts s=false:=by unfold isSorts;simp [h]
theorem isSorts_iff {s:Srt}:isSorts s=true ↔ SortsOk s:=by unfold isSorts;simp
theorem SortsOk.subsIn {s:Srt} (h:∀ p∈s.subs,SubOk s.names.length p):SubsIn s.names.length s.subs:=fun p hp=>⟨(h p hp).1,(h p hp).2.1,(h p hp).2.2.1,(h p hp).2.2.2.1⟩
theorem beq_sym {a b:ByteArray}:(a.toList==b.toList)=(b.toList==a.toList):=by
 rw [Bool.eq_iff_iff]
 simp
 exact ⟨fun h=>h.symm,fun h=>h.symm⟩
theorem hasStr_step {l:List ByteArray} {s x:ByteArray} {k:Nat} (h:l[k]?=some x):hasStr (l.drop k) s=((x.toList==s.toList) || hasStr (l.drop (k+1)) s):=by
 obtain ⟨hl,hx⟩:=List.getElem?_eq_some_iff.1 h
 rw [List.drop_eq_getElem_cons hl,hx,hasStr,List.any_cons,beq_sym]
 rfl
theorem hasStr_snoc (l:List ByteArray) (t s:ByteArray):hasStr (l++[t]) s=(hasStr l s || (s.toList==t.toList)):=by simp [hasStr,List.any_append]
def kSub (l:List Nat) (p:Int × Int):List Nat:=(l.set p.1.toNat (min (l.getD p.1.toNat 0) (l.getD p.2.toNat 0))).set p.2.toNat (min (l.getD p.1.toNat 0) (l.getD p.2.toNat 0))
def kIter (subs:List (Int × Int)):Nat->List Nat->List Nat
 | 0,l=>l
 | k+1,l=>subs.foldl kSub (kIter subs k l)
def kinds (s:Srt):List Nat:=kIter s.subs s.names.length (List.range s.names.length)
def KOk (n:Nat) (l:List Nat):Prop:=l.length=n∧∀ x∈l,x < n
theorem KOk.get {n:Nat} {l:List Nat} (h:KOk n l) {i:Nat} (hi:i < n):l[i]?=some (l.getD i 0)∧l.getD i 0 < n:=by
 have hl:i < l.length:=by rw [h.1];exact hi
 have e:l[i]?=some l[i]:=List.getElem?_eq_getElem hl
 have e2:l.getD i 0=l[i]:=by simp [List.getD,e]
 rw [e2]
 exact ⟨e,h.2 _ (List.getElem_mem hl)⟩
theorem KOk.sub {n:Nat} {l:List Nat} (h:KOk n l) {p:Int × Int} (hp:0<=p.1∧p.1 < n∧0<=p.2∧p.2 < n):KOk n (kSub l p):=by
 refine ⟨by unfold kSub;rw [List.length_set,List.length_set];exact h.1,fun x hx=>?_⟩
 have hm:min (l.getD p.1.toNat 0) (l.getD p.2.toNat 0) < n:=by
  have:=(h.get (i:=p.1.toNat) (by omega)).2
  omega
 unfold kSub at hx
 rcases List.mem_or_eq_of_mem_set hx with hx | rfl
 ·rcases List.mem_or_eq_of_mem_set hx with hx | rfl
  ·exact h.2 x hx
  ·exact hm
 ·exact hm
theorem KOk.foldl {n:Nat}:∀ {subs:List (Int × Int)} {l:List Nat},KOk n l->SubsIn n subs->KOk n (subs.foldl kSub l)
 | [],l,h,_=>h
 | p::ps,l,h,hs=>KOk.foldl (subs:=ps) (h.sub (hs p (by simp))) (fun q hq=>hs q (by simp [hq]))
theorem KOk.iter {n:Nat} {subs:List (Int × Int)} (hs:SubsIn n subs):∀ (k:Nat) {l:List Nat},KOk n l->KOk n (kIter subs k l)
 | 0,l,h=>h
 | k+1,l,h=>(KOk.iter hs k h).foldl hs
theorem KOk.start (n:Nat):KOk n (List.range n):=⟨by simp,fun x hx=>by simpa using hx⟩
theorem kinds_ok {s:Srt} (h:SubsIn s.names.length s.subs):KOk s.names.length (kinds s):=KOk.iter h _ (KOk.start _)
def bitsTo (a k:Nat):List Nat:=(List.range k).filter (fun j=>a.testBit j)
def listOf (a:Nat):List Nat:=bitsTo a 16
theorem bitsTo_yes {a k:Nat} (h:a.testBit k=true):bitsTo a (k+1)=bitsTo a k++[k]:=by simp [bitsTo,List.range_succ,List.filter_append,h]
theorem bitsTo_no {a k:Nat} (h:a.testBit k=false):bitsTo a (k+1)=bitsTo a k:=by simp [bitsTo,List.range_succ,List.filter_append,h]
theorem bitsTo_len (a k:Nat):(bitsTo a k).length<=k:=by
 have:=List.length_filter_le (fun j=>a.testBit j) (List.range k)
 simpa [bitsTo] using this
def downIn (i:Nat) (l:List Nat) (ks:List Nat):List Nat:=ks.foldl (fun l k=>l.set k (l.getD k 0 ||| 2 ^ i)) l
def downs (u:List Nat):Nat->List Nat->List Nat
 | 0,l=>l
 | m+1,l=>downIn m (downs u m l) (listOf (u.getD m 0))
def down (s:Srt):List Nat:=downs (up s) s.names.length (List.replicate s.names.length 0)
theorem UpOk.or {n:Nat} {l:List Nat} (h:UpOk n l) {k i:Nat} (hk:k < n) (hi:i < n):UpOk n (l.set k (l.getD k 0 ||| 2 ^ i)):=by
 refine ⟨by rw [List.length_set];exact h.1,fun x hx=>?_⟩
 rcases List.mem_or_eq_of_mem_set hx with hx | rfl
 ·exact h.2 x hx
 ·exact Nat.or_lt_two_pow (h.get hk).2 (Nat.pow_lt_pow_right (by omega) hi)
theorem UpOk.downIn {n i:Nat} (hi:i < n):∀ {ks l:List Nat},UpOk n l->(∀ k∈ks,k < n)->UpOk n (downIn i l ks)
 | [],l,h,_=>h
 | k::ks,l,h,hk=>UpOk.downIn (ks:=ks) hi (h.or (hk k (by simp)) hi) (fun q hq=>hk q (by simp [hq]))
theorem listOf_lt {a n:Nat} (h:a < 2 ^ n):∀ k∈listOf a,k < n:=by
 intro k hk
 simp only [listOf,bitsTo,List.mem_filter,List.mem_range] at hk
 refine Decidable.byContradiction fun hn=>?_
 have:=Nat.testBit_lt_two_pow (Nat.lt_of_lt_of_le h (Nat.pow_le_pow_right (by omega) (by omega:n<=k)))
 rw [this] at hk
 simp at hk
theorem UpOk.downs {n:Nat} {u:List Nat} (hu:UpOk n u):∀ (m:Nat) {l:List Nat},m<=n->UpOk n l->UpOk n (downs u m l)
 | 0,l,_,h=>h
 | m+1,l,hm,h=>(UpOk.downs hu m (by omega) h).downIn (by omega) (listOf_lt (hu.get (by omega)).2)
theorem UpOk.zeros (n:Nat):UpOk n (List.replicate n 0):=⟨by simp,fun x hx=>by rw [(List.mem_replicate.1 hx).2];exact Nat.two_pow_pos n⟩
theorem down_ok {s:Srt} (h:SubsIn s.names.length s.subs):UpOk s.names.length (down s):=UpOk.downs (up_ok h) _ (Nat.le_refl _) (UpOk.zeros _)
def kFill (n k:Nat):List Nat:=List.range k++List.replicate (n - k) 0
theorem kFill_len {n k:Nat} (h:k<=n):(kFill n k).length=n:=by simp [kFill];omega
theorem kFill_set {n k:Nat} (h:k < n):(kFill n k).set k k=kFill n (k+1):=by
 unfold kFill
 rw [List.set_append_right _ _ (by simp),List.length_range,Nat.sub_self,List.range_succ]
 obtain ⟨m,hm⟩:∃ m,n - k=m+1:=⟨n - k - 1,by omega⟩
 rw [hm,show n - (k+1)=m by omega]
 simp [List.replicate_succ]
theorem kFill_end (n:Nat):kFill n n=List.range n:=by simp [kFill]
def kd (s:Srt) (k:Int):Nat:=(kinds s).getD k.toNat 0
structure DeclOk (s:Srt) (f d:Dcl):Prop where
 len:d.args.length=f.args.length
 res:0<=d.res∧d.res < s.names.length
 args:∀ k∈d.args,0<=k∧k < s.names.length
 kres:kd s d.res=kd s f.res
 kargs:∀ (i:Nat) (a b:Int),d.args[i]?=some a->f.args[i]?=some b->kd s a=kd s b
structure DeclsOk (s:Srt) (o:Opr):Prop where
 len1:1<=o.decls.length
 len4:o.decls.length<=4
 ar:∀ f,o.decls[0]?=some f->f.args.length<=3
 all:∀ f,o.decls[0]?=some f->∀ d∈o.decls,DeclOk s f d
open Classical in
noncomputable def declsOk (s:Srt) (o:Opr):Bool:=decide (DeclsOk s o)
theorem declsOk_true {s:Srt} {o:Opr} (h:DeclsOk s o):declsOk s o=true:=by simp [declsOk,h]
theorem declsOk_false {s:Srt} {o:Opr} (h:¬ DeclsOk s o):declsOk s o=false:=by simp [declsOk,h]
theorem declsOk_iff {s:Srt} {o:Opr}:declsOk s o=true ↔ DeclsOk s o:=by simp [declsOk]
structure AxOk (g:Sgn) (o:Opr):Prop where
 lo:0<=o.unit
 hi:o.unit<=g.ops.length
 two:(o.assoc=true∨o.comm=true∨o.unit≠0)->∀ d,o.decls[0]?=some d->d.args.length=2∧∀ a b,d.args[0]?=some a->d.args[1]?=some b->kd g.sorts a=kd g.sorts b∧((o.assoc=true∨o.unit≠0)->kd g.sorts a=kd g.sorts d.res) ∧
  (o.unit≠0->∀ (p:Opr) (u:Dcl),g.ops[o.unit.toNat - 1]?=some p->p.decls[0]?=some u->u.args.length=0∧kd g.sorts u.res=kd g.sorts d.res)
open Classical in
noncomputable def axOk (g:Sgn) (o:Opr):Bool:=decide (AxOk g o)
theorem axOk_true {g:Sgn} {o:Opr} (h:AxOk g o):axOk g o=true:=by simp [axOk,h]
theorem axOk_false {g:Sgn} {o:Opr} (h:¬ AxOk g o):axOk g o=false:=by simp [axOk,h]
theorem axOk_iff {g:Sgn} {o:Opr}:axOk g o=true ↔ AxOk g o:=by simp [axOk]
theorem DeclsOk.first {s:Srt} {o:Opr} (h:DeclsOk s o):∃ d,o.decls[0]?=some d∧DeclOk s d d:=by
 have h1:=h.len1
 exact ⟨o.decls[0],List.getElem?_eq_getElem (by omega),h.all _ (List.getElem?_eq_getElem (by omega)) _ (List.getElem_mem _)⟩
theorem two_of {l:List Int} (h:l.length=2):∃ a b,l=[a,b]:=len2 h
def opNames (l:List Opr):List ByteArray:=l.map (·.name)
structure SgnOk (g:Sgn):Prop where
 sorts:SortsOk g.sorts
 len:g.ops.length<=14
 names:∀ (i:Nat) (o:Opr),g.ops[i]?=some o->isName o.name=true∧hasStr (opNames (g.ops.take i)) o.name=false
 decls:∀ o∈g.ops,DeclsOk g.sorts o
 axs:∀ o∈g.ops,AxOk g o
open Classical in
noncomputable def isSgn (g:Sgn):Bool:=decide (SgnOk g)
theorem isSgn_true {g:Sgn} (h:SgnOk g):isSgn g=true:=by simp [isSgn,h]
theorem isSgn_false {g:Sgn} (h:¬ SgnOk g):isSgn g=false:=by simp [isSgn,h]
theorem isSgn_iff {g:Sgn}:isSgn g=true ↔ SgnOk g:=by simp [isSgn]
theorem opNames_snoc {l:List Opr} {k:Nat} {o:Opr} (h:l[k]?=some o):opNames (l.take (k+1))=opNames (l.take k)++[o.name]:=by
 rw [take_snoc h];simp [opNames]
end Go.Proofs.YtffmjghcpgpfpaaGreatDoor
namespace Go.Proofs.YtffmjghcpgpfpaaGreatDoor
open Go.RowKit
theorem nameFrom_get {s:ByteArray} {k:Nat} {b:UInt8} (h:s[k]?=some b):nameFrom s k=((nameB (b.toNat:Int) && !(k==0 && decide ((b.toNat:Int)<=57))) && nameFrom s (k+1)):=by
 obtain ⟨hk,rfl⟩:=getElem?_eq_some_iff.1 h
 exact nameFrom_step hk
set_option maxHeartbeats 4000000 in
set_option maxRecDepth 100000 in
theorem con_nameByte (n:Int):Con e0 221 [.one (.lit (.int .u8 n))] [.one (.lit (.bool (nameB n)))]:=by
 by_cases h1:48<=n <;> by_cases h2:n<=57 <;> by_cases h3:65<=n <;> by_cases h4:n<=90 <;> by_cases h5:97<=n <;> by_cases h6:n<=122 <;> first
  | (exfalso;omega)
  | (have hr : nameB n = true := by simp [nameB, h1, h2, h3, h4, h5, h6]
     refine gI 5 Tryz.func221 ?_
     (have F:=ai @h1 (ai @h2 (ai @h3 (ai @h4 (ai @h5 (ai @h6 @hr)))));refine gG ?_;exact gT))
  | (have hr : nameB n = false := by simp [nameB, h1, h2, h3, h4, h5, h6]
     refine gI 5 Tryz.func221 ?_
     (have F:=ai @h1 (ai @h2 (ai @h3 (ai @h4 (ai @h5 (ai @h6 @hr)))));refine gG ?_;exact gT))
theorem strL (l:List UInt8):(⟨l.toArray⟩:ByteArray).toList=l:=by
 rw [ByteArray.toList_eq]
section
variable {s:ByteArray}
theorem isName_ok (h1:1<=s.size) (h2:s.size<=12) (h3:¬ s.toList=[105,102]) (h4:¬ s.toList=[97,110,100]):isName s=nameFrom s 0:=by
 simp [isName,h1,h2,h3,h4]
set_option maxHeartbeats 4000000 in
set_option maxRecDepth 100000 in
theorem con_implName (hs:s.size<=maxLen):Con e0 160 [.one (.lit (.string s))] [.one (.lit (.bool (isName s)))]:=by
 have l1:(⟨#[105,102]⟩:ByteArray).toList=[105,102]:=strL [105,102]
 have l2:(⟨#[97,110,100]⟩:ByteArray).toList=[97,110,100]:=strL [97,110,100]
 refine gI 1099520540685 Tryz.func160 ?_
 by_cases h1:1<=s.size
 rotate_left
 ·have hf:=isName_bad (s:=s) (.inl (by omega))
  have z1:((s.size:Int) < 1)=True:=eq_true (by omega)
  (have F:=ai @z1 @hf;refine gG ?_;exact gT)
 have z1:((s.size:Int) < 1)=False:=eq_false (by omega)
 by_cases h2:s.size<=12
 rotate_left
 ·have hf:=isName_bad (s:=s) (.inr (.inl (by omega)))
  have z2:((12:Int) < s.size)=True:=eq_true (by omega)
  (have F:=ai @z1 (ai @z2 @hf);refine gG ?_;exact gT)
 have z2:((12:Int) < s.size)=False:=eq_false (by omega)
 by_cases h3:s.toList=[105,102]
 ·have hf:=isName_bad (s:=s) (.inr (.inr (.inl h3)))
  (have F:=ai @z1 (ai @z2 (ai @l1 (ai @h3 (ai @beq_self_eq_true.{0} @hf))));refine gG ?_;exact gT)
 have z3:(s.toList==[105,102])=false:=by simpa using h3
 by_cases h4:s.toList=[97,110,100]
 ·have hf:=isName_bad (s:=s) (.inr (.inr (.inr h4)))
  have z3:(([97,110,100]:List UInt8)==[105,102])=false:=by decide
  (have F:=ai @z1 (ai @z2 (ai @l1 (ai @l2 (ai @h4 (ai @z3 (ai @beq_self_eq_true.{0} @hf))))));refine gG ?_;exact gT)
 have z4:(s.toList==[97,110,100])=false:=by simpa using h4
 rw [isName_ok h1 h2 h3 h4]
 (have F:=ai @z1 (ai @z2 (ai @l1 (ai @l2 (ai @z3 @z4))));refine gG ?_;clear F)
 (have F:=@e0P;refine gL (ι:=Nat) [2,3,23,40] [] (fun k=>[(3,A.d (.one (.lit (.int .i64 k))))]) (fun k=>[]) (fun k=>k<=s.size∧nameFrom s 0=nameFrom s k) (fun k=>s.size - k) (0) (⟨Nat.zero_le _,rfl⟩) (fun k hk=>?_);clear F)
 obtain ⟨hk,he⟩:=hk
 rw [he]
 by_cases hlt:k < s.size
 rotate_left
 ·have q1:¬ ((k:Int) < (s.size:Int)):=by omega
  have ht:=nameFrom_end (s:=s) (k:=k) (by omega)
  (have F:=ai @q1 @ht;refine gG ?_;exact gT)
 have q1:(k:Int) < (s.size:Int):=by omega
 obtain ⟨b,hb⟩:∃ b,s[k]?=some b:=⟨s[k],getElem?_pos s k hlt⟩
 have hw1:=wrap1 (k:=k) (by omega)
 have hst:=nameFrom_get hb
 (have F:=@q1;refine gG ?_;clear F)
 refine gB ?_
 (have F:=@hb;refine gC (con_nameByte (b.toNat:Int)) ?_;clear F)
 cases hn:nameB (b.toNat:Int) with
 | false =>
  have hf:nameFrom s k=false:=by rw [hst,hn];rfl
  (have F:=@e0P;refine gR ?_;clear F)
  (have F:=@hf;refine gG ?_;exact gT)
 | true =>
 by_cases hk0:k=0
 ·have z5:((k:Int)=0)=True:=eq_true (by omega)
  by_cases h9:(b.toNat:Int)<=57
  ·have z6:((b.toNat:Int)<=57)=True:=eq_true h9
   have hf:nameFrom s k=false:=by rw [hst,hn,hk0];simp [h9]
   (have F:=ai @z5 (ai @hb @z6);refine gR ?_;clear F)
   (have F:=@hf;refine gG ?_;exact gT)
  ·have z6:((b.toNat:Int)<=57)=False:=eq_false h9
   have hq:nameFrom s k=nameFrom s (k+1):=by rw [hst,hn];simp [h9]
   (have F:=ai @z5 (ai @hb @z6);refine gR ?_;clear F)
   (have F:=@hw1;refine gG ?_;exact ⟨k+1,⟨hlt,hq⟩,gw,gw,by omega⟩)
 ·have z5:((k:Int)=0)=False:=eq_false (by omega)
  have hq:nameFrom s k=nameFrom s (k+1):=by rw [hst,hn];simp [hk0]
  (have F:=@z5;refine gR ?_;clear F)
  (have F:=@hw1;refine gG ?_;exact ⟨k+1,⟨hlt,hq⟩,gw,gw,by omega⟩)
set_option maxHeartbeats 8000000 in
set_option maxRecDepth 100000 in
theorem con_specName (hs:s.size<=maxLen):Con e0 150 [.one (.lit (.string s))] [.one (.lit (.bool (isName s)))]:=by
 have l1:(⟨#[105,102]⟩:ByteArray).toList=[105,102]:=strL [105,102]
 have l2:(⟨#[97,110,100]⟩:ByteArray).toList=[97,110,100]:=strL [97,110,100]
 refine gI 2417851639247950047084557 Tryz.func150 ?_
 by_cases h3:s.toList=[105,102]
 ·have hf:=isName_bad (s:=s) (.inr (.inr (.inl h3)))
  (have F:=ai @l1 (ai @h3 (ai @beq_self_eq_true.{0} @hf));refine gG ?_;exact gT)
 have z3:(s.toList==[105,102])=false:=by simpa using h3
 by_cases h4:s.toList=[97,110,100]
 ·have hf:=isName_bad (s:=s) (.inr (.inr (.inr h4)))
  have z3:(([97,110,100]:List UInt8)==[105,102])=false:=by decide
  (have F:=ai @l1 (ai @l2 (ai @h4 (ai @z3 (ai @beq_self_eq_true.{0} @hf))));refine gG ?_;exact gT)
 have z4:(s.toList==[97,110,100])=false:=by simpa using h4
 by_cases h1:1<=s.size
 rotate_left
 ·have hf:=isName_bad (s:=s) (.inl (by omega))
  have z1:((s.size:Int) < 1)=True:=eq_true (by omega)
  (have F:=ai @l1 (ai @l2 (ai @z3 (ai @z4 (ai @z1 @hf))));refine gG ?_;exact gT)
 have z1:((s.size:Int) < 1)=False:=eq_false (by omega)
 by_cases h2:s.size<=12
 rotate_left
 ·have hf:=isName_bad (s:=s) (.inr (.inl (by omega)))
  have z2:((12:Int) < s.size)=True:=eq_true (by omega)
  (have F:=ai @l1 (ai @l2 (ai @z3 (ai @z4 (ai @z1 (ai @z2 @hf)))));refine gG ?_;exact gT)
 have z2:((12:Int) < s.size)=False:=eq_false (by omega)
 obtain ⟨b,hb⟩:∃ b,s[0]?=some b:=⟨s[0],getElem?_pos s 0 h1⟩
 have hst:=nameFrom_get hb
 rw [isName_ok h1 h2 h3 h4]
 have hb0:0<=(b.toNat:Int):=by omega
 have hlet:∀ c:Bool,((decide (97<=(b.toNat:Int)∧(b.toNat:Int)<=122)) || decide (65<=(b.toNat:Int)∧(b.toNat:Int)<=90))=c->(nameB (b.toNat:Int) && !((0:Nat)==0 && decide ((b.toNat:Int)<=57)))=c:=fun c hc=>by
  rw [<- hc,Bool.eq_iff_iff]
  simp [nameB]
  omega
 have key:(decide (97<=(b.toNat:Int)∧(b.toNat:Int)<=122) || decide (65<=(b.toNat:Int)∧(b.toNat:Int)<=90))=true∨(decide (97<=(b.toNat:Int)∧(b.toNat:Int)<=122) || decide (65<=(b.toNat:Int)∧(b.toNat:Int)<=90))=false:=by cases (decide (97<=(b.toNat:Int)∧(b.toNat:Int)<=122) || decide (65<=(b.toNat:Int)∧(b.toNat:Int)<=90)) <;> simp
 rcases key with hk | hk
 rotate_left
 ·have hf:nameFrom s 0=false:=by rw [hst,hlet _ hk];rfl
  rw [hf]
  clear hst hlet hf
  by_cases c1:97<=(b.toNat:Int) <;> by_cases c2:(b.toNat:Int)<=122 <;> by_cases c3:65<=(b.toNat:Int) <;> by_cases c4:(b.toNat:Int)<=90 <;> first
   | (exfalso;omega)
   | (exfalso;simp [c1,c2,c3,c4] at hk;done)
   | (have F:=ai @l1 (ai @l2 (ai @z3 (ai @z4 (ai @z1 (ai @z2 (ai @hb (ai @c1 (ai @c2 (ai @c3 @c4)))))))));refine gG ?_;exact gT)
 have hl0:65<=(b.toNat:Int):=by simp at hk;omega
 have h01:nameFrom s 0=nameFrom s 1:=by rw [hst,hlet _ hk];rfl
 (have F:=@e0P;have NN:StopAt 1:=trivial;refine gGn ?_;clear F NN)
 refine gM (ι:=Unit) [40] [] (fun u=>[(40,A.d (.one (.lit (.bool false))))]) (fun u=>[]) (fun u=>True) ?_ (fun u hu=>Exists.intro _ (ai (Wk.refl _) ?_))
 ·by_cases c1:97<=(b.toNat:Int) <;> by_cases c2:(b.toNat:Int)<=122 <;> by_cases c3:65<=(b.toNat:Int) <;> by_cases c4:(b.toNat:Int)<=90 <;> first
   | (exfalso;omega)
   | (exfalso;simp [c1,c2,c3,c4] at hk;done)
   | (have F:=ai @l1 (ai @l2 (ai @z3 (ai @z4 (ai @z1 (ai @z2 (ai @hb (ai @c1 (ai @c2 (ai @c3 @c4)))))))));refine gG ?_;exact ⟨(),trivial,gw,gw⟩)
 clear hu hlet hk hst
 (have F:=@e0P;refine gG ?_;clear F)
 (have F:=@e0P;refine gL (ι:=Nat) [2,3,44,81] [] (fun k=>[(3,A.d (.one (.lit (.int .i64 k))))]) (fun k=>[]) (fun k=>k<=s.size∧nameFrom s 0=nameFrom s k) (fun k=>s.size - k) (0) (⟨Nat.zero_le _,rfl⟩) (fun k hk=>?_);clear F)
 obtain ⟨hkl,he⟩:=hk
 by_cases hlt:k < s.size
 rotate_left
 ·have q1:¬ ((k:Int) < (s.size:Int)):=by omega
  have ht:nameFrom s 0=true:=by rw [he];exact nameFrom_end (by omega)
  (have F:=ai @q1 @ht;refine gG ?_;exact gT)
 have q1:(k:Int) < (s.size:Int):=by omega
 obtain ⟨d,hd⟩:∃ d,s[k]?=some d:=⟨s[k],getElem?_pos s k hlt⟩
 have hw1:=wrap1 (k:=k) (by omega)
 have hst:=nameFrom_get hd
 (have F:=@q1;have NN:StopAt 6:=trivial;refine gGn ?_;clear F NN)
 refine gM (ι:=Unit) [81] [] (fun u=>[(81,A.d (.one (.lit (.bool !(nameB (d.toNat:Int))))))]) (fun u=>[]) (fun u=>True) ?_ (fun u hu=>Exists.intro _ (ai (Wk.refl _) ?_))
 ·by_cases c1:97<=(d.toNat:Int) <;> by_cases c2:(d.toNat:Int)<=122 <;> by_cases c3:65<=(d.toNat:Int) <;> by_cases c4:(d.toNat:Int)<=90 <;> by_cases c5:48<=(d.toNat:Int) <;> by_cases c6:(d.toNat:Int)<=57 <;> first
   | (exfalso;omega)
   | (have hr : nameB (d.toNat : Int) = true := by simp [nameB, c1, c2, c3, c4, c5, c6]
      rw [hr]
      (have F:=ai @hd (ai @c1 (ai @c2 (ai @c3 (ai @c4 (ai @c5 @c6)))));refine gG ?_;exact ⟨(),trivial,gw,gw⟩))
   | (have hr : nameB (d.toNat : Int) = false := by simp [nameB, c1, c2, c3, c4, c5, c6]
      rw [hr]
      (have F:=ai @hd (ai @c1 (ai @c2 (ai @c3 (ai @c4 (ai @c5 @c6)))));refine gG ?_;exact ⟨(),trivial,gw,gw⟩))
 cases hn:nameB (d.toNat:Int) with
 | false =>
  have hf:nameFrom s 0=false:=by rw [he,hst,hn];rfl
  (have F:=@hf;refine gG ?_;exact gT)
 | true =>
 have hq:nameFrom s 0=nameFrom s (k+1):=by
  by_cases hk0:k=0
  ·subst hk0;exact h01
  ·rw [he,hst,hn];simp [hk0]
 (have F:=@hw1;refine gG ?_;exact ⟨k+1,⟨hlt,hq⟩,gw,gw,by omega⟩)
end
end Go.Proofs.YtffmjghcpgpfpaaGreatDoor
namespace Go.Proofs.YtffmjghcpgpfpaaGreatDoor
open Go.RowKit
section
variable {e:Env} {U:Nat->Prop} {w0:World} {S0:Nat->Prop} {nt:Nat} {ops:Array Oper} {n:Nat} {m:List (Nat × Bk)} {s:List (Nat × A)} {αs:List A} {L:Lay}
theorem wpAny_headT {J:Array Bool->Act->World->(Nat->Prop)->Prop} (he:e.Ok) (hH:headB ops n=true) (hn:n<=ops.size) (hs:∀ i,n<=i->i < ops.size->∀ j,j < n->Region.waitsFor .any ops i j=true)
  (hsz:∀ (i:Nat) (o:Oper) (d:Nat),i < n->ops[i]?=some o->o.dst=some d->d < nt) (hal:αs.length=n) (hch:Chain e U w0.heap.size S0 m ops.toList (ops.toList.take n) s αs) {Q:Exit->Act->World->Prop} (hgo:GoStep e U w0 S0 nt m ops n s αs L J Q)
  (hsk:∀ (listed:Array Bool) (a:Act) (w:World) (S:Nat->Prop) (i:Nat) (o:Oper) (d:Nat),J listed a w S->InvA e U w0 S0 nt m ops n s αs L listed a w S->HeadAt ops n i o d->i < n->i∈Region.ready .any ops listed->d < nt->o.guard≠none->J (listed.setIfInBounds i true) (a.put o.dst undef) w S)
  (hend:∀ listed a w S,InvA e U w0 S0 nt m ops n s αs L listed a w S->J listed a w S->(∀ i,i < n->listed.getD i false=true)->wpAny e.P .any ops Q (ops.size - n) (headArr ops.size n) a w) :
  ∀ (k:Nat) (listed:Array Bool) (a:Act) (w:World) (S:Nat->Prop),InvA e U w0 S0 nt m ops n s αs L listed a w S->J listed a w S->(List.range n).countP (fun i=>!listed.getD i true)=k->wpAny e.P .any ops Q (k+(ops.size - n)) listed a w
 | 0,listed,a,w,S,hI,hJ,hc=>by
  have hall:∀ i,i < n->listed.getD i true=true:=fun i hi=>by
   have:=List.countP_eq_zero.1 hc i (List.mem_range.2 hi)
   simpa using this
  have heq:=listed_eq hI.head hn hall
  have hE:=hend listed a w S hI hJ (fun i hi=>by
   have hl:i < listed.size:=by rw [hI.head.size];omega
   rw [<- getD_ftt hl];exact hall i hi)
  rw [Nat.zero_add,heq]
  exact hE
 | k+1,listed,a,w,S,hI,hJ,hc=>by
  obtain ⟨i0,hi0,hu0⟩:∃ i,i < n∧listed.getD i true=false:=by
   have:0 < (List.range n).countP (fun i=>!listed.getD i true):=by omega
   obtain ⟨i,hi,hp⟩:=List.countP_pos_iff.1 this
   exact ⟨i,List.mem_range.1 hi,by simpa using hp⟩
  rw [show k+1+(ops.size - n)=(k+(ops.size - n))+1 by omega]
  refine ⟨fun h0=>absurd h0 (first_readyA hH hI.head hi0 hu0),fun i hr=>?_⟩
  obtain ⟨hun,oi,hoi,hall⟩:=mem_ready.1 hr
  have hin:i < n:=by
   rcases Nat.lt_or_ge i n with h | h
   ·exact h
   ·have hns:n < ops.size:=Nat.lt_of_le_of_lt h (Array.getElem?_eq_some_iff.1 hoi).1
    obtain ⟨oj,hoj,e1,he1,hb1,hon1⟩:=Region.waitsFor_spec (hs i h (Array.getElem?_eq_some_iff.1 hoi).1 i0 hi0)
    rw [hoi] at hoj
    injection hoj with hoj
    subst hoj
    have h2:=hall e1 he1 hb1
    rw [hon1] at h2
    have h3:i0 < listed.size:=by rw [hI.head.size];omega
    rw [getD_ftt h3] at hu0
    rw [h2] at hu0
    cases hu0
  obtain ⟨o,d,hA⟩:=headB.get hH hin
  have hoo:oi=o:=by have:=hA.op;rw [hoi] at this;injection this
  subst hoo
  have hls:i < listed.size:=by rw [hI.head.size];exact (Array.getElem?_eq_some_iff.1 hoi).1
  obtain ⟨α,hα,hst⟩:=hch.get i oi (by rw [List.getElem?_take,if_pos hin];simpa using hoi)
  have htk:(ops.toList.take n).take i=ops.toList.take i:=by rw [List.take_take,Nat.min_eq_left (by omega)]
  rw [htk] at hst
  have hdn:=hsz i oi d hin hoi hA.dst
  have hcount:(List.range n).countP (fun j=>!(listed.setIfInBounds i true).getD j true)=k:=by
   have h1:(List.range n).countP (fun j=>!(listed.setIfInBounds i true).getD j true)+1=(List.range n).countP (fun j=>!listed.getD j true):=by
    have hperm:=List.perm_cons_erase (List.mem_range.2 hin)
    rw [hperm.countP_eq,hperm.countP_eq,List.countP_cons,List.countP_cons]
    have hcong:((List.range n).erase i).countP (fun j=>!(listed.setIfInBounds i true).getD j true)=((List.range n).erase i).countP (fun j=>!listed.getD j true):=by
     refine List.countP_congr fun j hj=>?_
     have hne:j≠i:=fun e=>by
      subst e
      exact List.Nodup.not_mem_erase (List.nodup_range) hj
     rw [getD_set_ne true (Ne.symm hne)]
    rw [hcong,hun]
    simp [hls]
   omega
  have hop:∀ x∈oi.op.operands,ARel w S L (evA (after s (ops.toList.take i) (αs.take i)) x) (a.eval x):=fun x hx=>by
   cases x with
   | tmp t =>
    exact hI.operand hH hn hal hA hin hall (fun j p hj hp hpt=>(hA.dep j p hj hp).2 t (List.mem_filterMap.2 ⟨.tmp t,by simpa using hx,rfl⟩) hpt)
   | const v =>
    simp only [evA,Act.eval]
    unfold constA
    split
    ·simp only [ARel,DRel,Rep]
     exact ⟨⟨none,0,0,rfl,rfl,Nat.le_refl _,by decide,fun h=>absurd h (by decide)⟩,none,0,rfl⟩
    ·rename_i vs;exact ⟨vs.toList,rfl,RepVals_zero _⟩
    ·simp [ARel,DRel,Rep]
   | func f =>
    simp only [evA,Act.eval,ARel,DRel,Rep]
    exact ⟨[],rfl,by simp [RepVals]⟩
   | global g=>trivial
  have go:GivesA e U w0.heap.size S0 m oi (evA (after s (ops.toList.take i) (αs.take i))) α->oi.wp e.P a w (wpAny e.P .any ops Q (k+(ops.size - n)) (listed.setIfInBounds i true)) Q:=fun hG =>
   Oper.wp_mono (fun a' w' ⟨S',hI',hJ'⟩=>wpAny_headT he hH hn hs hsz hal hch hgo hsk hend k _ _ _ S' hI' hJ' hcount) (hgo listed a w S i oi d α hI hJ hA hin hr hdn hα hop hG)
  unfold wpOp
  simp only [hoi]
  unfold StepA at hst
  cases hg:oi.guard with
  | none =>
   rw [hg] at hst
   have hwt:Region.wanted oi (yielded ops a.tmps)=true:=by simp [Region.wanted,hg]
   rw [if_pos hwt]
   exact .inl (go hst)
  | some jw =>
   obtain ⟨j,want⟩:=jw
   rw [hg] at hst
   obtain ⟨hjn,hjw⟩:=hA.guard j want hg
   have hrelD:∀ dj,((ops[j]?).bind (·.dst))=some dj->ARel w S L (gs (after s (ops.toList.take i) (αs.take i)) dj) (a.tmps.getD dj undef):=fun dj hdj=>hI.operand hH hn hal hA hin hall (t:=dj) (fun j' p hj' hp hpt=>by
    obtain ⟨p0,d0,hP0⟩:=headB.get hH hjn
    have hd0:d0=dj:=by have:=hdj;rw [hP0.op] at this;simp [hP0.dst] at this;exact this
    by_cases hjj:j'=j
    ·rw [hjj];exact hjw
    ·exact absurd (by rw [hpt,hd0]) ((hP0.dep j' p hj' hp).1 hjj))
   rcases hst with ⟨b,hb1,hb2⟩ | ⟨hb1,hb2⟩
   rotate_left
   ·simp only [Option.map_eq_some_iff] at hb1
    obtain ⟨dj,hd1,hd2⟩:=hb1
    have hdj:((ops[j]?).bind (·.dst))=some dj:=by simpa using join_bind hd1
    have hrel:=hrelD dj hdj
    rw [hd2] at hrel
    rw [wanted_no hg hdj hrel]
    subst hb2
    simp only [Bool.false_eq_true,if_false]
    exact wpAny_headT he hH hn hs hsz hal hch hgo hsk hend k _ _ _ S (hI.put hH hA hin hr hdn hα (fun _ h=>h) hI.cls (Kept.refl _ _ _ _) rfl) (hsk listed a w S i oi d hJ hI hA hin hr hdn (by rw [hg];simp)) hcount
   simp only [Option.map_eq_some_iff] at hb1
   obtain ⟨dj,hd1,hd2⟩:=hb1
   have hdj:((ops[j]?).bind (·.dst))=some dj:=by simpa using join_bind hd1
   have hrel:=hrelD dj hdj
   rw [hd2] at hrel
   have h4:=getD_bool hrel.bool
   have hwt:Region.wanted oi (yielded ops a.tmps)=decide (b=want):=by
    have h6:yielded ops a.tmps j=some b:=by unfold yielded;rw [hdj];simp only [Option.bind_some,h4]
    simp only [Region.wanted,hg,h6]
    cases b <;> cases want <;> rfl
   rw [hwt]
   by_cases hbw:b=want
   ·rw [if_pos hbw] at hb2
    simp only [hbw,decide_true,if_true]
    exact .inl (go hb2)
   ·rw [if_neg hbw] at hb2
    subst hb2
    simp only [hbw,decide_false,Bool.false_eq_true,if_false]
    exact wpAny_headT he hH hn hs hsz hal hch hgo hsk hend k _ _ _ S (hI.put hH hA hin hr hdn hα (fun _ h=>h) hI.cls (Kept.refl _ _ _ _) rfl) (hsk listed a w S i oi d hJ hI hA hin hr hdn (by rw [hg];simp)) hcount
theorem simAfter {σ:St} (hH:headB ops n=true) (hn:n<=ops.size) (hal:αs.length=n) {listed:Array Bool} {a':Act} {w':World} {S':Nat->Prop} (hI:InvA e U w0 S0 nt σ.m ops n σ.s αs L listed a' w' S') (hall:∀ i,i < n->listed.getD i false=true):Sim e U w0 S0 nt ⟨after σ.s (ops.toList.take n) αs,σ.m⟩ a' w' S' L:=by
 refine ⟨hI.cls,fun t=>?_,hI.size,hI.defers,hI.kept⟩
 by_cases hex:∃ (j:Nat) (p:Oper),j < n∧ops[j]?=some p∧p.dst=some t
 ·obtain ⟨j,p,hj,hp,hpt⟩:=hex
  obtain ⟨p',d',hP⟩:=headB.get hH hj
  have hpp:p'=p:=by have:=hP.op;rw [hp] at this;injection this with this;exact this.symm
  subst hpp
  have hdt:d'=t:=by have:=hP.dst;rw [hpt] at this;injection this with this;exact this.symm
  subst hdt
  obtain ⟨α,hα⟩:∃ α,αs[j]?=some α:=⟨αs[j],List.getElem?_eq_getElem (by omega)⟩
  show ARel w' S' L (gs (after σ.s (ops.toList.take n) αs) d') _
  rw [gs_after_in (ops.toList.take n) αs σ.s j p' α (by rw [List.getElem?_take,if_pos hj];simpa using hp) hα hpt (fun k q hk hq=>by
   rw [List.getElem?_take] at hq
   split at hq
   ·exact (hP.dep k q (by omega) (by simpa using hq)).1 hk
   ·cases hq)]
  exact hI.done j p' d' α hj (hall j hj) hp hpt hα
 ·have hno:∀ (j:Nat) (p:Oper),j < n->ops[j]?=some p->p.dst≠some t:=fun j p hj hp hd=>hex ⟨j,p,hj,hp,hd⟩
  show ARel w' S' L (gs (after σ.s (ops.toList.take n) αs) t) _
  rw [gs_after_out _ _ _ (fun p hp=>by
   obtain ⟨j,hj⟩:=List.mem_iff_getElem?.1 hp
   rw [List.getElem?_take] at hj
   split at hj
   ·exact hno j p (by omega) (by simpa using hj)
   ·cases hj)]
  exact hI.out t hno
end
def RunsT (e:Env) (ds:List (Option Nat)) (ops:Array Oper) (K:St->Prop):Nat->Array Bool->St->Prop
 | 0,listed,σ=>Region.ready .any ops listed=[]∧K σ
 | f+1,listed,σ=>(Region.ready .any ops listed=[]->K σ)∧∀ i∈Region.ready .any ops listed,∃ o,ops[i]?=some o∧o.guard=none∧StepOk e o σ (fun σ'=>Runs e ds 0 [] σ' (RunsT e ds ops K f (listed.setIfInBounds i true)))
section
variable {e:Env} {U:Nat->Prop} {w0:World} {S0:Nat->Prop} {nt:Nat}
theorem RunsT_wp (he:e.Ok) {ops:Array Oper} {K:St->Prop} {Q:Exit->Act->World->Prop} (hQ:∀ a w σ',K σ'->SimE e U w0 S0 nt σ' a w->Q .normal a w) (hd:∀ o∈ops.toList,∀ d,o.dst=some d->d < nt) :
  ∀ (f:Nat) (listed:Array Bool) (σ:St) (a:Act) (w:World),SimE e U w0 S0 nt σ a w->RunsT e (ops.toList.map (·.dst)) ops K f listed σ->wpAny e.P .any ops Q f listed a w
 | 0,listed,σ,a,w,hs,h=>⟨h.1,hQ a w σ h.2 hs⟩
 | f+1,listed,σ,a,w,hs,h=>by
  refine ⟨fun h0=>hQ a w σ (h.1 h0) hs,fun i hi=>?_⟩
  obtain ⟨o,ho,hg,hst⟩:=h.2 i hi
  unfold wpOp
  simp only [ho]
  have hw:Region.wanted o (yielded ops a.tmps)=true:=by simp [Region.wanted,hg]
  rw [if_pos hw]
  have hmem:o∈ops.toList:=List.mem_of_getElem? (by simpa using ho)
  refine .inl (Oper.wp_mono (fun a' w' ⟨σ',hr,hs'⟩=>?_) (hst he U w0 S0 nt a w Q (hd o hmem) hs))
  exact hr he U w0 S0 nt a' w' ops.toList (fun _ a w=>wpAny e.P .any ops Q f (listed.setIfInBounds i true) a w) rfl (fun o ho=>by simp at ho) (fun a w σ'' hK hs''=>RunsT_wp he hQ hd f _ σ'' a w hs'' hK) hs'
def tailB (ops:Array Oper) (n:Nat):Bool:=(List.range ops.size).all fun i=>decide (i < n) || (List.range n).all fun j=>Region.waitsFor .any ops i j
def regT (ops:Array Oper) (n:Nat):Bool:=headB ops n && decide (n<=ops.size) && tailB ops n
theorem region_T (he:e.Ok) {id:Nat} {ops:Array Oper} {n:Nat} (hB:regT ops n=true) {K:St->Prop} {Q:Exit->Act->World->Prop} (hQ:∀ a w σ',K σ'->SimE e U w0 S0 nt σ' a w->Q .normal a w) {σ:St} {a:Act} {w:World}
  (hd:∀ o∈ops.toList,∀ d,o.dst=some d->d < nt) (h:SimE e U w0 S0 nt σ a w) (hp:Runs e (ops.toList.map (·.dst)) (n+1) (ops.toList.take n) σ (RunsT e (ops.toList.map (·.dst)) ops K (ops.size - n) (headArr ops.size n))):(Code.region id ops true).wp e.P Q a w:=by
 simp only [regT,Bool.and_eq_true,decide_eq_true_eq] at hB
 obtain ⟨⟨hH,hn⟩,hs0⟩:=hB
 have hs:∀ i,n<=i->i < ops.size->∀ j,j < n->Region.waitsFor .any ops i j=true:=fun i h1 h2 j h3=>by
  have k1:=List.all_eq_true.1 hs0 i (List.mem_range.2 h2)
  simp only [Bool.or_eq_true,decide_eq_true_eq] at k1
  rcases k1 with k1 | k1
  ·omega
  ·exact List.all_eq_true.1 k1 j (List.mem_range.2 h3)
 obtain ⟨S,L,h1⟩:=h.drew he
 refine wp_region_any he.mixed ?_
 have hlen:(ops.toList.take n).length=n:=by simp;omega
 have hp':Runs e (ops.toList.map (·.dst)) ((ops.toList.take n).length+1) (ops.toList.take n++[]) σ (RunsT e (ops.toList.map (·.dst)) ops K (ops.size - n) (headArr ops.size n)):=by rw [List.append_nil,hlen];exact hp
 obtain ⟨αs,hal,hch,hrest⟩:=runs_chain (U:=U) he w0.heap.size S0 ops.toList [] 1 (ops.toList.take n) σ (fun h=>absurd h (by decide)) hp'
 rw [hlen] at hal
 simp only [Runs] at hrest
 have inv0:InvA e U w0 S0 nt σ.m ops n σ.s αs L (Array.replicate ops.size false) a { w with drawn:=w.drawn+1 } S :=
  ⟨⟨by simp,fun j oj _ hl=>(by rw [getD_replicate_false] at hl;cases hl),fun t _ ht=>getD_in (by simpa using ht) (getD_replicate_false _ _)⟩,h1.size,h1.defers,h1.cls,h1.kept,fun t _=>h1.rel t,fun i o d α _ hl=>(by rw [getD_replicate_false] at hl;cases hl)⟩
 have H:=wpAny_headT (e:=e) (L:=L) (Q:=Q) he hH hn hs (fun i o d hi ho hdd=>hd o (List.mem_iff_getElem?.2 ⟨i,by simpa using ho⟩) d hdd) hal hch (goStep_true hH Q) (fun _ _ _ _ _ _ _ _ _ _ _ _ _ _=>trivial) (fun listed a' w' S' hI _ hall=>?_) n _ a _ S inv0 trivial ?_
 ·rw [show n+(ops.size - n)=ops.size by omega] at H
  exact H
 ·exact RunsT_wp he hQ hd _ _ _ a' w' ⟨S',L,simAfter hH hn hal hI hall⟩ hrest
 ·rw [List.countP_eq_length.2]
  ·simp
  ·intro i hi
   have hi':=List.mem_range.1 hi
   have hsz:i < (Array.replicate ops.size false).size:=by simp;omega
   rw [getD_ftt hsz,getD_replicate_false]
   rfl
end
section
variable {e:Env} {U:Nat->Prop} {w0:World} {S0:Nat->Prop} {nt:Nat}
structure AppAt (P:Program) (σ:St) (o:Oper) (d ety sz:Nat) (rows:List (List C)):Prop where
 at':∃ (x y:Operand) (args:Array Operand) (ts:Array TypeId) (t by':Nat) (r1 ys:List (List C)),o.op=.call ⟨.builtin .append,args,ts⟩∧args.toList=[x,y]∧evA σ.s x=.d (.clip r1)∧slA [] (evA σ.s y)=some ys∧ts[0]?=some t∧ts[1]?=some t∧bytesT P t=some (ety,sz,by') ∧
  rowsB sz r1=true∧rowsB sz ys=true∧r1.length+ys.length<=maxApp∧(r1=[]∨ys≠[])∧rows=r1++ys
 dst:o.dst=some d
 guard:o.guard=none
theorem slA_data {m:List (Nat × Bk)} {y:A} {ys:List (List C)} (h:slA [] y=some ys):slA m y=some ys:=by
 unfold slA at h ⊢
 split at h <;> simp_all [gm,bufA]
theorem AppAt.run (he:e.Ok) {σ:St} {o:Oper} {d ety sz:Nat} {rows:List (List C)} (hA:AppAt e.P σ o d ety sz rows) {m:List (Nat × Bk)} {w:World} {S:Nat->Prop} {L:Lay} {ρv:Operand->Value} (hC:Cls e U w0.heap.size S0 m w S L) (hr:∀ x,x∈o.op.operands->ARel w S L (evA σ.s x) (ρv x)) :
  ∃ v' w',(execOp ρv o).run e.P w=.ok (.value v') w'∧BufRel w' S ety sz rows v'∧Kept e.D (fun _=>False) w.heap.size w w'∧∀ g,vblk v'=some g->w.heap.size<=g:=by
 obtain ⟨x,y,args,ts,t,by',r1,ys,ho,hargs,hx,hy,h0,h1,hb,hr1,hys,hle,hne,rfl⟩:=hA.at'
 have hx':=hr x (by rw [ho];simp [Op.operands,Call.operands,hargs,<- Array.mem_toList_iff])
 have hy':=hr y (by rw [ho];simp [Op.operands,Call.operands,hargs,<- Array.mem_toList_iff])
 rw [hx] at hx'
 have hx':DRel w S (.clip r1) (ρv x):=hx'
 have hyl:=rowsB_iff.1 hys
 have hyf:=slA_first (σ:=⟨[],m⟩) hC (slA_data hy) hy' hyl
 obtain ⟨v',w',hrun,hbuf,τ,hk,hτ,hg⟩:=append_own (σ:=⟨[],m⟩) (ty:=o.type) he hC h0 h1 hb (.inr ⟨hx',hne⟩) (rowsB_iff.1 hr1) hyl hle hyf
 have hτn:∀ g,τ≠some g:=fun g e1=>by
  obtain ⟨h2,h3⟩:=hτ g e1
  obtain ⟨h4,a,n,h5⟩:=hx'
  rw [h5] at h2 h3 h4
  simp only [Rep] at h4
  obtain ⟨A,n',cap,h6,h7,_,_,h8⟩:=h4
  injection h6 with h6 h9 h10
  subst h6 h9
  cases a with
  | none=>simp [vblk] at h2
  | some q =>
   simp only [vblk] at h2
   split at h2
   ·cases h2
   ·rename_i hn0
    injection h2 with h2
    obtain ⟨b,off,h11,hS,_⟩:=h8 (by omega)
    injection h11 with h11
    obtain ⟨_,_,h12⟩:=h3
    rcases h12 with ⟨h12,_⟩ | ⟨g',cap',cur,h13,_,_,h14,_⟩
    ·rw [h12] at h7;simp at h7;omega
    ·injection h13 with h13 _ _
     injection h13 with h13
     rw [h13] at h11
     injection h11 with h11
     exact h14 (h11 ▸ hS)
 refine ⟨v',w',?_,hbuf,⟨hk.os,hk.tape,hk.output,hk.drawn,hk.size,fun k hk' hn=>hk.block k hk' (fun e1=>hτn k e1)⟩,fun g hg'=>?_⟩
 ·have ha:args.map ρv=#[ρv x,ρv y]:=by apply Array.toList_inj.1;simp [hargs]
  simp [execOp,ho,resolve,invoke,builtin,ha,hrun,Result.andThen]
 ·rcases hg g hg' with e1 | e1
  ·exact (hτn g e1).elim
  ·exact e1
theorem AppAt.gives (he:e.Ok) {σ:St} {o:Oper} {d ety sz:Nat} {rows:List (List C)} (hA:AppAt e.P σ o d ety sz rows) {m:List (Nat × Bk)}:GivesA e U w0.heap.size S0 m o (evA σ.s) .undef:=by
 intro w S L ρv hC hr
 obtain ⟨v',w',h1,_,h3,_⟩:=hA.run he hC hr
 have hk:Kept e.D e.E w.heap.size w w':=⟨h3.os,h3.tape,h3.output,h3.drawn,h3.size,fun k hk hn=>h3.block k hk id⟩
 unfold Go.Proofs.YtffmjghcpgpfpaaGreatDoor.gives
 rw [h1]
 exact ⟨S,⟨fun _ h=>h,fun _ h=>.inl h⟩,hC.later hk (he.keep _ _ h3.size (fun b hE=>h3.block b (Nat.lt_of_lt_of_le (hC.ein b hE) hC.bsz) id) hC.g) (fun _ h=>h) (fun _ h=>.inl h),hk,trivial⟩
end
section
variable {e:Env} {mask:Nat} {Q:PX->St->Prop} {ds:List (Option Nat)}
theorem okDst {nt:Nat} {id:Nat} {ops:Array Oper} {fl:Bool} (hok:okCode nt (.region id ops fl)=true):∀ o∈ops.toList,∀ d,o.dst=some d->d < nt:=fun o ho d hd=>by
 simp only [okCode] at hok
 have:=List.all_eq_true.1 hok o ho
 rw [hd] at this
 simpa using this
theorem gT0 {ops:Array Oper} {listed:Array Bool} {s s':List (Nat × A)} {m:List (Nat × Bk)} (hK:Q .normal ⟨s',m⟩) (hr:Region.ready .any ops listed=[]:=by decide +kernel) (hs:trimS mask s=s':=by exact snv):RunsT e ds ops (TrimK mask Q) 0 listed ⟨s,m⟩:=by
 subst hs
 exact ⟨hr,hK⟩
end
end Go.Proofs.YtffmjghcpgpfpaaGreatDoor
namespace Go.Proofs.YtffmjghcpgpfpaaGreatDoor
open Go.RowKit
section
variable {e:Env} {mask:Nat} {Q:PX->St->Prop} {ds:List (Option Nat)}
theorem wp_any {P:Program} {o:Oper} {a:Act} {w:World} {K:Act->World->Prop} {Q0 Q:Exit->Act->World->Prop} (h0:∀ ex a w,ex≠.normal->¬ Q0 ex a w) (hh:o.wp P a w K Q0):o.wp P a w K Q:=by
 have hl:¬ LetsOut Q0:=fun ⟨a,w,h⟩=>h0 _ a w (by simp) h
 unfold Oper.wp at *
 generalize (execOp a.eval o).run P w=r at *
 cases r with
 | ok n w' =>
  cases n <;> simp only [Oper.upon] at hh ⊢ <;> first
   | exact hh
   | exact Calls.mono hh (fun e w'' he=>by cases e <;> first | exact he | exact absurd he (h0 _ _ _ (by simp)) | exact absurd he hl)
   | exact absurd hh hl
   | exact absurd hh (h0 _ _ _ (by simp))
 | halt x w' =>
  cases x <;> simp only [Oper.upon] at hh ⊢ <;> first
   | exact hh
   | exact absurd hh hl
   | exact absurd hh (h0 _ _ _ (by simp))
theorem stepOk_of_runs {o:Oper} {σ:St} {K:St->Prop} (hg:o.guard=none) (h:Runs e ds 0 [o] σ K):StepOk e o σ (fun σ'=>Runs e ds 0 [] σ' K):=by
 intro he U w0 S0 nt a w Q hd hs
 have h:RunsS e ds [o] σ K:=by simpa only [Runs] using h
 have h1:=h he U w0 S0 nt a w (ds.map fun d=>{ o with dst:=d }) (fun ex a' w'=>ex=.normal∧∃ σ',K σ'∧SimE e U w0 S0 nt σ' a' w') (by rw [List.map_map];exact List.map_id ds) (fun o' ho d hd'=>by simp only [List.mem_singleton] at ho;subst ho;exact hd d hd') (fun a w σ' k1 k2=>⟨rfl,σ',k1,k2⟩) hs
 unfold wpList at h1
 have hw:Region.wanted o (yielded (ds.map fun d=>{ o with dst:=d }).toArray a.tmps)=true:=by simp [Region.wanted,hg]
 rw [if_pos hw] at h1
 rcases h1 with h1 | ⟨_,a',w',h1,_⟩
 ·refine wp_any (fun ex a w hne h=>hne h.1) (Oper.wp_mono (fun a' w' hk=>?_) h1)
  simp only [wpList] at hk
  obtain ⟨_,σ',k1,k2⟩:=hk
  exact ⟨σ',runs_nil k1,k2⟩
 ·cases h1
theorem gO1 {ops:Array Oper} {K:St->Prop} {f:Nat} {listed:Array Bool} {o:Oper} {σ:St} (i:Nat) (hK:Runs e ds 0 [o] σ (RunsT e ds ops K f (listed.setIfInBounds i true))) (hr:Region.ready .any ops listed=[i]:=by decide +kernel) (ho:ops[i]?=some o:=by simp only [List.getElem?_toArray,List.getElem?_cons_succ,List.getElem?_cons_zero];exact rfl) (hg:o.guard=none:=by exact rfl):RunsT e ds ops K (f+1) listed σ:=by
 refine ⟨fun h=>(by rw [hr] at h;cases h),fun j hj=>?_⟩
 rw [hr] at hj
 have hji:j=i:=by simpa using hj
 subst hji
 exact ⟨o,ho,hg,stepOk_of_runs hg hK⟩
theorem gO2 {ops:Array Oper} {K:St->Prop} {f:Nat} {listed:Array Bool} {o o':Oper} {σ:St} (i j:Nat) (hK:Runs e ds 0 [o] σ (RunsT e ds ops K f (listed.setIfInBounds i true))) (hK':Runs e ds 0 [o'] σ (RunsT e ds ops K f (listed.setIfInBounds j true))) (hr:Region.ready .any ops listed=[i,j]:=by decide +kernel) (ho:ops[i]?=some o:=by simp only [List.getElem?_toArray,List.getElem?_cons_succ,List.getElem?_cons_zero];exact rfl) (hg:o.guard=none:=by exact rfl) (ho':ops[j]?=some o':=by simp only [List.getElem?_toArray,List.getElem?_cons_succ,List.getElem?_cons_zero];exact rfl) (hg':o'.guard=none:=by exact rfl):RunsT e ds ops K (f+1) listed σ:=by
 refine ⟨fun h=>(by rw [hr] at h;cases h),fun k hk=>?_⟩
 rw [hr] at hk
 have hk:k=i∨k=j:=by simpa using hk
 rcases hk with rfl | rfl
 ·exact ⟨o,ho,hg,stepOk_of_runs hg hK⟩
 ·exact ⟨o',ho',hg',stepOk_of_runs hg' hK'⟩
theorem gO3 {K:St->Prop} {o:Oper} {s s1:List (Nat × A)} {m m1:List (Nat × Bk)} (hK:K ⟨s1,m1⟩) (h:runOps e.P ds 0 [o] ⟨s,m⟩=.done ⟨s1,m1⟩:=by exact sfv):Runs e ds 0 [o] ⟨s,m⟩ K:=runs_done h hK
theorem runs_quietA {K:St->Prop} {n:Nat} {os:List Oper} {o:Oper} {σ:St} (hg:o.guard=none) (hal:isAl o=false) (h:QuietOk e o σ (fun σ'=>Runs e ds n os σ' K)):Runs e ds (n+1) (o::os) σ K:=by
 simp only [Runs,hg]
 rw [if_neg (by simp [hal])]
 exact h
theorem gAq {K:St->Prop} {os:List Oper} {n d ty:Nat} {p:String} {ed:Array Edge} {x:Operand} {y:D} {s:List (Nat × A)} {m:List (Nat × Bk)} (hK:Runs e ds n os ⟨(d,.d y)::s,m⟩ K) (hx:evA s x=.d y:=by exact sfx):Runs e ds (n+1) (⟨some d,.assign x,ty,p,ed,none⟩::os) ⟨s,m⟩ K :=
 runs_quietA rfl rfl fun he=>⟨.d y,hK,fun U base S0=>givesA_pure fun w S L ρv hC hr=>⟨ρv x,by simp [execOp],by
  have h:=hr x (by simp [Op.operands])
  rw [hx] at h
  exact h⟩⟩
end
end Go.Proofs.YtffmjghcpgpfpaaGreatDoor
namespace Go.Proofs.YtffmjghcpgpfpaaGreatDoor
open Go.RowKit
set_option maxHeartbeats 4000000 in
set_option maxRecDepth 100000 in
theorem con_isSet (n:Int):Con e0 222 [.one (.lit (.int .i64 n))] [.one (.lit (.bool (decide (0<=n∧n<=65535))))]:=by
 refine gI 5 Tryz.func222 ?_
 by_cases h1:0<=n <;> by_cases h2:n<=65535 <;> (have F:=ai @h1 @h2;refine gG ?_;exact gT)
theorem encSub_u:∀ p:Int × Int,encSub p=[.lit (.int .i64 p.1),.lit (.int .i64 p.2)]:=fun _=>rfl
theorem u64_in {k:Nat} (h:k < 62):IntKind.u64.wrap (k:Int)=(k:Int):=by
 have h2:(k:Int) < 18446744073709551616:=by omega
 simp only [IntKind.wrap,IntKind.signed,IntKind.bits,Bool.false_eq_true,if_false]
 exact Int.emod_eq_of_lt (by omega) (by omega)
theorem un_int:Tryz.prog.underlying 3=some (.int .i64):=by kernel_rfl
theorem un_uint:intKindT (Tryz.prog.underlying 168)=some .u64:=by kernel_rfl
theorem shl_k {k:Nat} (h:k < 62):IntKind.i64.wrap (1 * 2 ^ min k 64)=((2 ^ k:Nat):Int):=by
 rw [Nat.min_eq_left (by omega),Int.one_mul,show (2:Int) ^ k=((2 ^ k:Nat):Int) by rw [Int.natCast_pow];rfl]
 have:=pow_lt62 h
 generalize 2 ^ k=x at this ⊢
 exact IntWalk.i64_in _ (by omega)
theorem cv_uint (j:Int):convX j (some (.int .i64)) (some .u64)=some (.d (.one (.lit (.int .u64 (IntKind.u64.wrap j))))):=rfl
set_option maxHeartbeats 4000000 in
set_option maxRecDepth 100000 in
theorem con_l2Bit {k:Nat} (hk:k < 62):Con e0 211 [.one (.lit (.int .i64 k))] [.one (.lit (.int .i64 ((2 ^ k:Nat):Int)))]:=by
 have h1:=u64_in hk
 have h2:=shl_k hk
 refine gI 5 Tryz.func211 ?_
 (have F:=ai @un_int (ai @un_uint (ai @cv_uint (ai @h1 (ai @h2 @natInt))));refine gG ?_;exact gT)
def tbit (a k:Nat):Bool:=a.testBit k
theorem shr_k {a k:Nat} (ha:a < 4611686018427387904) (h:k < 62):decide (bits .and .i64 ((a:Int).fdiv (2 ^ min k 64)) 1=1)=tbit a k:=by
 rw [tbit]
 rw [Nat.min_eq_left (by omega),Int.fdiv_eq_ediv_of_nonneg _ (Int.pow_nonneg (by decide)),<- testBit_shr ha]
 exact (Bool.beq_eq_decide_eq _ _).symm
set_option maxHeartbeats 4000000 in
set_option maxRecDepth 100000 in
theorem con_l2Has {a k:Nat} (ha:a < 4611686018427387904) (hk:k < 16):Con e0 119 [.one (.lit (.int .i64 a)),.one (.lit (.int .i64 k))] [.one (.lit (.bool (tbit a k)))]:=by
 have h1:=u64_in (k:=k) (by omega)
 have h2:=shr_k (k:=k) ha (by omega)
 have z1:((k:Int) < 16)=True:=eq_true (by omega)
 have z2:((0:Int)<=(k:Int))=True:=eq_true (by omega)
 refine gI 19 Tryz.func119 ?_
 (have F:=ai @un_int (ai @un_uint (ai @cv_uint (ai @h1 (ai @h2 (ai @natInt (ai @z1 @z2))))));refine gG ?_;exact gT)
set_option maxHeartbeats 4000000 in
set_option maxRecDepth 100000 in
theorem con_l1Min (a b:Nat):Con e0 233 [.one (.lit (.int .i64 a)),.one (.lit (.int .i64 b))] [.one (.lit (.int .i64 ((min a b:Nat):Int)))]:=by
 refine gI 147 Tryz.func233 ?_
 by_cases h:a < b
 ·have z1:((a:Int) < (b:Int))=True:=eq_true (by omega)
  have e:min a b=a:=Nat.min_eq_left (by omega)
  (have F:=ai @z1 @e;refine gG ?_;exact gT)
 ·have z1:((a:Int) < (b:Int))=False:=eq_false (by omega)
  have e:min a b=b:=Nat.min_eq_right (by omega)
  (have F:=ai @z1 @e;refine gG ?_;exact gT)
theorem fill0_0 (n:Nat):fill0 n 0=List.replicate n 0:=by simp [fill0,up0]
theorem upIter_0 (subs:List (Int × Int)) (l:List Nat):upIter subs 0 l=l:=rfl
theorem len_rep (n:Nat) (z:List C):(List.replicate n z).length=n:=List.length_replicate
def nR (l:List Nat):List (List C):=(casts l).map encInt
section
variable {l:List Nat}
theorem nR_len:(nR l).length=l.length:=by rw [nR,List.length_map,casts_len]
theorem nR_get {i x:Nat} (h:l[i]?=some x):(nR l)[i]?=some [.lit (.int .i64 x)]:=by rw [nR,List.getElem?_map,casts_get h];rfl
theorem nR_set (i x:Nat):(nR l).set i [.lit (.int .i64 x)]=nR (l.set i x):=by rw [nR,nR,casts_set,List.map_set];rfl
theorem nR_rows:rowsB 1 (nR l)=true:=rb_int _
theorem nR_snoc (x:Nat):nR l++[[.lit (.int .i64 x)]]=nR (l++[x]):=by rw [nR,nR,casts_snoc,List.map_append];rfl
end
theorem nR_0 (n:Nat):List.replicate n [C.lit (.int .i64 0)]=nR (List.replicate n 0):=by simp [nR,casts,encInt]
theorem upSub_u:∀ (l:List Nat) (p:Int × Int),upSub l p=l.set p.1.toNat (l.getD p.1.toNat 0 ||| l.getD p.2.toNat 0):=fun _ _=>rfl
theorem upSub_0 (subs:List (Int × Int)) (l:List Nat):(subs.take 0).foldl upSub l=l:=rfl
theorem kIter_0 (subs:List (Int × Int)) (l:List Nat):kIter subs 0 l=l:=rfl
theorem kSub_0 (subs:List (Int × Int)) (l:List Nat):(subs.take 0).foldl kSub l=l:=rfl
theorem kSub_step {subs:List (Int × Int)} {i:Nat} {p:Int × Int} (h:subs[i]?=some p) (l:List Nat):(subs.take (i+1)).foldl kSub l=kSub ((subs.take i).foldl kSub l) p:=foldl_take h l
theorem nR_nil:nR (up0 0)=[]∧nR (List.range 0)=[]∧nR []=[]:=⟨rfl,rfl,rfl⟩
theorem nR_bits (a:Nat):nR (bitsTo a 0)=[]:=rfl
theorem upSub_step {subs:List (Int × Int)} {i:Nat} {p:Int × Int} (h:subs[i]?=some p) (l:List Nat):(subs.take (i+1)).foldl upSub l=upSub ((subs.take i).foldl upSub l) p:=foldl_take h l
section
variable {s:Srt}
set_option maxHeartbeats 8000000 in
set_option maxRecDepth 100000 in
theorem con_implAbove (h1:1<=s.names.length) (h8:s.names.length<=8) (hm:s.subs.length<=16) (hs:SubsIn s.names.length s.subs):Con e0 164 [.agg (encSrt s)] [.one (.sl (nR (up s)))]:=by
 have hmx:((s.names.length:Int)<=(maxApp:Int))=True:=eq_true (by unfold maxApp;omega)
 rw [encSrt]
 refine gI 2072014943 Tryz.func164 ?_
 (have F:=ai @hmx (ai @Int.toNat_natCast @len_rep);refine gG ?_;clear F)
 rw [nR_0]
 (have F:=@fill0_0;refine gL (ι:=Nat) [3,4,13,14] [3] (fun k=>[(13,A.d (.one (.lit (.int .i64 k)))),(3,.buf 3)]) (fun k=>[(3,.buf none 3 1 (nR (fill0 s.names.length k)))]) (fun k=>k<=s.names.length) (fun k=>s.names.length - k) (0) (Nat.zero_le _) (fun k hk=>?_);clear F)
 by_cases hlt:k < s.names.length
 ·have q1:(k:Int) < (s.names.length:Int):=by omega
  have hw:=wrap1 (k:=k) (by omega)
  have hsh:=shl_k (k:=k) (by omega)
  have l1:=fill0_len (n:=s.names.length) (k:=k) (by omega)
  have l2:=nR_len (l:=fill0 s.names.length k)
  have l3:=nR_rows (l:=fill0 s.names.length k)
  have l4:=nR_set (l:=fill0 s.names.length k) k (2 ^ k)
  rw [fill0_set hlt] at l4
  rw [l1] at l2
  obtain ⟨x,hx⟩:∃ x,(fill0 s.names.length k)[k]?=some x:=⟨_,List.getElem?_eq_getElem (by omega)⟩
  have l5:=nR_get hx
  (have F:=ai @q1 (ai @hsh (ai @l2 (ai @l3 (ai @l4 (ai @l5 (ai @hlt (ai @hw @natInt)))))));refine gG ?_;exact ⟨k+1,hlt,gw,gw,by omega⟩)
 obtain rfl:k=s.names.length:=by omega
 have q1:¬ ((s.names.length:Int) < (s.names.length:Int)):=by omega
 rw [fill0_end]
 have hU:=UpOk.start s.names.length
 have l0:(nR (up0 s.names.length)).length=s.names.length:=by rw [nR_len,hU.1]
 (have F:=ai @q1 @l0;refine gG ?_;clear F)
 (have F:=@upIter_0;refine gL (ι:=Nat) [3,6,24,25,27,28,29,30] [3] (fun j=>[(24,A.d (.one (.lit (.int .i64 j)))),(3,.buf 3)]) (fun j=>[(3,.buf none 3 1 (nR (upIter s.subs j (up0 s.names.length))))]) (fun j=>j<=s.names.length) (fun j=>s.names.length - j) (0) (Nat.zero_le _) (fun j hj=>?_);clear F)
 by_cases hlj:j < s.names.length
 rotate_left
 ·obtain rfl:j=s.names.length:=by omega
  have q2:¬ ((s.names.length:Int) < (s.names.length:Int)):=by omega
  rw [up]
  (have F:=@q2;refine gG ?_;clear F)
  (have F:=@e0P;refine gG ?_;exact gTz [2])
 have q2:(j:Int) < (s.names.length:Int):=by omega
 have hwj:=wrap1 (k:=j) (by omega)
 have hUj:=UpOk.iter hs j hU
 have hnx:upIter s.subs (j+1) (up0 s.names.length)=s.subs.foldl upSub (upIter s.subs j (up0 s.names.length)):=rfl
 generalize upIter s.subs j (up0 s.names.length)=u at hUj hnx ⊢
 (have F:=@q2;refine gG ?_;clear F)
 (have F:=@upSub_0;refine gL (ι:=Nat) [3,6,29,30] [3] (fun i=>[(29,A.d (.one (.lit (.int .i64 i)))),(3,.buf 3)]) (fun i=>[(3,.buf none 3 1 (nR ((s.subs.take i).foldl upSub u)))]) (fun i=>i<=s.subs.length) (fun i=>s.subs.length - i) (0) (Nat.zero_le _) (fun i hi=>?_);clear F)
 by_cases hli:i < s.subs.length
 rotate_left
 ·obtain rfl:i=s.subs.length:=by omega
  have q3:¬ ((s.subs.length:Int) < (s.subs.length:Int)):=by omega
  rw [List.take_length,<- hnx]
  (have F:=ai @q3 @hwj;refine gG ?_;exact ⟨j+1,hlj,gw,gw,by omega⟩)
 have q3:(i:Int) < (s.subs.length:Int):=by omega
 have hwi:=wrap1 (k:=i) (by omega)
 obtain ⟨p,hp⟩:∃ p,s.subs[i]?=some p:=⟨_,List.getElem?_eq_getElem hli⟩
 have hps:=hs p (List.mem_of_getElem? hp)
 have hst:=upSub_step hp u
 have hUi:=UpOk.foldl hUj (hs.take i)
 generalize (s.subs.take i).foldl upSub u=v at hUi hst ⊢
 obtain ⟨g1,b1⟩:=hUi.get (i:=p.1.toNat) (by omega)
 obtain ⟨g2,b2⟩:=hUi.get (i:=p.2.toNat) (by omega)
 have p256:2 ^ s.names.length<=256:=Nat.le_trans (Nat.pow_le_pow_right (by omega) h8) (by decide)
 have hor:=bits_or (a:=v.getD p.1.toNat 0) (b:=v.getD p.2.toNat 0) (by omega) (by omega)
 have l1:=nR_get g1
 have l2:=nR_get g2
 have l3:=nR_len (l:=v)
 rw [hUi.1] at l3
 have l4:=nR_rows (l:=v)
 have l5:=nR_set (l:=v) p.1.toNat (v.getD p.1.toNat 0 ||| v.getD p.2.toNat 0)
 have i1:0<=p.1:=hps.1
 have i2:0<=p.2:=hps.2.2.1
 have i3:p.1.toNat < s.names.length:=by omega
 have i4:p.2.toNat < s.names.length:=by omega
 (have F:=ai @q3 (ai @hp (ai @encSub_u (ai @l1 (ai @l2 (ai @l3 (ai @l4 (ai @l5 (ai @hor (ai @i1 (ai @i2 (ai @i3 (ai @i4 (ai @hwi (ai @hst @upSub_u))))))))))))));refine gG ?_;exact ⟨i+1,hli,gw,gw,by omega⟩)
set_option maxHeartbeats 8000000 in
set_option maxRecDepth 100000 in
theorem con_l3Up (h8:s.names.length<=8) (hm:s.subs.length<=16) (hs:SubsIn s.names.length s.subs):Con e0 206 [.agg (encSrt s)] [.one (.sl (nR (up s)))]:=by
 rw [encSrt]
 refine gI 2164265087 Tryz.func206 ?_
 (have F:=@e0P;refine gG ?_;clear F)
 (have F:=@nR_nil;refine gL (ι:=Nat) [3,4,12] [3] (fun k=>[(4,A.d (.one (.lit (.int .i64 k)))),(3,.buf 3)]) (fun k=>[(3,.buf none 3 1 (nR (up0 k)))]) (fun k=>k<=s.names.length) (fun k=>s.names.length - k) (0) (Nat.zero_le _) (fun k hk=>?_);clear F)
 by_cases hlt:k < s.names.length
 ·have q1:(k:Int) < (s.names.length:Int):=by omega
  have hw:=wrap1 (k:=k) (by omega)
  have l2:=nR_len (l:=up0 k)
  rw [(UpOk.start k).1] at l2
  have l3:=nR_rows (l:=up0 k)
  have l4:=nR_snoc (l:=up0 k) (2 ^ k)
  rw [<- up0_snoc] at l4
  have hmx:(k+1<=maxApp)=True:=eq_true (by unfold maxApp;omega)
  (have F:=@q1;refine gG ?_;clear F)
  refine gB ?_
  (have F:=@e0P;refine gC (con_l2Bit (k:=k) (by omega)) ?_;clear F)
  (have F:=ai @l2 (ai @l3 (ai @l4 @hmx));refine gR ?_;clear F)
  (have F:=@hw;refine gG ?_;exact ⟨k+1,hlt,gw,gw,by omega⟩)
 obtain rfl:k=s.names.length:=by omega
 have q1:¬ ((s.names.length:Int) < (s.names.length:Int)):=by omega
 have hU:=UpOk.start s.names.length
 (have F:=@q1;refine gG ?_;clear F)
 (have F:=@upIter_0;refine gL (ι:=Nat) [3,5,6,24,31] [3] (fun j=>[(5,A.d (.one (.lit (.int .i64 j)))),(3,.buf 3)]) (fun j=>[(3,.buf none 3 1 (nR (upIter s.subs j (up0 s.names.length))))]) (fun j=>j<=s.names.length) (fun j=>s.names.length - j) (0) (Nat.zero_le _) (fun j hj=>?_);clear F)
 by_cases hlj:j < s.names.length
 rotate_left
 ·obtain rfl:j=s.names.length:=by omega
  have q2:¬ ((s.names.length:Int) < (s.names.length:Int)):=by omega
  rw [up]
  (have F:=@q2;refine gG ?_;clear F)
  (have F:=@e0P;refine gG ?_;exact gTz [2])
 have q2:(j:Int) < (s.names.length:Int):=by omega
 have hwj:=wrap1 (k:=j) (by omega)
 have hUj:=UpOk.iter hs j hU
 have hnx:upIter s.subs (j+1) (up0 s.names.length)=s.subs.foldl upSub (upIter s.subs j (up0 s.names.length)):=rfl
 generalize upIter s.subs j (up0 s.names.length)=u at hUj hnx ⊢
 (have F:=@q2;refine gG ?_;clear F)
 (have F:=@upSub_0;refine gL (ι:=Nat) [3,6,31] [3] (fun i=>[(6,A.d (.one (.lit (.int .i64 i)))),(3,.buf 3)]) (fun i=>[(3,.buf none 3 1 (nR ((s.subs.take i).foldl upSub u)))]) (fun i=>i<=s.subs.length) (fun i=>s.subs.length - i) (0) (Nat.zero_le _) (fun i hi=>?_);clear F)
 by_cases hli:i < s.subs.length
 rotate_left
 ·obtain rfl:i=s.subs.length:=by omega
  have q3:¬ ((s.subs.length:Int) < (s.subs.length:Int)):=by omega
  rw [List.take_length,<- hnx]
  (have F:=ai @q3 @hwj;refine gG ?_;exact ⟨j+1,hlj,gw,gw,by omega⟩)
 have q3:(i:Int) < (s.subs.length:Int):=by omega
 have hwi:=wrap1 (k:=i) (by omega)
 obtain ⟨p,hp⟩:∃ p,s.subs[i]?=some p:=⟨_,List.getElem?_eq_getElem hli⟩
 have hps:=hs p (List.mem_of_getElem? hp)
 have hst:=upSub_step hp u
 have hUi:=UpOk.foldl hUj (hs.take i)
 generalize (s.subs.take i).foldl upSub u=v at hUi hst ⊢
 obtain ⟨g1,b1⟩:=hUi.get (i:=p.1.toNat) (by omega)
 obtain ⟨g2,b2⟩:=hUi.get (i:=p.2.toNat) (by omega)
 have p256:2 ^ s.names.length<=256:=Nat.le_trans (Nat.pow_le_pow_right (by omega) h8) (by decide)
 have hor:=bits_or (a:=v.getD p.1.toNat 0) (b:=v.getD p.2.toNat 0) (by omega) (by omega)
 have l1:=nR_get g1
 have l2:=nR_get g2
 have l3:=nR_len (l:=v)
 rw [hUi.1] at l3
 have l4:=nR_rows (l:=v)
 have l5:=nR_set (l:=v) p.1.toNat (v.getD p.1.toNat 0 ||| v.getD p.2.toNat 0)
 have i1:0<=p.1:=hps.1
 have i2:0<=p.2:=hps.2.2.1
 have i3:p.1.toNat < s.names.length:=by omega
 have i4:p.2.toNat < s.names.length:=by omega
 (have F:=ai @q3 (ai @hp (ai @encSub_u (ai @l1 (ai @l2 (ai @l3 (ai @l4 (ai @l5 (ai @hor (ai @i1 (ai @i2 (ai @i3 (ai @i4 (ai @hwi (ai @hst @upSub_u))))))))))))));refine gG ?_;exact ⟨i+1,hli,gw,gw,by omega⟩)
set_option maxHeartbeats 8000000 in
set_option maxRecDepth 100000 in
theorem con_l3KindsR (h8:s.names.length<=8) (hm:s.subs.length<=16) (hs:SubsIn s.names.length s.subs):Con e0 180 [.agg (encSrt s)] [.one (.sl (nR (kinds s)))]:=by
 rw [encSrt]
 refine gI 4328555519 Tryz.func180 ?_
 (have F:=@e0P;refine gG ?_;clear F)
 (have F:=@nR_nil;refine gL (ι:=Nat) [3,4,15] [3] (fun k=>[(4,A.d (.one (.lit (.int .i64 k)))),(3,.buf 3)]) (fun k=>[(3,.buf none 3 1 (nR (List.range k)))]) (fun k=>k<=s.names.length) (fun k=>s.names.length - k) (0) (Nat.zero_le _) (fun k hk=>?_);clear F)
 by_cases hlt:k < s.names.length
 ·have q1:(k:Int) < (s.names.length:Int):=by omega
  have hw:=wrap1 (k:=k) (by omega)
  have l2:=nR_len (l:=List.range k)
  rw [List.length_range] at l2
  have l3:=nR_rows (l:=List.range k)
  have l4:=nR_snoc (l:=List.range k) k
  rw [<- List.range_succ] at l4
  have hmx:(k+1<=maxApp)=True:=eq_true (by unfold maxApp;omega)
  (have F:=ai @q1 (ai @l2 (ai @l3 (ai @l4 (ai @hmx @hw))));refine gG ?_;exact ⟨k+1,hlt,gw,gw,by omega⟩)
 obtain rfl:k=s.names.length:=by omega
 have q1:¬ ((s.names.length:Int) < (s.names.length:Int)):=by omega
 have hU:=KOk.start s.names.length
 (have F:=@q1;refine gG ?_;clear F)
 (have F:=@kIter_0;refine gL (ι:=Nat) [3,5,6,7,8,9,25,32] [3] (fun j=>[(5,A.d (.one (.lit (.int .i64 j)))),(3,.buf 3)]) (fun j=>[(3,.buf none 3 1 (nR (kIter s.subs j (List.range s.names.length))))]) (fun j=>j<=s.names.length) (fun j=>s.names.length - j) (0) (Nat.zero_le _) (fun j hj=>?_);clear F)
 have hUj:=KOk.iter hs j hU
 have l0:=nR_len (l:=kIter s.subs j (List.range s.names.length))
 rw [hUj.1] at l0
 by_cases hlj:j < s.names.length
 rotate_left
 ·obtain rfl:j=s.names.length:=by omega
  have q2:¬ ((s.names.length:Int) < (s.names.length:Int)):=by omega
  rw [kinds]
  (have F:=ai @l0 @q2;refine gG ?_;clear F)
  (have F:=@e0P;refine gG ?_;exact gTz [2])
 have q2:(j:Int) < (s.names.length:Int):=by omega
 have hwj:=wrap1 (k:=j) (by omega)
 have hnx:kIter s.subs (j+1) (List.range s.names.length)=s.subs.foldl kSub (kIter s.subs j (List.range s.names.length)):=rfl
 generalize kIter s.subs j (List.range s.names.length)=u at hUj hnx l0 ⊢
 (have F:=ai @l0 @q2;refine gG ?_;clear F)
 (have F:=@kSub_0;refine gL (ι:=Nat) [3,6,7,8,9,32] [3] (fun i=>[(6,A.d (.one (.lit (.int .i64 i)))),(3,.buf 3)]) (fun i=>[(3,.buf none 3 1 (nR ((s.subs.take i).foldl kSub u)))]) (fun i=>i<=s.subs.length) (fun i=>s.subs.length - i) (0) (Nat.zero_le _) (fun i hi=>?_);clear F)
 by_cases hli:i < s.subs.length
 rotate_left
 ·obtain rfl:i=s.subs.length:=by omega
  have q3:¬ ((s.subs.length:Int) < (s.subs.length:Int)):=by omega
  rw [List.take_length,<- hnx]
  (have F:=ai @q3 @hwj;refine gG ?_;exact ⟨j+1,hlj,gw,gw,by omega⟩)
 have q3:(i:Int) < (s.subs.length:Int):=by omega
 have hwi:=wrap1 (k:=i) (by omega)
 obtain ⟨p,hp⟩:∃ p,s.subs[i]?=some p:=⟨_,List.getElem?_eq_getElem hli⟩
 have hps:=hs p (List.mem_of_getElem? hp)
 have hst:=kSub_step hp u
 have hUi:=KOk.foldl hUj (hs.take i)
 generalize (s.subs.take i).foldl kSub u=v at hUi hst ⊢
 obtain ⟨g1,b1⟩:=hUi.get (i:=p.1.toNat) (by omega)
 obtain ⟨g2,b2⟩:=hUi.get (i:=p.2.toNat) (by omega)
 have l1:=nR_get g1
 have l2:=nR_get g2
 have l3:=nR_len (l:=v)
 rw [hUi.1] at l3
 have l4:=nR_rows (l:=v)
 have l5:=nR_set (l:=v) p.1.toNat (min (v.getD p.1.toNat 0) (v.getD p.2.toNat 0))
 have l6:=nR_set (l:=v.set p.1.toNat (min (v.getD p.1.toNat 0) (v.getD p.2.toNat 0))) p.2.toNat (min (v.getD p.1.toNat 0) (v.getD p.2.toNat 0))
 have l7:=nR_len (l:=v.set p.1.toNat (min (v.getD p.1.toNat 0) (v.getD p.2.toNat 0)))
 rw [List.length_set,hUi.1] at l7
 have l8:=nR_rows (l:=v.set p.1.toNat (min (v.getD p.1.toNat 0) (v.getD p.2.toNat 0)))
 obtain ⟨x9,g9⟩:∃ x,(v.set p.1.toNat (min (v.getD p.1.toNat 0) (v.getD p.2.toNat 0)))[p.2.toNat]?=some x:=⟨_,List.getElem?_eq_getElem (by rw [List.length_set,hUi.1];omega)⟩
 have l9:=nR_get g9
 have i1:0<=p.1:=hps.1
 have i2:0<=p.2:=hps.2.2.1
 have i3:p.1.toNat < s.names.length:=by omega
 have i4:p.2.toNat < s.names.length:=by omega
 have hst:(s.subs.take (i+1)).foldl kSub u=(v.set p.1.toNat (min (v.getD p.1.toNat 0) (v.getD p.2.toNat 0))).set p.2.toNat (min (v.getD p.1.toNat 0) (v.getD p.2.toNat 0)):=hst
 (have F:=@q3;have NN:StopAt 12:=trivial;refine gGn ?_;clear F NN)
 refine region_Dk 14 (by decide +kernel) ?_
 intro ds hds
 simp only [List.map] at hds
 subst hds
 refine (have F:=ai hp encSub_u;gP 12 ?_)
 refine (have F:=i1;gAq ?_)
 refine (have F:=i1;gAq ?_)
 (have F:=@i1;refine gR ?_;clear F)
 (have F:=@e0P;have NN:StopAt 13:=trivial;refine gGn ?_;clear F NN)
 refine gB ?_
 (have F:=ai @l1 (ai @l2 (ai @l3 (ai @l4 (ai @i1 (ai @i2 (ai @i3 @i4))))));refine gC (con_l1Min (v.getD p.1.toNat 0) (v.getD p.2.toNat 0)) ?_;clear F)
 (have F:=@e0P;refine gR ?_;clear F)
 (have F:=ai @l1 (ai @l2 (ai @l3 (ai @l4 (ai @l5 (ai @l6 (ai @l7 (ai @l8 (ai @l9 (ai @i1 (ai @i2 (ai @i3 (ai @i4 (ai @hwi @hst)))))))))))));refine gG ?_;exact ⟨i+1,hli,gw,gw,by omega⟩)
theorem con_l3Kinds (hs:SortsOk s):Con e0 180 [.agg (encSrt s)] [.one (.sl ((casts (kinds s)).map encInt))]:=con_l3KindsR hs.n8 hs.m16 (SortsOk.subsIn hs.subs)
end
theorem and_k {x k:Nat} (hx:x < 4611686018427387904) (hk:k < 62):decide (bits .and .i64 (x:Int) ((2 ^ k:Nat):Int)=0)=!(tbit x k):=by
 rw [tbit,<- testBit_and,bits_and hx (pow_lt62 hk)]
 simp only [bne,Bool.not_not]
 rw [Bool.eq_iff_iff,decide_eq_true_eq,beq_iff_eq]
 omega
set_option maxHeartbeats 8000000 in
set_option maxRecDepth 100000 in
theorem con_listOf {a:Nat} (ha:a < 65536):Con e0 165 [.one (.lit (.int .i64 a))] [.one (.sl (nR (listOf a)))]:=by
 have cS:=con_isSet (a:Int)
 have z0:decide (0<=(a:Int)∧(a:Int)<=65535)=true:=decide_eq_true (by omega)
 rw [z0] at cS
 refine gI 264221 Tryz.func165 ?_
 (have F:=@e0P;refine gG ?_;clear F)
 (have F:=@nR_bits;refine gL (ι:=Nat) [3,4,11,18] [3] (fun k=>[(4,A.d (.one (.lit (.int .i64 k)))),(3,.buf 3)]) (fun k=>[(3,.buf none 3 1 (nR (bitsTo a k)))]) (fun k=>k<=16) (fun k=>16 - k) (0) (by omega) (fun k hk=>?_);clear F)
 by_cases hlt:k < 16
 rotate_left
 ·obtain rfl:k=16:=by omega
  have q1:¬ (((16:Nat):Int) < 16):=by omega
  rw [show listOf a=bitsTo a 16 from rfl]
  (have F:=@q1;refine gG ?_;clear F)
  (have F:=@e0P;refine gG ?_;exact gTz [2])
 have q1:((k:Int) < 16)=True:=eq_true (by omega)
 have hw:=wrap1 (k:=k) (by omega)
 have h1:=shl_k (k:=k) (by omega)
 have h2:=and_k (x:=a) (k:=k) (by omega) (by omega)
 (have F:=@e0P;have NN:StopAt 3:=trivial;refine gGn ?_;clear F NN)
 refine gB ?_
 (have F:=@q1;refine gC (cS) ?_;clear F)
 (have F:=@q1;refine gR ?_;clear F)
 have l2:=nR_len (l:=bitsTo a k)
 have l3:=nR_rows (l:=bitsTo a k)
 have l4:=nR_snoc (l:=bitsTo a k) k
 have hmx:((bitsTo a k).length+1<=maxApp)=True:=eq_true (by have:=bitsTo_len a k;unfold maxApp;omega)
 cases hb:tbit a k with
 | false =>
  rw [hb] at h2
  rw [<- bitsTo_no hb]
  (have F:=ai @q1 (ai @h1 (ai @h2 (ai @natInt @hw)));refine gG ?_;exact ⟨k+1,hlt,gw,gw,by omega⟩)
 | true =>
  rw [hb] at h2
  rw [<- bitsTo_yes hb] at l4
  (have F:=ai @q1 (ai @h1 (ai @h2 (ai @natInt (ai @l2 (ai @l3 (ai @l4 (ai @hmx @hw)))))));refine gG ?_;exact ⟨k+1,hlt,gw,gw,by omega⟩)
end Go.Proofs.YtffmjghcpgpfpaaGreatDoor
namespace Go.Proofs.YtffmjghcpgpfpaaGreatDoor
open Go.RowKit Go.MapKept Go.ChangeMaps
def MapL (w:World) (b:Nat) (l:List (ByteArray × Value)):Prop:=∃ (es:Array MapEntry) (clock:Nat),w.heap[b]?=some (.map es clock)∧es.toList.map (fun e=>(e.key,e.val))=l.map (fun p=>(Value.string p.1,p.2))
def findS (l:List (ByteArray × Value)) (s:ByteArray):Option Value:=(l.find? fun p=>s.toList==p.1.toList).map (·.2)
def mapB (b:Nat) (l:List (ByteArray × Value)):Bk:=.set (fun g=>g=b) fun w=>MapL w b l
theorem MapL.stable (b:Nat) (l:List (ByteArray × Value)):StableOn (fun g=>g=b) fun w=>MapL w b l:=fun w w' _ hE ⟨es,c,h1,h2⟩=>⟨es,c,by rw [hE b rfl];exact h1,h2⟩
theorem MapL.lt {w:World} {b:Nat} {l:List (ByteArray × Value)} (h:MapL w b l):b < w.heap.size:=by
 obtain ⟨es,clock,h,_⟩:=h
 exact (Array.getElem?_eq_some_iff.1 h).1
theorem find_map (s:ByteArray):∀ (es:List MapEntry) (l:List (ByteArray × Value)) (i:Nat),es.map (fun e=>(e.key,e.val))=l.map (fun p=>(Value.string p.1,p.2)) ->
  (∀ v,findS l s=some v->∃ j,Instr.findNow .string (.string s) es i=some (some (j,v)))∧(findS l s=none->Instr.findNow .string (.string s) es i=some none)
 | [],[],i,_=>⟨fun v h=>by simp [findS] at h,fun _=>rfl⟩
 | [],_::_,_,h=>by simp at h
 | _::_,[],_,h=>by simp at h
 | e::es,t::ts,i,h=>by
  simp only [List.map_cons,List.cons.injEq,Prod.mk.injEq] at h
  obtain ⟨⟨h1,h2⟩,h3⟩:=h
  obtain ⟨ih1,ih2⟩:=find_map s es ts (i+1) h3
  simp only [Instr.findNow,h1,h2,Instr.sameNow,beq_toListBytes,findS,List.find?_cons]
  cases he:(s.toList==t.1.toList)
  ·exact ⟨ih1,ih2⟩
  ·exact ⟨fun v hv=>⟨i,by simpa using hv⟩,fun h=>by simp at h⟩
section
variable {P:Program} {w:World} {b:Nat} {l:List (ByteArray × Value)} {t k el:TypeId}
theorem run_look (h:MapL w b l) (ht:P.underlying t=some (.map k el)) (hk:P.underlying k=some .string) {z:Value} (hz:∀ w,(zeroValue el).run P w=.ok z w) (s:ByteArray) (ok:Bool) :
  (Instr.lookup t (.map (some b)) (.string s) ok).run P w=.ok (if ok then .tuple #[(findS l s).getD z,.bool (findS l s).isSome] else (findS l s).getD z) w:=by
 obtain ⟨es,clock,h1,h2⟩:=h
 obtain ⟨f1,f2⟩:=find_map s es.toList l 0 h2
 have hc:∀ em,(Instr.checkKey em 10000 k (.string s)).run P w=.ok () w:=fun em=>MapKept.run_checkKey hk (by simp [MapKept.IsKey]) em 9999
 rcases hs:findS l s with _ | v
 ·have:=MapKept.run_findKey (w:=w) hk (f2 hs)
  simp [Instr.lookup,run_underlying ht,MapKept.run_getObj_map h1,hc,this,hs,hz]
 ·obtain ⟨j,hf⟩:=f1 v hs
  have:=MapKept.run_findKey (w:=w) hk hf
  simp [Instr.lookup,run_underlying ht,MapKept.run_getObj_map h1,hc,this,hs]
theorem run_put (h:MapL w b l) (ht:P.underlying t=some (.map k el)) (hk:P.underlying k=some .string) {s:ByteArray} (hs:findS l s=none) (v:Value) :
  ∃ w',(Instr.mapUpdate t (.map (some b)) (.string s) v).run P w=.ok () w'∧MapL w' b (l++[(s,v)])∧w'.os=w.os∧w'.tape=w.tape∧w'.output=w.output∧w'.drawn=w.drawn∧w'.heap.size=w.heap.size∧∀ x,x≠b->w'.heap[x]?=w.heap[x]?:=by
 obtain ⟨es,clock,h1,h2⟩:=h
 obtain ⟨f1,f2⟩:=find_map s es.toList l 0 h2
 have hc:∀ em,(Instr.checkKey em 10000 k (.string s)).run P w=.ok () w:=fun em=>MapKept.run_checkKey hk (by simp [MapKept.IsKey]) em 9999
 have:=MapKept.run_findKey (w:=w) hk (f2 hs)
 refine ⟨setBlock w b (.map (es.push { key:=.string s,val:=v,born:=clock }) (clock+1)),?_,⟨_,_,heap_setBlock_same h1 _,by simp [h2]⟩,rfl,rfl,rfl,rfl,by simp [setBlock],fun x hx=>heap_setBlock_other h1 _ hx⟩
 simp [Instr.mapUpdate,run_underlying ht,MapKept.run_getObj_map h1,hc,this,MapKept.run_setObj_map _ h1,setBlock]
end
section
variable {e:Env} {σ:St} {o:Oper} {K:St->Prop}
theorem step_newMap {t:TypeId} (ho:o.op=.makeMap t none) {d:Nat} (hdd:o.dst=some d) (hK:∀ b:Nat,K ⟨(d,.d (.one (.lit (.map (some b)))))::killK d σ.s,(d,mapB b [])::remM d σ.m⟩):StepOk e o σ K:=by
 intro he U w0 S0 nt a w Q hd ⟨S,L,h1⟩
 have hb:Below w.heap.size w (w.alloc (.map #[] 0)):=belowA w _
 have hk:Kept e.D (fun b=>(none:Option Nat)=some b) w.heap.size w (w.alloc (.map #[] 0)):=Kept.of_below hb (fun _=>Nat.le_refl _)
 unfold Oper.wp
 have hrun:(execOp a.eval o).run e.P w=.ok (.value (.map (some w.heap.size))) (w.alloc (.map #[] 0)):=by
  simp [execOp,ho,Instr.makeMap,newObj,Result.andThen]
  rfl
 rw [hrun,Oper.upon_value,hdd]
 refine ⟨_,hK w.heap.size,h1.born he (hd d hdd) (τ:=none) (b':=0) (v':=Go.undef) (S':=S) (fun _ h=>h) (fun _ h=>.inl h) (fun t=>.inl rfl) (fun k x h=>h) (by simp) (by simp) hk ?_ ?_ (by simp [ARel,DRel,Rep])⟩
 ·simp only [Own1,mapB]
  refine ⟨fun b hb'=>?_,⟨#[],0,heap_alloc_new w _,rfl⟩,MapL.stable _ _⟩
  subst hb'
  exact ⟨by simp,fun hs=>by have:=(h1.cls.sin _ hs).1;omega⟩
 ·intro g hg
  simp only [blkOf,mapB] at hg
  exact .inr (by omega)
theorem step_look {t:TypeId} {x y:Operand} {ok:Bool} (ho:o.op=.lookup t x y ok) {κ b:Nat} {l:List (ByteArray × Value)} {s:ByteArray} {kt el:TypeId} {z:Value} (ht:e.P.underlying t=some (.map kt el)) (hk:e.P.underlying kt=some .string) (hz:∀ w,(zeroValue el).run e.P w=.ok z w)
  (hx:evA σ.s x=.d (.one (.lit (.map (some b))))) (hy:evA σ.s y=.d (.one (.lit (.string s)))) (hm:gm σ.m κ=some (mapB b l)) {α:A} (hα:∀ (w:World) (S:Nat->Prop) (L:Lay),ARel w S L α (if ok then .tuple #[(findS l s).getD z,.bool (findS l s).isSome] else (findS l s).getD z)) (hK:K ⟨setA σ.s o.dst α,σ.m⟩):StepOk e o σ K:=by
 intro he U w0 S0 nt a w Q hd ⟨S,L,h1⟩
 have hx':=h1.eval x
 have hy':=h1.eval y
 rw [hx] at hx'
 rw [hy] at hy'
 have hx':a.eval x=.map (some b):=by simpa [ARel,DRel,Rep] using hx'
 have hy':a.eval y=.string s:=by simpa [ARel,DRel,Rep] using hy'
 obtain ⟨_,hM,_⟩:=h1.cls.own κ _ hm
 unfold Oper.wp
 have hrun:(execOp a.eval o).run e.P w=.ok (.value (if ok then .tuple #[(findS l s).getD z,.bool (findS l s).isSome] else (findS l s).getD z)) w:=by
  simp [execOp,ho,hx',hy',run_look hM ht hk hz s ok,Result.andThen]
 rw [hrun,Oper.upon_value]
 exact ⟨_,hK,S,L,h1.put (hα w S L) hd⟩
theorem step_put {t:TypeId} {x y u:Operand} (ho:o.op=.mapUpdate t x y u) {κ b:Nat} {l:List (ByteArray × Value)} {s:ByteArray} {kt el:TypeId} {v:Value} (hdn:o.dst=none) (ht:e.P.underlying t=some (.map kt el)) (hk:e.P.underlying kt=some .string)
  (hx:evA σ.s x=.d (.one (.lit (.map (some b))))) (hy:evA σ.s y=.d (.one (.lit (.string s)))) (hu:evA σ.s u=.d (.one (.lit v))) (hm:gm σ.m κ=some (mapB b l)) (hs:findS l s=none) (hK:K ⟨σ.s,(κ,mapB b (l++[(s,v)]))::remM κ σ.m⟩):StepOk e o σ K:=by
 intro he U w0 S0 nt a w Q hd ⟨S,L,h1⟩
 have hx':=h1.eval x
 have hy':=h1.eval y
 have hu':=h1.eval u
 rw [hx] at hx'
 rw [hy] at hy'
 rw [hu] at hu'
 have hx':a.eval x=.map (some b):=by simpa [ARel,DRel,Rep] using hx'
 have hy':a.eval y=.string s:=by simpa [ARel,DRel,Rep] using hy'
 have hu':a.eval u=v:=by simpa [ARel,DRel,Rep] using hu'
 obtain ⟨hbb,hM,_⟩:=h1.cls.own κ _ hm
 obtain ⟨w',hrun,hM',o1,o2,o3,o4,o5,o6⟩:=run_put hM ht hk hs v
 unfold Oper.wp
 have hrun:(execOp a.eval o).run e.P w=.ok .skip w':=by
  simp [execOp,ho,hx',hy',hu',hrun,Result.andThen]
 rw [hrun,Oper.upon_skip,hdn]
 have hkc:∀ c,S c->w'.heap[c]?=w.heap[c]?:=fun c hc=>o6 c fun e1=>(hbb b rfl).2 (e1 ▸ hc)
 obtain ⟨t1,t2,t3⟩:=h1.touch he (d:=κ) (bk:=mapB b (l++[(s,v)])) (m':=(κ,mapB b (l++[(s,v)]))::remM κ σ.m) (w':=w') (L':=L) (τ:=some b) (S':=S) (fun _ h=>h) (fun _ h=>.inl h)
  (fun k' x hkd hx=>by simp only [gm,hkd,if_false,gm_remM] at hx;exact hx) (by simp [gm]) (fun _ _=>⟨rfl,rfl⟩)
  (fun g hg=>by injection hg with hg;subst hg;exact ⟨(hbb b rfl).2,h1.cls.notE hm rfl,h1.cls.mine κ _ _ hm rfl⟩)
  (fun k' x g hkd hx hg hb=>by
   injection hg with hg;subst hg
   simp only [gm,hkd,if_false,gm_remM] at hx
   exact hkd (h1.cls.inj k' κ x _ _ hx hm hb rfl))
  ⟨o1,o2,o3,fun _=>Nat.le_of_eq o4.symm,by omega,fun c hc hE=>o6 c (fun eq=>hE (by rw [eq]))⟩
  ⟨fun c hc=>by have:=hbb c hc;exact ⟨by omega,this.2⟩,hM',MapL.stable _ _⟩ (fun g hg=>.inl (by simp only [blkOf,mapB] at hg;rw [hg]))
 exact ⟨_,hK,S,L,t1,fun t=>t3 _ _ (fun _=>⟨rfl,rfl⟩) (h1.rel t),h1.size,h1.defers,t2⟩
end
section
variable {e:Env} {K:St->Prop} {ds:List (Option Nat)} {os:List Oper} {s:List (Nat × A)} {m:List (Nat × Bk)}
theorem runs_step0 {o:Oper} {σ:St} (hg:o.guard=none) (h:StepOk e o σ (fun σ'=>Runs e ds 0 os σ' K)):Runs e ds 0 (o::os) σ K:=by
 simp only [Runs] at h ⊢
 exact runsS_step hg h
theorem gMk {d t ty:Nat} {p:String} {ed:Array Edge} {s2:List (Nat × A)} {m2:List (Nat × Bk)} (hK:∀ b:Nat,Runs e ds 0 os ⟨(d,.d (.one (.lit (.map (some b)))))::s2,(d,mapB b [])::m2⟩ K) (hs:killK d s=s2:=by exact snv) (hr:remM d m=m2:=by exact snv):Runs e ds 0 (⟨some d,.makeMap t none,ty,p,ed,none⟩::os) ⟨s,m⟩ K :=
 runs_step0 rfl (step_newMap rfl rfl (by simp only [hs,hr];exact hK))
theorem gLk {d t ty:Nat} {p:String} {ed:Array Edge} {x y:Operand} {b:Nat} {l:List (ByteArray × Value)} {k:ByteArray} {kt el:TypeId} {z v:Value} (κ:Nat) (ht:e.P.underlying t=some (.map kt el)) (hk:e.P.underlying kt=some .string) (hz:∀ w,(zeroValue el).run e.P w=.ok z w) (hv:(findS l k).getD z=v)
  (hK:Runs e ds 0 os ⟨(d,.d (.one (.lit v)))::s,m⟩ K) (hx:evA s x=.d (.one (.lit (.map (some b)))):=by exact sfx) (hy:evA s y=.d (.one (.lit (.string k))):=by exact sfx) (hm:gm m κ=some (mapB b l):=by exact snx):Runs e ds 0 (⟨some d,.lookup t x y false,ty,p,ed,none⟩::os) ⟨s,m⟩ K :=
 runs_step0 rfl (step_look rfl ht hk hz hx hy hm (α:=.d (.one (.lit v))) (fun w S L=>by rw [<- hv];simp [ARel,DRel,Rep]) hK)
theorem gUp {t ty:Nat} {p:String} {ed:Array Edge} {x y u:Operand} {b:Nat} {l:List (ByteArray × Value)} {k:ByteArray} {kt el:TypeId} {v:Value} {m2:List (Nat × Bk)} (κ:Nat) (ht:e.P.underlying t=some (.map kt el)) (hk:e.P.underlying kt=some .string) (hs:findS l k=none)
  (hK:Runs e ds 0 os ⟨s,(κ,mapB b (l++[(k,v)]))::m2⟩ K) (hx:evA s x=.d (.one (.lit (.map (some b)))):=by exact sfx) (hy:evA s y=.d (.one (.lit (.string k))):=by exact sfx) (hu:evA s u=.d (.one (.lit v)):=by exact sfx)
  (hm:gm m κ=some (mapB b l):=by exact snx) (hr:remM κ m=m2:=by exact snv):Runs e ds 0 (⟨none,.mapUpdate t x y u,ty,p,ed,none⟩::os) ⟨s,m⟩ K :=
 runs_step0 rfl (step_put rfl rfl ht hk hx hy hu hm hs (by simp only [hr];exact hK))
end
end Go.Proofs.YtffmjghcpgpfpaaGreatDoor
namespace Go.Proofs.YtffmjghcpgpfpaaGreatDoor
open Go.RowKit
def seenL (l:List ByteArray):List (ByteArray × Value):=l.map fun x=>(x,.bool true)
theorem findS_seen (l:List ByteArray) (s:ByteArray):findS (seenL l) s=if hasStr l s then some (.bool true) else none:=by
 induction l with
 | nil=>rfl
 | cons x xs ih =>
  simp only [findS,seenL,hasStr,List.map_cons,List.any_cons] at ih ⊢
  by_cases h:(s.toList==x.toList)=true
  ·rw [List.find?_cons_of_pos (by exact h)]
   simp [h]
  ·rw [List.find?_cons_of_neg (by exact h),ih]
   simp [h]
theorem seenL_snoc {l:List ByteArray} {i:Nat} {x:ByteArray} (h:l[i]?=some x):seenL (l.take i)++[(x,.bool true)]=seenL (l.take (i+1)):=by
 rw [List.take_add_one,h,seenL,seenL,List.map_append]
 rfl
theorem encStr_u:∀ x,encStr x=[.lit (.string x)]:=fun _=>rfl
theorem un_mapB:e0.P.underlying 91=some (.map 9 4):=by kernel_rfl
theorem un_str:e0.P.underlying 9=some .string:=by kernel_rfl
theorem zv_bool:∀ w,(zeroValue 4).run e0.P w=.ok (.bool false) w:=fun w=>by kernel_rfl
theorem seenL_0:seenL []=[]∧∀ l:List ByteArray,seenL (l.take 0)=[]:=⟨rfl,fun _=>rfl⟩
section
variable {s:Srt}
set_option maxHeartbeats 8000000 in
set_option maxRecDepth 100000 in
theorem con_implSorts (hok:okSrt s):Con e0 163 [.agg (encSrt s)] [.one (.lit (.bool (isSorts s)))]:=by
 have hno:¬ SortsOk s->isSorts s=false:=isSorts_false
 have cU:=fun h1 h2 h3 h4=>con_implAbove (s:=s) h1 h2 h3 h4
 have hrs:=rb_str s.names
 rw [encSrt] at cU ⊢
 refine gI 41538379337072913235836183427157855 Tryz.func163 ?_
 by_cases h1:1<=s.names.length
 rotate_left
 ·have hf:=hno fun h=>h1 h.n1
  have z1:((s.names.length:Int) < 1)=True:=eq_true (by omega)
  (have F:=ai @z1 @hf;refine gG ?_;exact gT)
 have z1:((s.names.length:Int) < 1)=False:=eq_false (by omega)
 by_cases h8:s.names.length<=8
 rotate_left
 ·have hf:=hno fun h=>h8 h.n8
  have z2:((8:Int) < (s.names.length:Int))=True:=eq_true (by omega)
  (have F:=ai @z1 (ai @z2 @hf);refine gG ?_;exact gT)
 have z2:((8:Int) < (s.names.length:Int))=False:=eq_false (by omega)
 by_cases h16:s.subs.length<=16
 rotate_left
 ·have hf:=hno fun h=>h16 h.m16
  have z3:((16:Int) < (s.subs.length:Int))=True:=eq_true (by omega)
  (have F:=ai @z1 (ai @z2 (ai @z3 @hf));refine gG ?_;exact gT)
 have z3:((16:Int) < (s.subs.length:Int))=False:=eq_false (by omega)
 (have F:=ai @z1 (ai @z2 @z3);have NN:StopAt 4:=trivial;refine gGn ?_;clear F NN)
 refine gB ?_
 refine gMk fun b=>?_
 (have F:=@e0P;refine gR ?_;clear F)
 (have F:=@e0P;refine gG ?_;clear F)
 (have F:=@seenL_0;refine gL (ι:=Nat) [2,6,31,32,42] [27] (fun i=>[(31,A.d (.one (.lit (.int .i64 i))))]) (fun i=>[(27,mapB b (seenL (s.names.take i)))]) (fun i=>i<=s.names.length∧∀ j,j < i->NameOk s.names j) (fun i=>s.names.length - i) (0) (⟨Nat.zero_le _,fun j h=>absurd h (by omega)⟩) (fun i hi=>?_);clear F)
 obtain ⟨hil,hall⟩:=hi
 by_cases hlt:i < s.names.length
 ·have q1:(i:Int) < (s.names.length:Int):=by omega
  obtain ⟨x,hx⟩:∃ x,s.names[i]?=some x:=⟨_,List.getElem?_eq_getElem hlt⟩
  have hw:=wrap1 (k:=i) (by omega)
  have hfs:=findS_seen (s.names.take i) x
  have hbad:¬ (isName x=true∧hasStr (s.names.take i) x=false)->isSorts s=false:=fun h=>hno fun hs=>h (hs.names i hlt x hx)
  have cN:=con_implName (hok.1 x (List.mem_of_getElem? hx))
  (have F:=ai @q1 (ai @hx @encStr_u);have NN:StopAt 8:=trivial;refine gGn ?_;clear F NN)
  refine gB ?_
  (have F:=@e0P;refine gP 2 ?_;clear F)
  cases hh:hasStr (s.names.take i) x with
  | true =>
   rw [hh] at hfs hbad
   have hf:=hbad fun h=>by cases h.2
   refine (have F:=e0P;gLk 27 un_mapB un_str zv_bool (v:=.bool true) (by rw [hfs];rfl) ?_)
   (have F:=@e0P;refine gR ?_;clear F)
   (have F:=@hf;refine gG ?_;exact gT)
  | false =>
  rw [hh] at hfs hbad
  refine (have F:=e0P;gLk 27 un_mapB un_str zv_bool (v:=.bool false) (by rw [hfs];rfl) ?_)
  (have F:=@e0P;refine gC (cN) ?_;clear F)
  cases hn:isName x with
  | false =>
   have hf:=hbad fun h=>by rw [hn] at h;cases h.1
   (have F:=@e0P;refine gR ?_;clear F)
   (have F:=@hf;refine gG ?_;exact gT)
  | true =>
  have hq:i+1<=s.names.length∧∀ j,j < i+1->NameOk s.names j:=⟨hlt,fun j hj=>by
   by_cases e:j=i
   ·subst e
    intro y hy
    rw [hx] at hy
    injection hy with hy
    subst hy
    exact ⟨hn,hh⟩
   ·exact hall j (by omega)⟩
  have hsn:=seenL_snoc hx
  (have F:=@e0P;refine gR ?_;clear F)
  (have F:=@e0P;have NN:StopAt 10:=trivial;refine gGn ?_;clear F NN)
  refine gB ?_
  (have F:=@e0P;refine gP 2 ?_;clear F)
  refine (have F:=e0P;gUp 27 un_mapB un_str (by rw [hfs];rfl) ?_)
  rw [hsn]
  (have F:=@e0P;refine gR ?_;clear F)
  (have F:=@hw;refine gG ?_;exact ⟨i+1,hq,gw,gw,by omega⟩)
 obtain rfl:i=s.names.length:=by omega
 have q1:¬ ((s.names.length:Int) < (s.names.length:Int)):=by omega
 (have F:=@q1;refine gG ?_;clear F)
 (have F:=@e0P;refine gL (ι:=Nat) [2,8,49,50,79] [] (fun k=>[(49,A.d (.one (.lit (.int .i64 k))))]) (fun k=>[]) (fun k=>k<=s.subs.length∧∀ (j:Nat) p,j < k->s.subs[j]?=some p->SubOk s.names.length p) (fun k=>s.subs.length - k) (0) (⟨Nat.zero_le _,fun j p h=>absurd h (by omega)⟩) (fun k hk=>?_);clear F)
 obtain ⟨hkl,hsub⟩:=hk
 by_cases hlk:k < s.subs.length
 ·have q2:(k:Int) < (s.subs.length:Int):=by omega
  obtain ⟨p,hp⟩:∃ x,s.subs[k]?=some x:=⟨_,List.getElem?_eq_getElem hlk⟩
  have hw:=wrap1 (k:=k) (by omega)
  have hbad:¬ SubOk s.names.length p->isSorts s=false:=fun h=>hno fun hs=>h (hs.subs p (List.mem_of_getElem? hp))
  by_cases c1:p.1 < 0
  ·have hf:=hbad fun h=>by have:=h.1;omega
   (have F:=ai @q2 (ai @hp (ai @encSub_u (ai @c1 @hf)));refine gG ?_;exact gT)
  by_cases c2:(s.names.length:Int)<=p.1
  ·have hf:=hbad fun h=>by have:=h.2.1;omega
   (have F:=ai @q2 (ai @hp (ai @encSub_u (ai @c1 (ai @c2 @hf))));refine gG ?_;exact gT)
  by_cases c3:p.2 < 0
  ·have hf:=hbad fun h=>by have:=h.2.2.1;omega
   (have F:=ai @q2 (ai @hp (ai @encSub_u (ai @c1 (ai @c2 (ai @c3 @hf)))));refine gG ?_;exact gT)
  by_cases c4:(s.names.length:Int)<=p.2
  ·have hf:=hbad fun h=>by have:=h.2.2.2.1;omega
   (have F:=ai @q2 (ai @hp (ai @encSub_u (ai @c1 (ai @c2 (ai @c3 (ai @c4 @hf))))));refine gG ?_;exact gT)
  by_cases c5:p.1=p.2
  ·have hf:=hbad fun h=>h.2.2.2.2 c5
   have c5:(p.1=p.2)=True:=eq_true c5
   (have F:=ai @q2 (ai @hp (ai @encSub_u (ai @c1 (ai @c2 (ai @c3 (ai @c4 (ai @c5 @hf)))))));refine gG ?_;exact gT)
  have hq:k+1<=s.subs.length∧∀ (j:Nat) p,j < k+1->s.subs[j]?=some p->SubOk s.names.length p:=⟨hlk,fun j p' hj hp'=>by
   by_cases e:j=k
   ·subst e
    rw [hp] at hp'
    injection hp' with hp'
    subst hp'
    exact ⟨by omega,by omega,by omega,by omega,c5⟩
   ·exact hsub j p' (by omega) hp'⟩
  (have F:=ai @q2 (ai @hp (ai @encSub_u (ai @c1 (ai @c2 (ai @c3 (ai @c4 (ai @c5 @hw)))))));refine gG ?_;exact ⟨k+1,hq,gw,gw,by omega⟩)
 obtain rfl:k=s.subs.length:=by omega
 have q2:¬ ((s.subs.length:Int) < (s.subs.length:Int)):=by omega
 have hsubs:∀ p∈s.subs,SubOk s.names.length p:=fun p hp=>by obtain ⟨j,hj⟩:=List.getElem?_of_mem hp;exact hsub j p (List.getElem?_eq_some_iff.1 hj).1 hj
 have hSI:=SortsOk.subsIn hsubs
 have hU:=up_ok hSI
 have hyes:(∀ i k,i < s.names.length->k < s.names.length->PairOk (up s) i k)->isSorts s=true:=fun h=>isSorts_true ⟨h1,h8,h16,fun i hi=>hall i hi,hsubs,h⟩
 have hno2:∀ i k,i < s.names.length->k < s.names.length->¬ PairOk (up s) i k->isSorts s=false:=fun i k h1 h2 h3=>hno fun h=>h3 (h.pairs i k h1 h2)
 have lU:=nR_len (l:=up s)
 rw [hU.1] at lU
 have rU:=nR_rows (l:=up s)
 (have F:=@q2;refine gG ?_;clear F)
 refine gB ?_
 (have F:=@e0P;refine gC (cU h1 h8 h16 hSI) ?_;clear F)
 (have F:=@e0P;refine gR ?_;clear F)
 generalize up s=u at hU hyes hno2 lU rU ⊢
 have hpw:∀ i,i < s.names.length->u[i]?=some (u.getD i 0)∧u.getD i 0 < 4611686018427387904:=fun i hi=>by
  obtain ⟨g1,g2⟩:=hU.get hi
  exact ⟨g1,Nat.lt_trans g2 (pow_lt62 (by omega))⟩
 (have F:=@lU;refine gG ?_;clear F)
 (have F:=@e0P;refine gL (ι:=Nat) [2,10,11,85,86,89,90,91,115] [] (fun i=>[(85,A.d (.one (.lit (.int .i64 i))))]) (fun i=>[]) (fun i=>i<=s.names.length∧∀ i' k,i' < i->k < s.names.length->PairOk u i' k) (fun i=>s.names.length - i) (0) (⟨Nat.zero_le _,fun i' k h=>absurd h (by omega)⟩) (fun i hi=>?_);clear F)
 obtain ⟨hil,hpi⟩:=hi
 by_cases hlt:i < s.names.length
 rotate_left
 ·have q3:¬ ((i:Int) < (s.names.length:Int)):=by omega
  have ht:=hyes fun i' k h1 h2=>hpi i' k (by omega) h2
  (have F:=ai @q3 @ht;refine gG ?_;exact gT)
 have q3:(i:Int) < (s.names.length:Int):=by omega
 have hwi:=wrap1 (k:=i) (by omega)
 obtain ⟨gi,bi⟩:=hpw i hlt
 (have F:=ai @q3 @lU;refine gG ?_;clear F)
 (have F:=@e0P;refine gL (ι:=Nat) [2,11,90,91,115] [] (fun k=>[(90,A.d (.one (.lit (.int .i64 k))))]) (fun k=>[]) (fun k=>k<=s.names.length∧∀ k',k' < k->PairOk u i k') (fun k=>s.names.length - k) (0) (⟨Nat.zero_le _,fun k h=>absurd h (by omega)⟩) (fun k hk=>?_);clear F)
 obtain ⟨hkl,hpk⟩:=hk
 have hwk:=wrap1 (k:=k) (by omega)
 by_cases hlk:k < s.names.length
 rotate_left
 ·have q4:¬ ((k:Int) < (s.names.length:Int)):=by omega
  have hq:i+1<=s.names.length∧∀ i' k,i' < i+1->k < s.names.length->PairOk u i' k:=⟨hlt,fun i' k' h h2=>by
   by_cases e:i'=i
   ·subst e;exact hpk k' (by omega)
   ·exact hpi i' k' (by omega) h2⟩
  (have F:=ai @q4 @hwi;refine gG ?_;exact ⟨i+1,hq,gw,gw,by omega⟩)
 have q4:(k:Int) < (s.names.length:Int):=by omega
 obtain ⟨gk,bk⟩:=hpw k hlk
 have nx:PairOk u i k->k+1<=s.names.length∧∀ k',k' < k+1->PairOk u i k':=fun h=>⟨hlk,fun k' h2=>by
  by_cases e:k'=k
  ·subst e;exact h
  ·exact hpk k' (by omega)⟩
 have si:=shl_k (k:=i) (by omega)
 have sk:=shl_k (k:=k) (by omega)
 have a1:=and_k (x:=u.getD i 0) (k:=k) bi (by omega)
 have a2:=and_k (x:=u.getD k 0) (k:=i) bk (by omega)
 have r1:=nR_get gi
 have r2:=nR_get gk
 by_cases hik:i=k
 ·have z4:((i:Int)=(k:Int))=True:=eq_true (by omega)
  have hq:=nx fun h=>h.1 hik
  (have F:=ai @q4 (ai @z4 @hwk);refine gG ?_;exact ⟨k+1,hq,gw,gw,by omega⟩)
 have z4:((i:Int)=(k:Int))=False:=eq_false (by omega)
 cases b1:tbit (u.getD i 0) k with
 | false =>
  rw [b1] at a1
  have hq:=nx fun h=>by have:=h.2.1;rw [show (u.getD i 0).testBit k=false from b1] at this;cases this
  (have F:=ai @q4 (ai @z4 (ai @sk (ai @a1 (ai @r1 (ai @rU (ai @natInt @hwk))))));refine gG ?_;exact ⟨k+1,hq,gw,gw,by omega⟩)
 | true =>
 rw [b1] at a1
 cases b2:tbit (u.getD k 0) i with
 | false =>
  rw [b2] at a2
  have hq:=nx fun h=>by have:=h.2.2;rw [show (u.getD k 0).testBit i=false from b2] at this;cases this
  (have F:=ai @q4 (ai @z4 (ai @sk (ai @si (ai @a1 (ai @a2 (ai @r1 (ai @r2 (ai @rU (ai @natInt @hwk)))))))));refine gG ?_;exact ⟨k+1,hq,gw,gw,by omega⟩)
 | true =>
  rw [b2] at a2
  have hf:=hno2 i k hlt hlk fun h=>h ⟨hik,b1,b2⟩
  (have F:=ai @q4 (ai @z4 (ai @sk (ai @si (ai @a1 (ai @a2 (ai @r1 (ai @r2 (ai @rU (ai @natInt @hf)))))))));refine gG ?_;exact gT)
end
set_option maxHeartbeats 4000000 in
set_option maxRecDepth 100000 in
theorem con_l1In (x lo hi:Int):Con e0 210 [.one (.lit (.int .i64 x)),.one (.lit (.int .i64 lo)),.one (.lit (.int .i64 hi))] [.one (.lit (.bool (decide (lo<=x∧x<=hi))))]:=by
 refine gI 71 Tryz.func210 ?_
 by_cases h1:lo<=x
 ·by_cases h2:x<=hi
  ·(have F:=ai @h1 @h2;refine gG ?_;exact gT)
  ·(have F:=ai @h1 @h2;refine gG ?_;exact gT)
 ·(have F:=@h1;refine gG ?_;exact gT)
set_option maxHeartbeats 4000000 in
set_option maxRecDepth 100000 in
theorem con_l1Has {l:List ByteArray} (s:ByteArray) (hl:l.length<=1048576):Con e0 217 [.one (.sl (l.map encStr)),.one (.lit (.string s))] [.one (.lit (.bool (hasStr l s)))]:=by
 have hr:=rb_str l
 refine gI 131635 Tryz.func217 ?_
 (have F:=@e0P;refine gG ?_;clear F)
 (have F:=@e0P;refine gL (ι:=Nat) [4,5,9,17] [] (fun i=>[(5,A.d (.one (.lit (.int .i64 i))))]) (fun i=>[]) (fun i=>i<=l.length∧hasStr l s=hasStr (l.drop i) s) (fun i=>l.length - i) (0) (⟨Nat.zero_le _,rfl⟩) (fun i hi=>?_);clear F)
 obtain ⟨hil,he⟩:=hi
 rw [he]
 by_cases hlt:i < l.length
 rotate_left
 ·have q1:¬ ((i:Int) < (l.length:Int)):=by omega
  have ht:hasStr (l.drop i) s=false:=by rw [List.drop_eq_nil_of_le (by omega)];rfl
  (have F:=ai @q1 @ht;refine gG ?_;exact gT)
 have q1:(i:Int) < (l.length:Int):=by omega
 obtain ⟨x,hx⟩:∃ x,l[i]?=some x:=⟨_,List.getElem?_eq_getElem hlt⟩
 have hw:=wrap1 (k:=i) (by omega)
 have hst:=hasStr_step (s:=s) hx
 cases hb:(x.toList==s.toList) with
 | true =>
  have ht:hasStr (l.drop i) s=true:=by rw [hst,hb];rfl
  (have F:=ai @q1 (ai @hr (ai @hx (ai @encStr_u (ai @hb @ht))));refine gG ?_;exact gT)
 | false =>
  have hq:hasStr (l.drop i) s=hasStr (l.drop (i+1)) s:=by rw [hst,hb,Bool.false_or]
  (have F:=ai @q1 (ai @hr (ai @hx (ai @encStr_u (ai @hb @hw))));refine gG ?_;exact ⟨i+1,⟨hlt,hq⟩,gw,gw,by omega⟩)
section
variable {s:Srt}
set_option maxHeartbeats 8000000 in
set_option maxRecDepth 100000 in
theorem con_specSorts (hok:okSrt s):Con e0 149 [.agg (encSrt s)] [.one (.lit (.bool (isSorts s)))]:=by
 have hno:¬ SortsOk s->isSorts s=false:=isSorts_false
 have cU:=fun h2 h3 h4=>con_l3Up (s:=s) h2 h3 h4
 have hrs:=rb_str s.names
 rw [encSrt] at cU ⊢
 refine gI 21267982750773439247570160629959360767 Tryz.func149 ?_
 by_cases h1:1<=s.names.length
 rotate_left
 ·have hf:=hno fun h=>h1 h.n1
  have z1:((s.names.length:Int) < 1)=True:=eq_true (by omega)
  (have F:=ai @z1 @hf;refine gG ?_;exact gT)
 have z1:((s.names.length:Int) < 1)=False:=eq_false (by omega)
 by_cases h8:s.names.length<=8
 rotate_left
 ·have hf:=hno fun h=>h8 h.n8
  have z2:((8:Int) < (s.names.length:Int))=True:=eq_true (by omega)
  (have F:=ai @z1 (ai @z2 @hf);refine gG ?_;exact gT)
 have z2:((8:Int) < (s.names.length:Int))=False:=eq_false (by omega)
 by_cases h16:s.subs.length<=16
 rotate_left
 ·have hf:=hno fun h=>h16 h.m16
  have z3:((16:Int) < (s.subs.length:Int))=True:=eq_true (by omega)
  (have F:=ai @z1 (ai @z2 (ai @z3 @hf));refine gG ?_;exact gT)
 have z3:((16:Int) < (s.subs.length:Int))=False:=eq_false (by omega)
 have hw1n:IntKind.i64.wrap ((s.names.length:Int) - 1)=(s.names.length:Int) - 1:=IntWalk.i64_in _ (by omega)
 (have F:=ai @z1 (ai @z2 @z3);refine gG ?_;clear F)
 (have F:=@e0P;refine gL (ι:=Nat) [2,3,28,49] [] (fun i=>[(3,A.d (.one (.lit (.int .i64 i))))]) (fun i=>[]) (fun i=>i<=s.names.length∧∀ j,j < i->NameOk s.names j) (fun i=>s.names.length - i) (0) (⟨Nat.zero_le _,fun j h=>absurd h (by omega)⟩) (fun i hi=>?_);clear F)
 obtain ⟨hil,hall⟩:=hi
 by_cases hlt:i < s.names.length
 ·have q1:(i:Int) < (s.names.length:Int):=by omega
  obtain ⟨x,hx⟩:∃ x,s.names[i]?=some x:=⟨_,List.getElem?_eq_getElem hlt⟩
  have hw:=wrap1 (k:=i) (by omega)
  have hbad:¬ (isName x=true∧hasStr (s.names.take i) x=false)->isSorts s=false:=fun h=>hno fun hs=>h (hs.names i hlt x hx)
  have cN:=con_specName (hok.1 x (List.mem_of_getElem? hx))
  have cH:=con_l1Has (l:=s.names.take i) x (by rw [List.length_take];omega)
  rw [List.map_take] at cH
  have z4:((i:Int)<=(s.names.length:Int))=True:=eq_true (by omega)
  (have F:=@q1;refine gG ?_;clear F)
  refine gB ?_
  (have F:=ai @hrs (ai @hx @encStr_u);refine gC (cN) ?_;clear F)
  cases hn:isName x with
  | false =>
   have hf:=hbad fun h=>by rw [hn] at h;cases h.1
   (have F:=@e0P;refine gR ?_;clear F)
   (have F:=@hf;refine gG ?_;exact gT)
  | true =>
  (have F:=ai @hrs (ai @hx (ai @encStr_u (ai @z4 @natInt)));refine gC (cH) ?_;clear F)
  cases hh:hasStr (s.names.take i) x with
  | true =>
   have hf:=hbad fun h=>by rw [hh] at h;cases h.2
   (have F:=@e0P;refine gR ?_;clear F)
   (have F:=@hf;refine gG ?_;exact gT)
  | false =>
  have hq:i+1<=s.names.length∧∀ j,j < i+1->NameOk s.names j:=⟨hlt,fun j hj=>by
   by_cases e:j=i
   ·subst e
    intro y hy
    rw [hx] at hy
    injection hy with hy
    subst hy
    exact ⟨hn,hh⟩
   ·exact hall j (by omega)⟩
  (have F:=@e0P;refine gR ?_;clear F)
  (have F:=@hw;refine gG ?_;exact ⟨i+1,hq,gw,gw,by omega⟩)
 obtain rfl:i=s.names.length:=by omega
 have q1:¬ ((s.names.length:Int) < (s.names.length:Int)):=by omega
 (have F:=@q1;refine gG ?_;clear F)
 (have F:=@e0P;refine gL (ι:=Nat) [2,4,54,97] [] (fun k=>[(4,A.d (.one (.lit (.int .i64 k))))]) (fun k=>[]) (fun k=>k<=s.subs.length∧∀ (j:Nat) p,j < k->s.subs[j]?=some p->SubOk s.names.length p) (fun k=>s.subs.length - k) (0) (⟨Nat.zero_le _,fun j p h=>absurd h (by omega)⟩) (fun k hk=>?_);clear F)
 obtain ⟨hkl,hsub⟩:=hk
 by_cases hlk:k < s.subs.length
 ·have q2:(k:Int) < (s.subs.length:Int):=by omega
  obtain ⟨p,hp⟩:∃ x,s.subs[k]?=some x:=⟨_,List.getElem?_eq_getElem hlk⟩
  have hw:=wrap1 (k:=k) (by omega)
  have hbad:¬ SubOk s.names.length p->isSorts s=false:=fun h=>hno fun hs=>h (hs.subs p (List.mem_of_getElem? hp))
  have hrb:=rb_sub s.subs
  (have F:=@q2;refine gG ?_;clear F)
  refine gB ?_
  (have F:=ai @hrb (ai @hp (ai @encSub_u @hw1n));refine gC (con_l1In p.1 0 ((s.names.length:Int) - 1)) ?_;clear F)
  by_cases c1:0<=p.1∧p.1<=(s.names.length:Int) - 1
  rotate_left
  ·have hf:=hbad fun h=>c1 ⟨h.1,by have:=h.2.1;omega⟩
   have y1:decide (0<=p.1∧p.1<=(s.names.length:Int) - 1)=false:=decide_eq_false c1
   (have F:=@y1;refine gR ?_;clear F)
   (have F:=@hf;refine gG ?_;exact gT)
  have y1:decide (0<=p.1∧p.1<=(s.names.length:Int) - 1)=true:=decide_eq_true c1
  (have F:=ai @hrb (ai @hp (ai @encSub_u (ai @hw1n @y1)));refine gC (con_l1In p.2 0 ((s.names.length:Int) - 1)) ?_;clear F)
  by_cases c2:0<=p.2∧p.2<=(s.names.length:Int) - 1
  rotate_left
  ·have hf:=hbad fun h=>c2 ⟨h.2.2.1,by have:=h.2.2.2.1;omega⟩
   have y2:decide (0<=p.2∧p.2<=(s.names.length:Int) - 1)=false:=decide_eq_false c2
   (have F:=ai @y1 @y2;refine gR ?_;clear F)
   (have F:=@hf;refine gG ?_;exact gT)
  have y2:decide (0<=p.2∧p.2<=(s.names.length:Int) - 1)=true:=decide_eq_true c2
  by_cases c5:p.1=p.2
  ·have hf:=hbad fun h=>h.2.2.2.2 c5
   have y5:(p.1=p.2)=True:=eq_true c5
   (have F:=ai @y1 (ai @y2 (ai @hrb (ai @hp (ai @encSub_u @y5))));refine gR ?_;clear F)
   (have F:=@hf;refine gG ?_;exact gT)
  have y5:(p.1=p.2)=False:=eq_false c5
  have hq:k+1<=s.subs.length∧∀ (j:Nat) p,j < k+1->s.subs[j]?=some p->SubOk s.names.length p:=⟨hlk,fun j p' hj hp'=>by
   by_cases e:j=k
   ·subst e
    rw [hp] at hp'
    injection hp' with hp'
    subst hp'
    exact ⟨by omega,by omega,by omega,by omega,c5⟩
   ·exact hsub j p' (by omega) hp'⟩
  (have F:=ai @y1 (ai @y2 (ai @hrb (ai @hp (ai @encSub_u @y5))));refine gR ?_;clear F)
  (have F:=@hw;refine gG ?_;exact ⟨k+1,hq,gw,gw,by omega⟩)
 obtain rfl:k=s.subs.length:=by omega
 have q2:¬ ((s.subs.length:Int) < (s.subs.length:Int)):=by omega
 have hsubs:∀ p∈s.subs,SubOk s.names.length p:=fun p hp=>by obtain ⟨j,hj⟩:=List.getElem?_of_mem hp;exact hsub j p (List.getElem?_eq_some_iff.1 hj).1 hj
 have hSI:=SortsOk.subsIn hsubs
 have hU:=up_ok hSI
 have hyes:(∀ i k,i < s.names.length->k < i->PairOk (up s) i k)->isSorts s=true:=fun h=>isSorts_true ⟨h1,h8,h16,fun i hi=>hall i hi,hsubs,fun i k hi hk hb=>by
  rcases Nat.lt_trichotomy i k with h2 | h2 | h2
  ·exact h k i hk h2 ⟨fun e=>hb.1 e.symm,hb.2.2,hb.2.1⟩
  ·exact hb.1 h2
  ·exact h i k hi h2 hb⟩
 have hno2:∀ i k,i < s.names.length->k < s.names.length->¬ PairOk (up s) i k->isSorts s=false:=fun i k h1 h2 h3=>hno fun h=>h3 (h.pairs i k h1 h2)
 have lU:=nR_len (l:=up s)
 rw [hU.1] at lU
 have rU:=nR_rows (l:=up s)
 (have F:=@q2;refine gG ?_;clear F)
 refine gB ?_
 (have F:=@e0P;refine gC (cU h8 h16 hSI) ?_;clear F)
 (have F:=@e0P;refine gR ?_;clear F)
 generalize up s=u at hU hyes hno2 lU rU ⊢
 have hpw:∀ i,i < s.names.length->u[i]?=some (u.getD i 0)∧u.getD i 0 < 4611686018427387904:=fun i hi=>by
  obtain ⟨g1,g2⟩:=hU.get hi
  exact ⟨g1,Nat.lt_trans g2 (pow_lt62 (by omega))⟩
 (have F:=@lU;refine gG ?_;clear F)
 (have F:=@e0P;refine gL (ι:=Nat) [2,6,7,103,108,124] [] (fun i=>[(6,A.d (.one (.lit (.int .i64 i))))]) (fun i=>[]) (fun i=>i<=s.names.length∧∀ i' k,i' < i->k < i'->PairOk u i' k) (fun i=>s.names.length - i) (0) (⟨Nat.zero_le _,fun i' k h=>absurd h (by omega)⟩) (fun i hi=>?_);clear F)
 obtain ⟨hil,hpi⟩:=hi
 by_cases hlt:i < s.names.length
 rotate_left
 ·have q3:¬ ((i:Int) < (s.names.length:Int)):=by omega
  have ht:=hyes fun i' k h1 h2=>hpi i' k (by omega) h2
  (have F:=ai @q3 (ai @lU @ht);refine gG ?_;exact gT)
 have q3:(i:Int) < (s.names.length:Int):=by omega
 have hwi:=wrap1 (k:=i) (by omega)
 obtain ⟨gi,bi⟩:=hpw i hlt
 (have F:=ai @q3 @lU;refine gG ?_;clear F)
 (have F:=@e0P;refine gL (ι:=Nat) [2,7,108,124] [] (fun k=>[(7,A.d (.one (.lit (.int .i64 k))))]) (fun k=>[]) (fun k=>k<=i∧∀ k',k' < k->PairOk u i k') (fun k=>i - k) (0) (⟨Nat.zero_le _,fun k h=>absurd h (by omega)⟩) (fun k hk=>?_);clear F)
 obtain ⟨hkl,hpk⟩:=hk
 have hwk:=wrap1 (k:=k) (by omega)
 by_cases hlk:k < i
 rotate_left
 ·have q4:((k:Int) < (i:Int))=False:=eq_false (by omega)
  have hq:i+1<=s.names.length∧∀ i' k,i' < i+1->k < i'->PairOk u i' k:=⟨hlt,fun i' k' h h2=>by
   by_cases e:i'=i
   ·subst e;exact hpk k' (by omega)
   ·exact hpi i' k' (by omega) h2⟩
  (have F:=ai @q4 @hwi;refine gG ?_;exact ⟨i+1,hq,gw,gw,by omega⟩)
 have q4:((k:Int) < (i:Int))=True:=eq_true (by omega)
 obtain ⟨gk,bk⟩:=hpw k (by omega)
 have nx:PairOk u i k->k+1<=i∧∀ k',k' < k+1->PairOk u i k':=fun h=>⟨hlk,fun k' h2=>by
  by_cases e:k'=k
  ·subst e;exact h
  ·exact hpk k' (by omega)⟩
 have r1:=nR_get gi
 have r2:=nR_get gk
 (have F:=@q4;refine gG ?_;clear F)
 refine gB ?_
 (have F:=ai @rU @r1;refine gC (con_l2Has (a:=u.getD i 0) (k:=k) bi (by omega)) ?_;clear F)
 cases b1:tbit (u.getD i 0) k with
 | false =>
  have hq:=nx fun h=>by have:=h.2.1;rw [show (u.getD i 0).testBit k=false from b1] at this;cases this
  (have F:=@e0P;refine gR ?_;clear F)
  (have F:=@hwk;refine gG ?_;exact ⟨k+1,hq,gw,gw,by omega⟩)
 | true =>
 (have F:=ai @rU @r2;refine gC (con_l2Has (a:=u.getD k 0) (k:=i) bk (by omega)) ?_;clear F)
 cases b2:tbit (u.getD k 0) i with
 | false =>
  have hq:=nx fun h=>by have:=h.2.2;rw [show (u.getD k 0).testBit i=false from b2] at this;cases this
  (have F:=@e0P;refine gR ?_;clear F)
  (have F:=@hwk;refine gG ?_;exact ⟨k+1,hq,gw,gw,by omega⟩)
 | true =>
  have hf:=hno2 i k hlt (by omega) fun h=>h ⟨by omega,b1,b2⟩
  (have F:=@e0P;refine gR ?_;clear F)
  (have F:=@hf;refine gG ?_;exact gT)
end
end Go.Proofs.YtffmjghcpgpfpaaGreatDoor
