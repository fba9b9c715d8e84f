/-
  Part of a proof: Tw, LTerm, Tm, Te0, Cmp, Cmp2, Cmp3, Cmp4, Sd, Sa, Te, Gd, Sg, Tf, Tg, Th, Tk, Va, Ow, Sb, Cp, Vt, Ti.
-/
import Derived.Test.YtohilkmdjdfljaaGreatBFormatModule0
import Derived.Test.YtohilkmdjdfljaaGreatBFormatModule1
import Derived.Test.YtohilkmdjdfljaaGreatBFormatModule2
import Derived.Test.YtohilkmdjdfljaaGreatRows
import Derived.Deep.RegionHeld3
import Derived.Lib.Bytealg
import Derived.Deep.QuietTactic
import Derived.BigQuiet
set_option linter.unusedSimpArgs false
set_option linter.unusedVariables false
namespace Go.Proofs.YtohilkmdjdfljaaGreat
open Go.RowKit
def tw2 (a : Alg) (i : Nat) (x y : Int) : Int := (a.tables.getD i []).getD (x * a.size + y).toNat 0
def Inz (a : Alg) (x : Int) : Prop := 0 <= x ∧ x < a.size
structure Tab2 (a : Alg) (i : Nat) : Prop where
 lo : 1 <= a.size
 hi : a.size <= 4
 tab : ∃ l, a.tables[i]? = some l ∧ l.length = a.size.toNat * a.size.toNat ∧ ∀ x ∈ l, Inz a x
theorem Tab2.get {a : Alg} {i : Nat} (h : Tab2 a i) {x y : Int} (hx : Inz a x) (hy : Inz a y) : ∃ l, a.tables[i]? = some l ∧ IntKind.i64.wrap (x * a.size) = x * a.size ∧ IntKind.i64.wrap (x * a.size + y) = x * a.size + y ∧ 0 <= x * a.size + y ∧ l[(x * a.size + y).toNat]? = some (tw2 a i x y) ∧ Inz a (tw2 a i x y) := by
 obtain ⟨l, h1, h2, h3⟩ := h.tab
 have hlo := h.lo
 have hhi := h.hi
 obtain ⟨x0, x1⟩ := hx
 obtain ⟨y0, y1⟩ := hy
 have m0 : 0 <= x * a.size := Int.mul_nonneg x0 (by omega)
 have m1 : x * a.size + a.size <= a.size * a.size := by
  have : (x + 1) * a.size <= a.size * a.size := Int.mul_le_mul_of_nonneg_right (by omega) (by omega)
  rw [Int.add_mul] at this; omega
 have m2 : a.size * a.size <= 16 := by
  have := Int.mul_le_mul hhi hhi (by omega) (by omega)
  omega
 have hl : (x * a.size + y).toNat < l.length := by
  rw [h2]
  have e : ((a.size.toNat * a.size.toNat : Nat) : Int) = a.size * a.size := by rw [Int.natCast_mul, Int.toNat_of_nonneg (by omega)]
  omega
 have e1 : tw2 a i x y = l[(x * a.size + y).toNat] := by
  unfold tw2
  simp [List.getD_eq_getElem?_getD, h1, List.getElem?_eq_getElem hl]
 refine ⟨l, h1, wrapN rfl (by omega) (by omega), wrapN rfl (by omega) (by omega), by omega, ?_, ?_⟩
 ·rw [e1]; exact List.getElem?_eq_getElem hl
 ·rw [e1]; exact h3 _ (List.getElem_mem hl)
end Go.Proofs.YtohilkmdjdfljaaGreat
namespace Go.Proofs.YtohilkmdjdfljaaGreat
open Go.RowKit
theorem okRow_Term {r : List C} (h : okRow (fieldsOf .term) r) : ∃ (i0 : Int) (t1 : ByteArray) (i2 : Int) (r3 : List (List C)), r = [.lit (.int .i64 i0), .lit (.string t1), .lit (.int .i64 i2), .sl r3] ∧ I64 i0 ∧ t1.size <= maxLen ∧ I64 i2 ∧ okRows (fieldsOf .term) r3 := by
 obtain ⟨c0, c1, c2, c3, rfl⟩ := len4 h.len
 simp only [fieldsOf, termF, occF, sortsF, sigF, moduleF, algF, List.cons_append, List.nil_append, okRow, and_true] at h
 obtain ⟨h0, h1, h2, h3⟩ := h
 obtain ⟨i0, rfl, g0⟩ := okC_int h0
 obtain ⟨t1, rfl, g1⟩ := okC_str h1
 obtain ⟨i2, rfl, g2⟩ := okC_int h2
 obtain ⟨r3, rfl, g3⟩ := okC_sl h3
 exact ⟨i0, t1, i2, r3, rfl, g0, g1, g2, g3⟩
theorem mkRow_Term {i0 : Int} {t1 : ByteArray} {i2 : Int} {r3 : List (List C)} (g0 : I64 i0) (g1 : t1.size <= maxLen) (g2 : I64 i2) (g3 : okRows (fieldsOf .term) r3) : okRow (fieldsOf .term) [.lit (.int .i64 i0), .lit (.string t1), .lit (.int .i64 i2), .sl r3] := by
 simp only [fieldsOf, termF, occF, sortsF, sigF, moduleF, algF, List.cons_append, List.nil_append, okRow, and_true]
 exact ⟨mk_int g0, mk_str g1, mk_int g2, mk_sl g3⟩
theorem repVals_Term {w : World} {S : Nat -> Prop} {i0 : Int} {t1 : ByteArray} {i2 : Int} {r3 : List (List C)} {us : List Value} (h : RepVals w S [.lit (.int .i64 i0), .lit (.string t1), .lit (.int .i64 i2), .sl r3] us) : ∃ v3, us = [.int .i64 i0, .string t1, .int .i64 i2, v3] ∧ Rep w S (.sl r3) v3 := by
 obtain ⟨u0, u1, u2, u3, rfl⟩ := len4 h.len
 simp only [RepVals, Rep.lit_iff, and_true] at h
 obtain ⟨rfl, rfl, rfl, e3⟩ := h
 exact ⟨u3, rfl, e3⟩
theorem mkVals_Term {w : World} {S : Nat -> Prop} {i0 : Int} {t1 : ByteArray} {i2 : Int} {r3 : List (List C)} {v3 : Value} (e3 : Rep w S (.sl r3) v3) : RepVals w S [.lit (.int .i64 i0), .lit (.string t1), .lit (.int .i64 i2), .sl r3] [.int .i64 i0, .string t1, .int .i64 i2, v3] := by
 simp only [RepVals, Rep.lit_iff, and_true, true_and]
 exact e3
def szTermC (row : List C) : Prop := ∀ (S : Nat -> Prop) (us : List Value) (left : Int) (w : World), okRow (fieldsOf .term) row -> RepVals w S row us -> 0 <= left -> left <= 1048576 ->
 Calls Tryz.prog 7 #[.agg us.toArray, .int .i64 left] w fun e w' => e = .returned (.int .i64 (sub left (bulkRow row))) ∧ Below w.heap.size w w'
def eqTermC (row : List C) : Prop := ∀ (S S' : Nat -> Prop) (us us' : List Value) (w : World), okRow (fieldsOf .term) row -> RepVals w S row us -> RepVals w S' row us' ->
 Calls Tryz.prog 14 #[.agg us.toArray, .agg us'.toArray] w fun e w' => e = .returned (.bool true) ∧ Below w.heap.size w w'
def toTermC (row : List C) : Prop := ∀ (S : Nat -> Prop) (us : List Value) (w : World), okRow (fieldsOf .term) row -> RepVals w S row us -> bulkRow row <= 1048576 ->
 Calls Tryz.prog 11 #[.agg us.toArray] w fun e w' => ∃ us' : List Value, e = .returned (.agg us'.toArray) ∧ OwnVals w' row (fun x => w.heap.size <= x ∧ x < w'.heap.size) us' ∧ Below w.heap.size w w'
def szTermSC (rows : List (List C)) : Prop := ∀ (S : Nat -> Prop) (v : Value) (left : Int) (w : World), okRows (fieldsOf .term) rows -> Rep w S (.sl rows) v -> 0 <= left -> left <= 1048576 ->
 Calls Tryz.prog 34 #[v, .int .i64 left] w fun e w' => e = .returned (.int .i64 (sub left (rows.length + bulkRows rows))) ∧ Below w.heap.size w w'
def eqTermSC (rows : List (List C)) : Prop := ∀ (S S' : Nat -> Prop) (v v' : Value) (w : World), okRows (fieldsOf .term) rows -> Rep w S (.sl rows) v -> Rep w S' (.sl rows) v' ->
 Calls Tryz.prog 51 #[v, v'] w fun e w' => e = .returned (.bool true) ∧ Below w.heap.size w w'
def toTermSC (rows : List (List C)) : Prop := ∀ (S : Nat -> Prop) (v : Value) (w : World), okRows (fieldsOf .term) rows -> Rep w S (.sl rows) v -> rows.length + bulkRows rows <= 1048576 ->
 Calls Tryz.prog 45 #[v] w fun e w' => ∃ v', e = .returned v' ∧ Own w' (.sl rows) (fun x => w.heap.size <= x ∧ x < w'.heap.size) v' ∧ Below w.heap.size w w'
set_option maxHeartbeats 1000000 in
theorem szTerm_of (row : List C) (h : ∀ (rows : List (List C)), nodesRows rows < nodesRow row -> szTermSC rows) : szTermC row := by
 intro S us left w hok hv h0 h1
 obtain ⟨i0, t1, i2, r3, rfl, g0, g1, g2, g3⟩ := okRow_Term hok
 obtain ⟨v3, rfl, e3⟩ := repVals_Term hv
 have HC3 := Lib.hid (h r3 (by simp [nodesRow, nodesC]; omega))
 clear h
 have HB := Lib.hid (show bulkRow [.lit (.int .i64 i0), .lit (.string t1), .lit (.int .i64 i2), .sl r3] = t1.size + (r3.length + bulkRows r3) from by simp only [bulkRow, bulkC]; omega)
 have hs1 := g1
 unfold maxLen at hs1
 have G0 := Lib.hid g0
 have G1 := Lib.hid g1
 have G2 := Lib.hid g2
 have G3 := Lib.hid g3
 clear g0 g1 g2 g3 hok
 have E3 := Lib.hid e3
 clear hv e3
 generalize hrow : bulkRow [.lit (.int .i64 i0), .lit (.string t1), .lit (.int .i64 i2), .sl r3] = total at HB ⊢
 clear hrow
 have hbw := (Below.refl w.heap.size w).alloc (Nat.le_refl _) (.cells #[.int .i64 i0, .string t1, .int .i64 i2, v3] 31)
 by_cases q1 : left - (t1.size : Int) < 0
 ·go_enter Tryz.func7, Tryz.ntmps7
  go_wp2
  go_ret
  exact ⟨ret_int (a := -1) (sub_neg (by have := HB.out; omega)).symm, hbw⟩
 go_enter Tryz.func7, Tryz.ntmps7
 go_wp2_with fail
 by_cases q3 : (left - (t1.size : Int)) < ((r3.length + bulkRows r3) : Nat)
 ·refine (HC3.out S _ _ _ G3.out (E3.out.below hbw) (by omega) (by omega)).mono ?_
  rw [sub_neg (by omega)]
  rintro e w1 ⟨rfl, hb1⟩
  go_wp2
  go_ret
  exact ⟨ret_int (a := -1) (sub_neg (by have := HB.out; omega)).symm, hbw.trans (hb1.mono hbw.size)⟩
 refine (HC3.out S _ _ _ G3.out (E3.out.below hbw) (by omega) (by omega)).mono ?_
 rw [sub_pos (by omega)]
 rintro e w1 ⟨rfl, hb1⟩
 obtain ⟨hc1, hf1⟩ := bcell hb1
 have hz1 : w.heap.size < w1.heap.size := (by have := hb1.size; (try simp at this); omega)
 replace hbw := hbw.trans (hb1.mono hbw.size)
 go_wp2
 go_ret
 exact ⟨ret_int (by have := HB.out; rw [sub_pos (by omega)]; omega), hbw⟩
set_option maxHeartbeats 1000000 in
theorem eqTerm_of (row : List C) (h : ∀ (rows : List (List C)), nodesRows rows < nodesRow row -> eqTermSC rows) : eqTermC row := by
 intro S S' us us' w hok hv hv'
 obtain ⟨i0, t1, i2, r3, rfl, g0, g1, g2, g3⟩ := okRow_Term hok
 obtain ⟨v3, rfl, e3⟩ := repVals_Term hv
 obtain ⟨x3, rfl, d3⟩ := repVals_Term hv'
 have HC3 := Lib.hid (h r3 (by simp [nodesRow, nodesC]; omega))
 clear h
 have G0 := Lib.hid g0
 have G1 := Lib.hid g1
 have G2 := Lib.hid g2
 have G3 := Lib.hid g3
 clear g0 g1 g2 g3 hok
 have E3 := Lib.hid e3
 have D3 := Lib.hid d3
 clear hv hv' e3 d3
 have hbw := ((Below.refl w.heap.size w).alloc (Nat.le_refl _) (.cells #[.int .i64 i0, .string t1, .int .i64 i2, v3] 41)).alloc (by simp) (.cells #[.int .i64 i0, .string t1, .int .i64 i2, x3] 41)
 go_enter Tryz.func14, Tryz.ntmps14
 go_wp2_with fail
 refine (HC3.out S S' _ _ _ G3.out (E3.out.below hbw) (D3.out.below hbw)).mono ?_
 rintro e w1 ⟨rfl, hb1⟩
 obtain ⟨hc1, hf1⟩ := bcell hb1
 have hz1 : w.heap.size + 1 < w1.heap.size := (by have := hb1.size; (try simp at this); omega)
 have ha1 : w.heap.size < w1.heap.size := by omega
 replace hbw := hbw.trans (hb1.mono hbw.size)
 go_wp2
 go_ret
 exact ⟨rfl, hbw⟩
set_option maxHeartbeats 2000000 in
theorem toTerm_of (row : List C) (h : ∀ (rows : List (List C)), nodesRows rows < nodesRow row -> toTermSC rows) : toTermC row := by
 intro S us w hok hv hlen
 obtain ⟨i0, t1, i2, r3, rfl, g0, g1, g2, g3⟩ := okRow_Term hok
 obtain ⟨v3, rfl, e3⟩ := repVals_Term hv
 have HC3 := Lib.hid (h r3 (by simp [nodesRow, nodesC]; omega))
 clear h
 have G0 := Lib.hid g0
 have G1 := Lib.hid g1
 have G2 := Lib.hid g2
 have G3 := Lib.hid g3
 clear g0 g1 g2 g3 hok
 have E3 := Lib.hid e3
 clear hv e3
 have hl3 : (r3.length + bulkRows r3) <= 1048576 := by
  have e : (r3.length + bulkRows r3) <= bulkRow [.lit (.int .i64 i0), .lit (.string t1), .lit (.int .i64 i2), .sl r3] := by simp only [bulkRow, bulkC]; omega
  exact Nat.le_trans e hlen
 clear hlen
 go_enter Tryz.func11, Tryz.ntmps11
 go_wp2_with fail
 refine (HC3.out S _ _ G3.out (by exact E3.out.below (by repeat (first | refine Below.alloc ?_ (by simp; try omega) _ | exact Below.refl _ _))) hl3).mono ?_
 rintro e w1 ⟨y3, rfl, hown3, hb1⟩
 obtain ⟨A3, n3, cap3, rfl, _, _, _⟩ := (Own.rep _ _ _ hown3).form
 have hz1 := hb1.size
 simp at hz1 hown3
 have HOWN3 := Lib.hid hown3
 clear hown3
 have hbw1 : Below w.heap.size w w1 := Below.trans (by repeat (first | refine Below.alloc ?_ (by simp; try omega) _ | exact Below.refl _ _)) (hb1.mono (by simp; try omega))
 obtain ⟨hc1, hf1⟩ := bcell hb1
 have ha1 : w.heap.size < w1.heap.size := by omega
 have hbb1 : w.heap.size + 1 < w1.heap.size := by omega
 have hcc1 : w.heap.size + 1 + 1 < w1.heap.size := by omega
 go_wp2
 refine bodyPost_ret (v := .agg #[.int .i64 i0, .string t1, .int .i64 i2, .slice A3 n3 cap3]) (by simp [results, Tryz.results11, go_sem, hc1, ha1, hbb1, hcc1]) rfl ⟨[.int .i64 i0, .string t1, .int .i64 i2, .slice A3 n3 cap3], rfl, ?_, (by repeat (first | refine Below.setCell ?_ (by simp; try omega) _ | exact hbw1))⟩
 simp
 exact (OwnVals.lit (OwnVals.lit (OwnVals.lit (OwnVals.cons (fun x => w.heap.size + 1 + 1 + 1 <= x ∧ x < w1.heap.size) (fun x => w1.heap.size <= x ∧ x < w1.heap.size) (HOWN3.out.same (by repeat (first | refine Same.trans ?_ (Same.setCell _ _ _ _ (by simp; try omega)) | exact Same.refl _ _))) OwnVals.nil (fun x hx => ⟨by omega, by omega⟩) (fun x hx => ⟨by omega, by omega⟩) (fun x hx hy => by omega)))))
set_option maxHeartbeats 1000000 in
theorem szTermS_of (rows : List (List C)) (h : ∀ (i : Nat) r, rows[i]? = some r -> szTermC r) : szTermSC rows := by
 intro S v left w hok hv h0 h1
 obtain ⟨A, m, cap, rfl, hm, hmc, hcm⟩ := hv.form
 have H := Lib.hid h
 have HV := Lib.hid hv
 have HM := Lib.hid hm
 have HOK := Lib.hid hok
 clear h hv hm hok
 unfold maxLen at hcm
 by_cases hlt : left - m < 0
 ·rw [sub_neg (by have := HM.out; omega)]
  go_enter Tryz.func34, Tryz.ntmps34
  go_wp2
  go_ret
  exact ⟨rfl, Below.refl _ _⟩
 ·go_enter Tryz.func34, Tryz.ntmps34
  go_wp2
  go_loopw [1, 5] (fun l i wr => ∃ k : Nat, k <= m ∧ i = .int .i64 k ∧ l = .int .i64 (left - m - (bulkRows (rows.take k) : Int)) ∧ 0 <= left - m - (bulkRows (rows.take k) : Int) ∧ Below w.heap.size w wr) (fun _ i _ => m - (intOf i).toNat)
  case atStart => exact ⟨0, Nat.zero_le _, rfl, by simp [bulkRows], by simp [bulkRows]; omega, Below.refl _ _⟩
  case round =>
   obtain ⟨k, hk, rfl, rfl, hl0, hb⟩ := hrel
   by_cases hkm : k < m
   ·obtain ⟨b, off, r, rfl, hS, hbz, hget, hokr, hrow⟩ := (HV.out.below hb).get HOK.out hkm
    obtain ⟨u0, u1, u2, u3, c0, c1, c2, c3, hvals⟩ := hrow.vals4 hokr.len
    have HT := H.out k r hget
    have HVALS := Lib.hid hvals
    have HOKR := Lib.hid hokr
    have HBT := Lib.hid (bulk_take hget)
    have hle := bulk_take_le rows (k+1)
    clear hvals hokr hrow hget
    simp only [fieldsOf, termF, occF, sortsF, sigF, moduleF, algF, List.cons_append, List.nil_append, List.length_cons, List.length_nil, Nat.reduceAdd, Nat.mul_one] at c0 c1 c2 c3
    by_cases h2 : left - m - (bulkRows (rows.take k) : Int) < bulkRow r
    ·go_wp2_with fail
     refine (HT S _ _ _ HOKR.out HVALS.out (by omega) (by omega)).mono ?_
     rw [sub_neg h2]
     rintro e w' ⟨rfl, hb2⟩
     go_wp2
     go_ret
     exact ⟨ret_int (a := -1) (sub_neg (by have := HBT.out; have := HM.out; omega)).symm, hb.trans (hb2.mono hb.size)⟩
    ·go_wp2_with fail
     refine (HT S _ _ _ HOKR.out HVALS.out (by omega) (by omega)).mono ?_
     rw [sub_pos (by omega)]
     rintro e w' ⟨rfl, hb2⟩
     go_wp2
     go_roundw
     case rel => exact ⟨k + 1, by omega, by go_num, by have := HBT.out; congr 1; omega, by have := HBT.out; omega, hb.trans (hb2.mono hb.size)⟩
     case measure => simp [intOf]; omega
   ·go_wp2
    go_ret
    have e : k = m := by omega
    subst e
    have : rows.take k = rows := List.take_of_length_le (by have := HM.out; omega)
    rw [this] at hl0 ⊢
    exact ⟨ret_int (by have := HM.out; rw [sub_pos (by omega)]; omega), hb⟩
set_option maxHeartbeats 1000000 in
theorem eqTermS_of (rows : List (List C)) (h : ∀ (i : Nat) r, rows[i]? = some r -> eqTermC r) : eqTermSC rows := by
 intro S S' v v' w hok hv hv'
 obtain ⟨A, m, cap, rfl, hm, hmc, hcm⟩ := hv.form
 obtain ⟨A', m', cap', rfl, hm', hmc', hcm'⟩ := hv'.form
 obtain rfl : m = m' := by omega
 have H := Lib.hid h
 have HV := Lib.hid hv
 have HV' := Lib.hid hv'
 have HM := Lib.hid hm
 have HOK := Lib.hid hok
 clear h hv hm hok hm' hv'
 unfold maxLen at hcm hcm'
 go_enter Tryz.func51, Tryz.ntmps51
 go_wp2
 go_loopw [5] (fun i wr => ∃ k : Nat, k <= m ∧ i = .int .i64 k ∧ Below w.heap.size w wr) (fun i _ => m - (intOf i).toNat)
 case atStart => exact ⟨0, Nat.zero_le _, rfl, Below.refl _ _⟩
 case round =>
  obtain ⟨k, hk, rfl, hb⟩ := hrel
  by_cases hkm : k < m
  ·obtain ⟨b, off, r, rfl, hS, hbz, hget, hokr, hrow⟩ := (HV.out.below hb).get HOK.out hkm
   obtain ⟨b', off', r', rfl, hS', hbz', hget', hokr', hrow'⟩ := (HV'.out.below hb).get HOK.out hkm
   obtain rfl : r = r' := by rw [hget] at hget'; exact Option.some.inj hget'
   obtain ⟨u0, u1, u2, u3, c0, c1, c2, c3, hvals⟩ := hrow.vals4 hokr.len
   obtain ⟨x0, x1, x2, x3, d0, d1, d2, d3, hvals'⟩ := hrow'.vals4 hokr.len
   have HT := H.out k r hget
   have HVALS := Lib.hid hvals
   have HVALS' := Lib.hid hvals'
   have HOKR := Lib.hid hokr
   clear hvals hvals' hokr hokr' hrow hrow' hget hget'
   simp only [fieldsOf, termF, occF, sortsF, sigF, moduleF, algF, List.cons_append, List.nil_append, List.length_cons, List.length_nil, Nat.reduceAdd, Nat.mul_one] at c0 c1 c2 c3 d0 d1 d2 d3
   have k0 : (0 : Int) <= (k : Int) := by omega
   have k1 : (k : Int) < (m : Int) := by omega
   go_wp2_with fail
   go_region_held3 (fun w' => ∀ b o, b < wr.heap.size -> w'.cell? ⟨b, o, none⟩ = wr.cell? ⟨b, o, none⟩) (first | go_keep | exact fun b o h => hb2.cell (p := ⟨b, o, none⟩) h) (first | (go_at_call 14; refine (HT S S' _ _ _ HOKR.out (HVALS.out.below (Below.refl _ _).drew) (HVALS'.out.below (Below.refl _ _).drew)).mono ?_; rintro e w' ⟨rfl, hb2⟩))
   go_wp2
   go_roundw
   case rel => exact ⟨k + 1, by omega, by go_num, hb.trans ((Below.refl _ _).drew.trans (hb2.mono hb.size))⟩
   case measure => simp [intOf]; omega
  ·go_wp2
   go_ret
   exact ⟨rfl, hb⟩
theorem info_Term : (Tryz.prog.info? 41).map (fun i => (i.zero, i.size, i.bytes)) = some (some (.agg #[.int .i64 0, .string .empty, .int .i64 0, .slice none 0 0]), 4, 56) := by kernel_rfl
set_option maxHeartbeats 1000000 in
theorem toTermS_of (rows : List (List C)) (h : ∀ (i : Nat) r, rows[i]? = some r -> toTermC r) : toTermSC rows := by
 intro S v w hok hv hlen
 obtain ⟨A, m, cap, rfl, hm, hmc, hcm⟩ := hv.form
 obtain ⟨i0, hi, hz0, hz1, hz2⟩ := info_parts info_Term
 have H := Lib.hid h
 have HV := Lib.hid hv
 have HM := Lib.hid hm
 have HOK := Lib.hid hok
 have hml : m <= 1048576 := by omega
 clear h hv hm hok
 unfold maxLen at hcm
 have hmk := run_make (P := Tryz.prog) w 39 41 i0 _ Tryz.underlying39 hi hz0 .i64 .i64 (m : Int) (m : Int) (by omega) (by omega) (by rw [hz2]; omega) (by omega)
 go_enter Tryz.func45, Tryz.ntmps45
 go_wp2
 clear hmk
 go_loopw [4] (fun i wr => ∃ k : Nat, k <= m ∧ i = .int .i64 k ∧ Filling w w.heap.size 41 m 4 rows k wr) (fun i _ => m - (intOf i).toNat)
 case atStart => exact ⟨0, Nat.zero_le _, rfl, Filling.start (size_madeCells _ _)⟩
 case round =>
  obtain ⟨k, hk, rfl, hfill⟩ := hrel
  have hb := hfill.1
  by_cases hkm : k < m
  ·obtain ⟨b, off, r, rfl, hS, hbz, hget, hokr, hrow⟩ := (HV.out.below hb).get HOK.out hkm
   obtain ⟨u0, u1, u2, u3, c0, c1, c2, c3, hvals⟩ := hrow.vals4 hokr.len
   have HT := H.out k r hget
   have HVALS := Lib.hid hvals
   have HOKR := Lib.hid hokr
   have HGET := Lib.hid hget
   have HF := Lib.hid hfill
   have hbg := bulk_get hget
   clear hvals hokr hrow hget hfill
   simp only [fieldsOf, termF, occF, sortsF, sigF, moduleF, algF, List.cons_append, List.nil_append, List.length_cons, List.length_nil, Nat.reduceAdd, Nat.mul_one] at c0 c1 c2 c3
   go_wp2_with fail
   refine (HT S _ _ HOKR.out HVALS.out (by omega)).mono ?_
   rintro e w2 ⟨us, rfl, hown, hb2⟩
   have hone := HOKR.out.one (OwnVals.rep _ _ (fun _ => True) _ (fun _ _ => trivial) hown)
   obtain ⟨y0, y1, y2, y3, rfl⟩ := len4 (hown.len.trans HOKR.out.len)
   have HOWN := Lib.hid hown
   have HONE := Lib.hid hone
   obtain ⟨cur, hcur, hcs⟩ := HF.out.row hb2
   have HCUR := Lib.hid hcur
   have HCS := Lib.hid hcs
   clear hown hone hcur hcs
   go_wp2_with (refine wpList_store_put rfl 41 _ _ rfl w.heap.size (k * 4) rfl [y0, y1, y2, y3] rfl i0 hi hz1 41 cur HCUR.out (by have := HCS.out; simp only [List.length_cons, List.length_nil]; omega) HONE.out ?_; intro w3 hput)
   go_roundw
   case rel => exact ⟨k + 1, by omega, by go_num, HF.out.step (fs := fieldsOf .term) HOK.out HGET.out hb2 HOWN.out hput⟩
   case measure => simp [intOf]; omega
  ·go_wp2
   go_ret
   have e : k = m := by omega
   subst e
   exact ⟨_, rfl, hfill.done HM.out (by unfold maxLen; omega) (by decide) HOK.out.lens⟩
theorem szTermS_all (n : Nat) : ∀ rows, nodesRows rows < n -> szTermSC rows := by
 induction n with
 | zero => intro rows h; omega
 | succ n ih => exact fun rows h => szTermS_of rows (fun i r hr => szTerm_of r (fun rows' h' => ih rows' (by have := nodes_get hr; omega)))
theorem szTermS_any (rows : List (List C)) : szTermSC rows := szTermS_all _ rows (Nat.lt_succ_self _)
theorem szTerm_any (row : List C) : szTermC row := szTerm_of row (fun rows _ => szTermS_any rows)
theorem eqTermS_all (n : Nat) : ∀ rows, nodesRows rows < n -> eqTermSC rows := by
 induction n with
 | zero => intro rows h; omega
 | succ n ih => exact fun rows h => eqTermS_of rows (fun i r hr => eqTerm_of r (fun rows' h' => ih rows' (by have := nodes_get hr; omega)))
theorem eqTermS_any (rows : List (List C)) : eqTermSC rows := eqTermS_all _ rows (Nat.lt_succ_self _)
theorem eqTerm_any (row : List C) : eqTermC row := eqTerm_of row (fun rows _ => eqTermS_any rows)
theorem toTermS_all (n : Nat) : ∀ rows, nodesRows rows < n -> toTermSC rows := by
 induction n with
 | zero => intro rows h; omega
 | succ n ih => exact fun rows h => toTermS_of rows (fun i r hr => toTerm_of r (fun rows' h' => ih rows' (by have := nodes_get hr; omega)))
theorem toTermS_any (rows : List (List C)) : toTermSC rows := toTermS_all _ rows (Nat.lt_succ_self _)
theorem toTerm_any (row : List C) : toTermC row := toTerm_of row (fun rows _ => toTermS_any rows)
end Go.Proofs.YtohilkmdjdfljaaGreat
namespace Go.Proofs.YtohilkmdjdfljaaGreat
open Go.RowKit
inductive Tm where
 | mk (op : Int) (name : ByteArray) (sort : Int) (args : List Tm)
def Tm.args : Tm -> List Tm | .mk _ _ _ a => a
def Tm.op : Tm -> Int | .mk a _ _ _ => a
def Tm.name : Tm -> ByteArray | .mk _ a _ _ => a
def Tm.sort : Tm -> Int | .mk _ _ a _ => a
mutual
def encTm : Tm -> List C
 | .mk op nm so args => [.lit (.int .i64 op), .lit (.string nm), .lit (.int .i64 so), .sl (encTms args)]
def encTms : List Tm -> List (List C)
 | [] => []
 | t :: ts => encTm t :: encTms ts
end
mutual
def okTm : Tm -> Prop
 | .mk op nm so args => I64 op ∧ nm.size <= maxLen ∧ I64 so ∧ okTms args
def okTms : List Tm -> Prop
 | [] => True
 | t :: ts => okTm t ∧ okTms ts
end
theorem encTms_eq (ts : List Tm) : encTms ts = ts.map encTm := by
 induction ts with
 | nil => simp [encTms]
 | cons t ts ih => simp [encTms, ih]
theorem encTms_len (ts : List Tm) : (encTms ts).length = ts.length := by simp [encTms_eq]
theorem encTms_get (ts : List Tm) (i : Nat) : (encTms ts)[i]? = ts[i]?.map encTm := by simp [encTms_eq]
mutual
theorem okRow_enc : ∀ (t : Tm), okTm t -> okRow (fieldsOf .term) (encTm t)
 | .mk op nm so args, h => by
  simp only [okTm] at h
  simp only [encTm]
  exact mkRow_Term h.1 h.2.1 h.2.2.1 (okRows_enc args h.2.2.2)
theorem okRows_enc : ∀ (ts : List Tm), okTms ts -> okRows (fieldsOf .term) (encTms ts)
 | [], _ => by simp [encTms, okRows]
 | t :: ts, h => by
  simp only [okTms] at h
  simp only [encTms, okRows]
  exact ⟨okRow_enc t h.1, okRows_enc ts h.2⟩
end
theorem dec_both (n : Nat) : (∀ row, nodesRow row < n -> okRow (fieldsOf .term) row -> ∃ t, row = encTm t ∧ okTm t) ∧ (∀ rows, nodesRows rows < n -> okRows (fieldsOf .term) rows -> ∃ ts, rows = encTms ts ∧ okTms ts) := by
 induction n with
 | zero => exact ⟨fun _ h => by omega, fun _ h => by omega⟩
 | succ n ih =>
  have h1 : ∀ row, nodesRow row < n + 1 -> okRow (fieldsOf .term) row -> ∃ t, row = encTm t ∧ okTm t := by
   intro row hn hok
   obtain ⟨i0, t1, i2, r3, rfl, g0, g1, g2, g3⟩ := okRow_Term hok
   obtain ⟨ts, rfl, hts⟩ := ih.2 r3 (by simp only [nodesRow, nodesC] at hn; omega) g3
   exact ⟨.mk i0 t1 i2 ts, by simp [encTm], by simp only [okTm]; exact ⟨g0, g1, g2, hts⟩⟩
  refine ⟨h1, fun rows => ?_⟩
  induction rows with
  | nil => exact fun _ _ => ⟨[], by simp [encTms], by simp [okTms]⟩
  | cons r rs ihr =>
   intro hn hok
   simp only [nodesRows] at hn
   simp only [okRows] at hok
   obtain ⟨t, rfl, ht⟩ := h1 r (by omega) hok.1
   obtain ⟨ts, rfl, hts⟩ := ihr (by omega) hok.2
   exact ⟨t :: ts, by simp [encTms], by simp only [okTms]; exact ⟨ht, hts⟩⟩
theorem decTms {rows : List (List C)} (h : okRows (fieldsOf .term) rows) : ∃ ts, rows = encTms ts ∧ okTms ts := (dec_both _).2 rows (Nat.lt_succ_self _) h
theorem okTms.mem : ∀ {ts : List Tm} {t : Tm}, okTms ts -> t ∈ ts -> okTm t
 | [], _, _, h => by simp at h
 | x :: xs, t, h, ht => by
  simp only [okTms] at h
  rcases List.mem_cons.1 ht with rfl | ht
  ·exact h.1
  ·exact okTms.mem h.2 ht
def cmpInt (a b : Int) : Int := if a < b then -1 else if b < a then 1 else 0
def cmpStr (a b : ByteArray) : Int := Lib.compareBytes a.data.toList b.data.toList
def firstNZ : List Int -> Int
 | [] => 0
 | x :: xs => if x = 0 then firstNZ xs else x
mutual
def cmpTm : Tm -> Tm -> Int
 | .mk o n s a, .mk o' n' s' a' => firstNZ [cmpInt o o', cmpStr n n', cmpInt s s', cmpTms a a']
def cmpTms : List Tm -> List Tm -> Int
 | [], [] => 0
 | [], _ :: _ => -1
 | _ :: _, [] => 1
 | x :: xs, y :: ys => firstNZ [cmpTm x y, cmpTms xs ys]
end
theorem compareBytes_self : ∀ (l : List UInt8), Lib.compareBytes l l = 0
 | [] => rfl
 | x :: xs => by simp [Lib.compareBytes, compareBytes_self xs]
theorem compareBytes_zero : ∀ {l m : List UInt8}, Lib.compareBytes l m = 0 -> l = m
 | [], [], _ => rfl
 | [], _ :: _, h => by simp [Lib.compareBytes] at h
 | _ :: _, [], h => by simp [Lib.compareBytes] at h
 | x :: xs, y :: ys, h => by
  simp only [Lib.compareBytes] at h
  split at h
  ·simp at h
  ·split at h
   ·simp at h
   ·rename_i h1 h2
    have e : x = y := UInt8.le_antisymm (UInt8.not_lt.1 h2) (UInt8.not_lt.1 h1)
    rw [e, compareBytes_zero h]
theorem compareBytes_less : ∀ (l m : List UInt8), Op.bytesLess l m = decide (Lib.compareBytes l m = -1)
 | [], [] => by simp [Op.bytesLess, Lib.compareBytes]
 | [], _ :: _ => by simp [Op.bytesLess, Lib.compareBytes]
 | _ :: _, [] => by simp [Op.bytesLess, Lib.compareBytes]
 | x :: xs, y :: ys => by
  have ih := compareBytes_less xs ys
  simp only [Op.bytesLess, Lib.compareBytes, ih]
  by_cases h1 : x < y
  ·simp [h1]
  ·by_cases h2 : y < x
   ·have : ¬ x = y := fun e => by subst e; exact h1 h2
    simp [h1, h2, this]
   ·have e : x = y := UInt8.le_antisymm (UInt8.not_lt.1 h2) (UInt8.not_lt.1 h1)
    subst e
    simp [h1]
theorem compareBytes_range : ∀ (l m : List UInt8), Lib.compareBytes l m = -1 ∨ Lib.compareBytes l m = 0 ∨ Lib.compareBytes l m = 1
 | [], [] => by simp [Lib.compareBytes]
 | [], _ :: _ => by simp [Lib.compareBytes]
 | _ :: _, [] => by simp [Lib.compareBytes]
 | x :: xs, y :: ys => by
  have ih := compareBytes_range xs ys
  simp only [Lib.compareBytes]
  split
  ·simp
  ·split
   ·simp
   ·exact ih
theorem cmpInt_zero {a b : Int} : cmpInt a b = 0 ↔ a = b := by unfold cmpInt; split <;> (try split) <;> simp <;> omega
theorem cmpStr_zero {a b : ByteArray} : cmpStr a b = 0 ↔ a = b := by
 constructor
 ·intro h
  have := compareBytes_zero h
  obtain ⟨⟨la⟩⟩ := a
  obtain ⟨⟨lb⟩⟩ := b
  simp at this
  rw [this]
 ·rintro rfl
  exact compareBytes_self _
theorem cmpStr_range (a b : ByteArray) : cmpStr a b = -1 ∨ cmpStr a b = 0 ∨ cmpStr a b = 1 := compareBytes_range _ _
theorem cmpTms_step : ∀ {ps qs : List Tm} {k : Nat} {x y : Tm}, ps[k]? = some x -> qs[k]? = some y -> cmpTms (ps.drop k) (qs.drop k) = firstNZ [cmpTm x y, cmpTms (ps.drop (k + 1)) (qs.drop (k + 1))] := by
 intro ps qs k x y h1 h2
 have e1 : ps.drop k = x :: ps.drop (k + 1) := by
  obtain ⟨hl, hx⟩ := List.getElem?_eq_some_iff.1 h1
  rw [<- hx]; exact List.drop_eq_getElem_cons hl
 have e2 : qs.drop k = y :: qs.drop (k + 1) := by
  obtain ⟨hl, hx⟩ := List.getElem?_eq_some_iff.1 h2
  rw [<- hx]; exact List.drop_eq_getElem_cons hl
 rw [e1, e2, cmpTms]
end Go.Proofs.YtohilkmdjdfljaaGreat
namespace Go.Proofs.YtohilkmdjdfljaaGreat
open Go.RowKit
theorem tm_len (t : Tm) : (encTm t).length = 4 := by cases t; rfl
theorem tm_take (t : Tm) : (encTm t).take 4 = encTm t := by cases t; rfl
theorem tm_drop (t : Tm) : (encTm t).drop 4 = [] := by cases t; rfl
theorem tm_ok (t : Tm) : (encTm t).all okCell = true := by cases t; rfl
theorem rb_tm (ts : List Tm) : rowsB 4 (encTms ts) = true := by
 rw [encTms_eq]
 exact rowsB_map (e := encTm) (n := 4) (fun t => by rw [tm_len, tm_ok]; rfl) ts
theorem tm_v0 (t : Tm) : valT .one (encTm t) = some (.d (.one (.lit (.int .i64 t.op)))) := by cases t; rfl
theorem tm_d1 (t : Tm) : (encTm t).drop 1 = [.lit (.string t.name), .lit (.int .i64 t.sort), .sl (encTms t.args)] := by cases t; rfl
theorem tm_d2 (t : Tm) : (encTm t).drop 2 = [.lit (.int .i64 t.sort), .sl (encTms t.args)] := by cases t; rfl
theorem tm_d3 (t : Tm) : (encTm t).drop 3 = [.sl (encTms t.args)] := by cases t; rfl
theorem tmz : type_of% (ai tm_v0 (ai tm_d1 (ai tm_d2 (ai tm_d3 (ai tm_len (ai tm_take (ai tm_drop (ai tm_ok (ai rb_tm (ai encTms_get (ai encTms_len @drop0))))))))))) := (ai tm_v0 (ai tm_d1 (ai tm_d2 (ai tm_d3 (ai tm_len (ai tm_take (ai tm_drop (ai tm_ok (ai rb_tm (ai encTms_get (ai encTms_len @drop0)))))))))))
end Go.Proofs.YtohilkmdjdfljaaGreat
namespace Go.Proofs.YtohilkmdjdfljaaGreat
open Go.RowKit
theorem cmpCompare (a b : Int) (w : World) : Calls Tryz.prog 175 #[.int .i64 a, .int .i64 b] w fun e w' => e = .returned (.int .i64 (cmpInt a b)) ∧ w = w' := by
 unfold cmpInt
 by_cases h1 : a < b
 ·rw [if_pos h1]
  go_enter Tryz.func175, Tryz.ntmps175
  go_wp2
  go_ret
  exact ⟨rfl, rfl⟩
 ·by_cases h2 : b < a
  ·rw [if_neg h1, if_pos h2]
   go_enter Tryz.func175, Tryz.ntmps175
   go_wp2
   go_ret
   exact ⟨rfl, rfl⟩
  ·rw [if_neg h1, if_neg h2]
   go_enter Tryz.func175, Tryz.ntmps175
   go_wp2
   go_ret
   exact ⟨rfl, rfl⟩
set_option maxRecDepth 100000 in
theorem bytealgCompare (a b : ByteArray) (w : World) : Calls Tryz.prog 194 #[.string a, .string b] w fun e w' => e = .returned (.int .i64 (cmpStr a b)) ∧ w = w' := by
 go_enter Tryz.func194, Tryz.ntmps194
 go_wp2
 rw [run_callFunc_extern Tryz.func204 (by kernel_rfl) (by kernel_rfl) (by kernel_rfl) (e := Extern.BytealgCompare.compare) (by kernel_rfl), Lib.run_compareString]
 simp only [Result.andThen]
 rw [Oper.upon_value]
 go_wp2
 go_ret
 exact ⟨rfl, rfl⟩
theorem stringsCompare (a b : ByteArray) (w : World) : Calls Tryz.prog 176 #[.string a, .string b] w fun e w' => e = .returned (.int .i64 (cmpStr a b)) ∧ w = w' := by
 go_enter Tryz.func176, Tryz.ntmps176
 go_wp2_with fail
 refine (bytealgCompare _ _ _).mono ?_
 rintro e w' ⟨rfl, rfl⟩
 go_wp2
 go_ret
 exact ⟨rfl, rfl⟩
theorem firstNZ_drop {l : List Int} {k : Nat} {x : Int} (h : l[k]? = some x) : firstNZ (l.drop k) = if x = 0 then firstNZ (l.drop (k + 1)) else x := by
 obtain ⟨hl, hx⟩ := List.getElem?_eq_some_iff.1 h
 rw [List.drop_eq_getElem_cons hl, hx, firstNZ]
set_option maxHeartbeats 1000000 in
theorem cmpOr (l : List Int) (g n cap : Nat) (w : World) (hn : l.length = n) (hm : n <= 9223372036854775807) (hc : ∀ (i : Nat) x, l[i]? = some x -> w.cell? ⟨g, i, none⟩ = some (.int .i64 x)) :
  Calls Tryz.prog 174 #[.slice (some ⟨g, 0, none⟩) n cap] w fun e w' => e = .returned (.int .i64 (firstNZ l)) ∧ w = w' := by
 have HC := Lib.hid hc
 have HN := Lib.hid hn
 clear hc hn
 go_enter Tryz.func174, Tryz.ntmps174
 go_wp2
 go_loop [8] (fun i => ∃ k : Nat, k <= n ∧ i = .int .i64 k ∧ firstNZ l = firstNZ (l.drop k)) (fun i => n - (intOf i).toNat)
 case atStart => exact ⟨0, Nat.zero_le _, rfl, rfl⟩
 case round =>
  obtain ⟨k, hk, rfl, hz⟩ := hrel
  have HZ := Lib.hid hz
  clear hz
  by_cases hkn : k < n
  ·have hget : l[k]? = some (l[k]'(by have := HN.out; omega)) := List.getElem?_eq_getElem _
   generalize (l[k]'(by have := HN.out; omega)) = x at hget
   have hcell := HC.out k x hget
   have hd := Lib.hid (firstNZ_drop hget)
   clear hget
   by_cases hx : x = 0
   ·subst hx
    go_wp2
    go_round
    case rel => exact ⟨k + 1, by omega, by go_num, by rw [HZ.out, hd.out, if_pos rfl]⟩
    case measure => simp [intOf]; omega
   ·have hx1 : (x == 0) = false := by simpa using hx
    have hx2 : (x != 0) = true := by simpa using hx
    go_wp2
    go_ret
    exact ⟨ret_int (by rw [HZ.out, hd.out, if_neg hx]), rfl⟩
  ·go_wp2
   go_ret
   refine ⟨ret_int ?_, rfl⟩
   rw [HZ.out, List.drop_eq_nil_of_le (by have := HN.out; omega)]
   rfl
end Go.Proofs.YtohilkmdjdfljaaGreat
namespace Go.Proofs.YtohilkmdjdfljaaGreat
open Go.RowKit
def cmpTmC (f : FuncId) (a b : Tm) : Prop := ∀ (S S' : Nat -> Prop) (us us' : List Value) (w : World), okTm a -> okTm b -> RepVals w S (encTm a) us -> RepVals w S' (encTm b) us' ->
 Calls Tryz.prog f #[.agg us.toArray, .agg us'.toArray] w fun e w' => e = .returned (.int .i64 (cmpTm a b)) ∧ Below w.heap.size w w'
def cmpTmsC (f : FuncId) (x y : List Tm) : Prop := ∀ (S S' : Nat -> Prop) (v v' : Value) (w : World), okTms x -> okTms y -> Rep w S (.sl (encTms x)) v -> Rep w S' (.sl (encTms y)) v' ->
 Calls Tryz.prog f #[v, v', .func (.func 140) #[] #[]] w fun e w' => e = .returned (.int .i64 (cmpTms x y)) ∧ Below w.heap.size w w'
theorem firstNZ2_zero {a b : Int} (h : a = 0) : firstNZ [a, b] = b := by
 simp only [firstNZ, h, if_true]
 split <;> simp_all
theorem firstNZ2_nz {a b : Int} (h : a ≠ 0) : firstNZ [a, b] = a := by simp [firstNZ, h]
set_option maxHeartbeats 2000000 in
set_option maxRecDepth 100000 in
theorem implCompareFunc_of (x y : List Tm) (h : ∀ (i : Nat) a b, x[i]? = some a -> y[i]? = some b -> cmpTmC 140 a b) : cmpTmsC 177 x y := by
 intro S S' v v' w hx hy hv hv'
 obtain ⟨A, m, cap, rfl, hm, hmc, hcm⟩ := hv.form
 obtain ⟨A', m', cap', rfl, hm', hmc', hcm'⟩ := hv'.form
 rw [encTms_len] at hm hm'
 obtain ⟨ic, hci, _, hcs, _⟩ := info_parts info_Term
 have H := Lib.hid h
 have HV := Lib.hid hv
 have HV' := Lib.hid hv'
 have HM := Lib.hid hm
 have HM' := Lib.hid hm'
 have HX := Lib.hid hx
 have HY := Lib.hid hy
 clear h hv hv' hm hm' hx hy
 unfold maxLen at hcm hcm'
 go_enter Tryz.func177, Tryz.ntmps177
 go_wp2
 go_loopw [13] (fun i wr => ∃ k : Nat, k <= m ∧ k <= m' ∧ i = .int .i64 k ∧ cmpTms x y = cmpTms (x.drop k) (y.drop k) ∧ Below w.heap.size w wr) (fun i _ => m - (intOf i).toNat)
 case atStart => exact ⟨0, Nat.zero_le _, Nat.zero_le _, rfl, rfl, Below.refl _ _⟩
 case round =>
  obtain ⟨k, hk, hk', rfl, hz, hb⟩ := hrel
  have HZ := Lib.hid hz
  clear hz
  by_cases hkm : k < m
  ·obtain ⟨b, off, r, rfl, hS, hbz, hget, hokr, hrow⟩ := (HV.out.below hb).get (okRows_enc x HX.out) hkm
   obtain ⟨u0, u1, u2, u3, c0, c1, c2, c3, hvals⟩ := hrow.vals4 hokr.len
   have hone := okRow.one hokr hvals
   rw [encTms_get] at hget
   obtain ⟨t, ht, rfl⟩ := Option.map_eq_some_iff.1 hget
   have HVALS := Lib.hid hvals
   have HONE := Lib.hid hone
   have HT := Lib.hid ht
   clear hvals hokr hrow hget hone ht
   simp only [fieldsOf, termF, List.length_cons, List.length_nil, Nat.reduceAdd] at c0 c1 c2 c3
   by_cases hkm' : k < m'
   ·obtain ⟨b', off', r', rfl, hS', hbz', hget', hokr', hrow'⟩ := (HV'.out.below hb).get (okRows_enc y HY.out) hkm'
    obtain ⟨x0, x1, x2, x3, d0, d1, d2, d3, hvals'⟩ := hrow'.vals4 hokr'.len
    have hone' := okRow.one hokr' hvals'
    rw [encTms_get] at hget'
    obtain ⟨t', ht', rfl⟩ := Option.map_eq_some_iff.1 hget'
    have HVALS' := Lib.hid hvals'
    have HONE' := Lib.hid hone'
    have HT' := Lib.hid ht'
    clear hvals' hokr' hrow' hget' hone' ht'
    simp only [fieldsOf, termF, List.length_cons, List.length_nil, Nat.reduceAdd] at d0 d1 d2 d3
    have hbb : ∀ o1 o2, Below w.heap.size w ((wr.alloc o1).alloc o2) := fun o1 o2 => (hb.alloc hb.size o1).alloc (by have := hb.size; simp; omega) o2
    have hbr : ∀ o1 o2, Below wr.heap.size wr ((wr.alloc o1).alloc o2) := fun o1 o2 => ((Below.refl _ _).alloc (Nat.le_refl _) o1).alloc (by simp) o2
    have hbne : b' ≠ wr.heap.size := by omega
    have HC := Lib.hid (H.out k t t' HT.out HT'.out)
    go_wp2_with (first
     | refine wpList_store_new rfl 41 _ _ rfl _ _ _ rfl _ rfl (by simp) [u0, u1, u2, u3] rfl ic hci hcs rfl HONE.out ?_
     | refine wpList_store_new rfl 41 _ _ rfl _ _ _ rfl _ rfl (by simp) [x0, x1, x2, x3] rfl ic hci hcs rfl HONE'.out ?_)
    refine (HC.out S S' _ _ _ (HX.out.mem (List.mem_of_getElem? HT.out)) (HY.out.mem (List.mem_of_getElem? HT'.out)) (HVALS.out.below (hbr _ _)) (HVALS'.out.below (hbr _ _))).mono ?_
    rintro e w2 ⟨rfl, hb2⟩
    have HST := Lib.hid (cmpTms_step HT.out HT'.out)
    generalize hc : cmpTm t t' = c at HST ⊢
    clear hc
    by_cases hc0 : c = 0
    ·subst hc0
     go_wp2
     go_roundw
     case rel => exact ⟨k + 1, by omega, by omega, by go_num, by rw [HZ.out, HST.out, firstNZ2_zero rfl], (hbb _ _).trans (hb2.mono (by have := hb.size; simp; omega))⟩
     case measure => simp [intOf]; omega
    ·have hc1 : (c == 0) = false := by simpa using hc0
     have hc2 : (c != 0) = true := by simpa using hc0
     go_wp2
     go_ret
     exact ⟨ret_int (by rw [HZ.out, HST.out, firstNZ2_nz hc0]), (hbb _ _).trans (hb2.mono (by have := hb.size; simp; omega))⟩
   ·go_wp2_with (refine wpList_store_new rfl 41 _ _ rfl _ _ _ rfl _ rfl (by simp) [u0, u1, u2, u3] rfl ic hci hcs rfl HONE.out ?_)
    go_ret
    refine ⟨ret_int (a := 1) ?_, hb.alloc hb.size _⟩
    rw [HZ.out]
    have e2 : y.drop k = [] := List.drop_eq_nil_of_le (by have := HM'.out; omega)
    have e1 : x.drop k = t :: x.drop (k + 1) := by
     obtain ⟨hl, hx⟩ := List.getElem?_eq_some_iff.1 HT.out
     rw [<- hx]; exact List.drop_eq_getElem_cons hl
    rw [e1, e2, cmpTms]
  ·have e1 : x.drop k = [] := List.drop_eq_nil_of_le (by have := HM.out; omega)
   by_cases hlt : m < m'
   ·go_wp2
    go_ret
    refine ⟨ret_int (a := -1) ?_, hb⟩
    have hl : k < y.length := by have := HM'.out; omega
    rw [HZ.out, e1, List.drop_eq_getElem_cons hl, cmpTms]
   ·go_wp2
    go_ret
    refine ⟨ret_int (a := 0) ?_, hb⟩
    rw [HZ.out, e1, List.drop_eq_nil_of_le (by have := HM'.out; omega), cmpTms]
end Go.Proofs.YtohilkmdjdfljaaGreat
namespace Go.Proofs.YtohilkmdjdfljaaGreat
open Go.RowKit
theorem cell_alloc_drew (W : World) (o : Obj) (p : Addr) (h : p.block < W.heap.size) : (W.alloc o).drew.cell? p = W.cell? p := (show (W.alloc o).drew.cell? p = (W.alloc o).cell? p from rfl).trans (World.cell?_alloc_lt W o p h)
theorem cells_of_list {W : World} {l : List Int} {t : TypeId} : ∀ (i : Nat) x, l[i]? = some x -> (W.alloc (.cells (l.map (Value.int .i64)).toArray t)).drew.cell? ⟨W.heap.size, i, none⟩ = some (.int .i64 x) := by
 intro i x h
 show (W.alloc (.cells (l.map (Value.int .i64)).toArray t)).cell? ⟨W.heap.size, i, none⟩ = _
 rw [cell_of_row _ _ _ _ _ _ (heap_alloc_new W _)]
 simp [h]
set_option maxHeartbeats 2000000 in
set_option maxRecDepth 100000 in
theorem implCompareTerms_of (a b : Tm) (h : cmpTmsC 177 a.args b.args) : cmpTmC 140 a b := by
 intro S S' us us' w ha hb hv hv'
 obtain ⟨o, n, s, x⟩ := a
 obtain ⟨o', n', s', y⟩ := b
 simp only [encTm] at hv hv'
 obtain ⟨v3, rfl, e3⟩ := repVals_Term hv
 obtain ⟨v3', rfl, e3'⟩ := repVals_Term hv'
 simp only [okTm] at ha hb
 have HX := Lib.hid ha.2.2.2
 have HY := Lib.hid hb.2.2.2
 have H := Lib.hid h
 have E := Lib.hid e3
 have E' := Lib.hid e3'
 have HF : Hid (cmpTm (.mk o n s x) (.mk o' n' s' y) = firstNZ [firstNZ [cmpInt o o', cmpStr n n', cmpInt s s'], cmpTms x y]) := by
  show _ = _
  simp only [cmpTm, firstNZ]
  repeat' split
  all_goals first | rfl | simp_all
 clear ha hb h e3 e3' hv hv'
 go_enter Tryz.func140, Tryz.ntmps140
 go_wp2_with fail
 generalize hW : (w.alloc _).alloc _ = W
 have hbW : Below w.heap.size w W := by rw [<- hW]; exact ((Below.refl _ _).alloc (Nat.le_refl _) _).alloc (by simp) _
 have p0 : W.cell? ⟨w.heap.size, 0, none⟩ = some (.int .i64 o) := by rw [<- hW]; simp
 have p1 : W.cell? ⟨w.heap.size, 1, none⟩ = some (.string n) := by rw [<- hW]; simp
 have p2 : W.cell? ⟨w.heap.size, 2, none⟩ = some (.int .i64 s) := by rw [<- hW]; simp
 have p3 : W.cell? ⟨w.heap.size, 3, none⟩ = some v3 := by rw [<- hW]; simp
 have q0 : W.cell? ⟨w.heap.size + 1, 0, none⟩ = some (.int .i64 o') := by rw [<- hW]; simp
 have q1 : W.cell? ⟨w.heap.size + 1, 1, none⟩ = some (.string n') := by rw [<- hW]; simp
 have q2 : W.cell? ⟨w.heap.size + 1, 2, none⟩ = some (.int .i64 s') := by rw [<- hW]; simp
 have q3 : W.cell? ⟨w.heap.size + 1, 3, none⟩ = some v3' := by rw [<- hW]; simp
 have z0 : w.heap.size < W.heap.size := by rw [<- hW]; simp; omega
 have z1 : w.heap.size + 1 < W.heap.size := by rw [<- hW]; simp
 have HOR := Lib.hid (fun w => cmpOr [cmpInt o o', cmpStr n n', cmpInt s s'] W.heap.size 3 3 w rfl (by omega))
 clear hW
 go_region_held3 (fun w' => ∀ b o, b < W.heap.size -> w'.cell? ⟨b, o, none⟩ = W.cell? ⟨b, o, none⟩) (first | exact fun b o h => cell_alloc_drew _ _ _ h | go_keep)
  (first
   | (go_at_call 175; refine (cmpCompare _ _ _).mono ?_; rintro e w' ⟨rfl, rfl⟩)
   | (go_at_call 176; refine (stringsCompare _ _ _).mono ?_; rintro e w' ⟨rfl, rfl⟩)
   | (go_at_call 174; refine (HOR.out _ (cells_of_list (W := W))).mono ?_; rintro e w' ⟨rfl, rfl⟩))
 have hbD : ∀ o1, Below w.heap.size w (W.alloc o1).drew := fun o1 => (hbW.alloc hbW.size o1).drew
 have hcd : ∀ o1 b o, b < W.heap.size -> (W.alloc o1).drew.cell? ⟨b, o, none⟩ = W.cell? ⟨b, o, none⟩ := fun o1 b o h => cell_alloc_drew W o1 ⟨b, o, none⟩ h
 generalize hc : firstNZ [cmpInt o o', cmpStr n n', cmpInt s s'] = c at HF ⊢
 clear hc
 by_cases hc0 : c = 0
 ·subst hc0
  go_wp2_with fail
  refine (H.out S S' _ _ _ HX.out HY.out (E.out.below (hbD _)) (E'.out.below (hbD _))).mono ?_
  rintro e w2 ⟨rfl, hb2⟩
  go_wp2
  go_ret
  exact ⟨ret_int (by rw [HF.out, firstNZ2_zero rfl]; rfl), (hbD _).trans (hb2.mono (hbD _).size)⟩
 ·have hc1 : (c == 0) = false := by simpa using hc0
  have hc2 : (c != 0) = true := by simpa using hc0
  go_wp2
  go_ret
  exact ⟨ret_int (by rw [HF.out, firstNZ2_nz hc0]), hbD _⟩
mutual
def sizeTm : Tm -> Nat
 | .mk _ _ _ a => 1 + sizeTms a
def sizeTms : List Tm -> Nat
 | [] => 0
 | t :: ts => sizeTm t + sizeTms ts
end
theorem sizeTms_get : ∀ {ts : List Tm} {i : Nat} {t : Tm}, ts[i]? = some t -> sizeTms t.args < sizeTms ts
 | [], _, _, h => by simp at h
 | x :: xs, 0, t, h => by
  simp at h
  subst h
  cases x
  simp only [sizeTms, sizeTm, Tm.args]
  omega
 | x :: xs, i + 1, t, h => by
  have := sizeTms_get (ts := xs) (i := i) (by simpa using h)
  simp only [sizeTms]
  omega
theorem implCompareFunc_all (n : Nat) : ∀ x y, sizeTms x < n -> cmpTmsC 177 x y := by
 induction n with
 | zero => intro x y h; omega
 | succ n ih => exact fun x y h => implCompareFunc_of x y (fun i a b ha hb => implCompareTerms_of a b (ih _ _ (by have := sizeTms_get ha; omega)))
theorem implCompareFunc (x y : List Tm) : cmpTmsC 177 x y := implCompareFunc_all _ x y (Nat.lt_succ_self _)
theorem implCompareTerms (a b : Tm) : cmpTmC 140 a b := implCompareTerms_of a b (implCompareFunc _ _)
end Go.Proofs.YtohilkmdjdfljaaGreat
namespace Go.Proofs.YtohilkmdjdfljaaGreat
open Go.RowKit
set_option maxHeartbeats 4000000 in
set_option maxRecDepth 100000 in
theorem specCompareTerms_of (a b : Tm) (h : ∀ (i : Nat) p q, a.args[i]? = some p -> b.args[i]? = some q -> cmpTmC 130 p q) : cmpTmC 130 a b := by
 intro S S' us us' w ha hb hv hv'
 obtain ⟨o, n, s, x⟩ := a
 obtain ⟨o', n', s', y⟩ := b
 simp only [encTm] at hv hv'
 obtain ⟨v3, rfl, e3⟩ := repVals_Term hv
 obtain ⟨v3', rfl, e3'⟩ := repVals_Term hv'
 simp only [okTm] at ha hb
 have HX := Lib.hid ha.2.2.2
 have HY := Lib.hid hb.2.2.2
 have H := Lib.hid h
 have hbW := ((Below.refl w.heap.size w).alloc (Nat.le_refl _) (.cells #[.int .i64 o, .string n, .int .i64 s, v3] 41)).alloc (by simp) (.cells #[.int .i64 o', .string n', .int .i64 s', v3'] 41)
 by_cases ho : o = o'
 case neg =>
  have ho1 : (o == o') = false := by simpa using ho
  have ho2 : (o != o') = true := by simpa using ho
  have hz : cmpInt o o' ≠ 0 := fun e => ho (cmpInt_zero.1 e)
  have HF : Hid (cmpTm (.mk o n s x) (.mk o' n' s' y) = cmpInt o o') := by show _ = _; simp only [cmpTm, firstNZ, if_neg hz]
  clear hz h H ha hb hv hv' e3 e3' ho
  by_cases hlt : o < o'
  ·go_enter Tryz.func130, Tryz.ntmps130
   go_wp2
   go_ret
   exact ⟨ret_int (a := -1) (by rw [HF.out]; unfold cmpInt; rw [if_pos hlt]), hbW⟩
  ·have HL := Lib.hid hlt
   go_enter Tryz.func130, Tryz.ntmps130
   go_wp2
   go_ret
   exact ⟨ret_int (a := 1) (by have h1 : o ≠ o' := by simpa using ho1
                               have := HL.out
                               rw [HF.out]; unfold cmpInt; rw [if_neg (by omega), if_pos (by omega)]), hbW⟩
 subst ho
 have hz0 : cmpInt o o = 0 := cmpInt_zero.2 rfl
 by_cases hn : n = n'
 case neg =>
  have hz : cmpStr n n' ≠ 0 := fun e => hn (cmpStr_zero.1 e)
  have HF : Hid (cmpTm (.mk o n s x) (.mk o n' s' y) = cmpStr n n') := by show _ = _; simp only [cmpTm, firstNZ, if_pos hz0, if_neg hz]
  clear h H ha hb hv hv' e3 e3' hz0
  have hn1 : (n.toList == n'.toList) = false := by
   simp only [beq_eq_false_iff_ne, ne_eq, ByteArray.toList_eq]
   intro e
   apply hn
   obtain ⟨⟨la⟩⟩ := n
   obtain ⟨⟨lb⟩⟩ := n'
   simp at e
   rw [e]
  have hlq : Op.bytesLess n.toList n'.toList = decide (cmpStr n n' = -1) := by rw [ByteArray.toList_eq, ByteArray.toList_eq]; exact compareBytes_less _ _
  have HZ := Lib.hid hz
  have HR := Lib.hid (cmpStr_range n n')
  clear hn hz
  by_cases hlt : cmpStr n n' = -1
  ·have hl1 : Op.bytesLess n.toList n'.toList = true := by rw [hlq]; simpa using hlt
   have HLT := Lib.hid hlt
   clear hlq hlt
   go_enter Tryz.func130, Tryz.ntmps130
   go_wp2
   go_ret
   exact ⟨ret_int (a := -1) (by rw [HF.out, HLT.out]), hbW⟩
  ·have hl1 : Op.bytesLess n.toList n'.toList = false := by rw [hlq]; simpa using hlt
   have HLT := Lib.hid hlt
   clear hlq hlt
   go_enter Tryz.func130, Tryz.ntmps130
   go_wp2
   go_ret
   exact ⟨ret_int (a := 1) (by rw [HF.out]; rcases HR.out with e | e | e
                               ·exact absurd e HLT.out
                               ·exact absurd e HZ.out
                               ·exact e.symm), hbW⟩
 subst hn
 have hz1 : cmpStr n n = 0 := cmpStr_zero.2 rfl
 by_cases hs : s = s'
 case neg =>
  have hs1 : (s == s') = false := by simpa using hs
  have hs2 : (s != s') = true := by simpa using hs
  have hz : cmpInt s s' ≠ 0 := fun e => hs (cmpInt_zero.1 e)
  have HF : Hid (cmpTm (.mk o n s x) (.mk o n s' y) = cmpInt s s') := by show _ = _; simp only [cmpTm, firstNZ, if_pos hz0, if_pos hz1, if_neg hz]
  clear hz h H ha hb hv hv' e3 e3' hs hz0 hz1
  by_cases hlt : s < s'
  ·go_enter Tryz.func130, Tryz.ntmps130
   go_wp2
   go_ret
   exact ⟨ret_int (a := -1) (by rw [HF.out]; unfold cmpInt; rw [if_pos hlt]), hbW⟩
  ·have HL := Lib.hid hlt
   go_enter Tryz.func130, Tryz.ntmps130
   go_wp2
   go_ret
   exact ⟨ret_int (a := 1) (by have h1 : s ≠ s' := by simpa using hs1
                               have := HL.out
                               rw [HF.out]; unfold cmpInt; rw [if_neg (by omega), if_pos (by omega)]), hbW⟩
 subst hs
 have HF : Hid (cmpTm (.mk o n s x) (.mk o n s y) = cmpTms x y) := by
  show _ = _
  simp only [cmpTm, firstNZ, if_pos hz0, if_pos hz1, if_pos (cmpInt_zero.2 (rfl : s = s))]
  split <;> simp_all
 obtain ⟨A, m, cap, rfl, hm, hmc, hcm⟩ := e3.form
 obtain ⟨A', m', cap', rfl, hm', hmc', hcm'⟩ := e3'.form
 rw [encTms_len] at hm hm'
 have HM := Lib.hid hm
 have HM' := Lib.hid hm'
 have HV := Lib.hid e3
 have HV' := Lib.hid e3'
 clear hz0 hz1 h ha hb hv hv' e3 e3' hm hm'
 unfold maxLen at hcm hcm'
 go_enter Tryz.func130, Tryz.ntmps130
 go_wp2
 generalize hW : (w.alloc _).alloc _ = W at hbW ⊢
 have p3 : W.cell? ⟨w.heap.size, 3, none⟩ = some (.slice A m cap) := by rw [<- hW]; simp
 have q3 : W.cell? ⟨w.heap.size + 1, 3, none⟩ = some (.slice A' m' cap') := by rw [<- hW]; simp
 have z0 : w.heap.size < W.heap.size := by rw [<- hW]; simp; omega
 have z1 : w.heap.size + 1 < W.heap.size := by rw [<- hW]; simp
 have HVW := Lib.hid (HV.out.below hbW)
 have HVW' := Lib.hid (HV'.out.below hbW)
 clear hW HV HV'
 go_loopw [5] (fun i wr => ∃ k : Nat, k <= m ∧ k <= m' ∧ i = .int .i64 k ∧ cmpTms x y = cmpTms (x.drop k) (y.drop k) ∧ Below W.heap.size W wr) (fun i _ => m - (intOf i).toNat)
 case atStart => exact ⟨0, Nat.zero_le _, Nat.zero_le _, rfl, rfl, Below.refl _ _⟩
 case round =>
  obtain ⟨k, hk, hk', rfl, hz, hb⟩ := hrel
  have HZ := Lib.hid hz
  clear hz
  obtain ⟨hcw, _⟩ := bcell hb
  have hbw' : Below w.heap.size w wr := hbW.trans (hb.mono hbW.size)
  by_cases hkm : k < m
  ·obtain ⟨b, off, r, rfl, hS, hbz, hget, hokr, hrow⟩ := HVW.out.get (okRows_enc x HX.out) hkm
   obtain ⟨u0, u1, u2, u3, c0, c1, c2, c3, hvals⟩ := hrow.vals4 hokr.len
   rw [encTms_get] at hget
   obtain ⟨t, ht, rfl⟩ := Option.map_eq_some_iff.1 hget
   have HVALS := Lib.hid hvals
   have HT := Lib.hid ht
   clear hvals hokr hrow hget ht
   simp only [fieldsOf, termF, List.length_cons, List.length_nil, Nat.reduceAdd] at c0 c1 c2 c3
   have k0 : (0 : Int) <= (k : Int) := by omega
   have k1 : (k : Int) < (m : Int) := by omega
   have hd1 : decide (k < m) = true := by simpa using hkm
   by_cases hkm' : k < m'
   ·obtain ⟨b', off', r', rfl, hS', hbz', hget', hokr', hrow'⟩ := HVW'.out.get (okRows_enc y HY.out) hkm'
    obtain ⟨x0, x1, x2, x3, d0, d1, d2, d3, hvals'⟩ := hrow'.vals4 hokr'.len
    rw [encTms_get] at hget'
    obtain ⟨t', ht', rfl⟩ := Option.map_eq_some_iff.1 hget'
    have HVALS' := Lib.hid hvals'
    have HT' := Lib.hid ht'
    clear hvals' hokr' hrow' hget' ht'
    simp only [fieldsOf, termF, List.length_cons, List.length_nil, Nat.reduceAdd] at d0 d1 d2 d3
    have k2 : (k : Int) < (m' : Int) := by omega
    have hd2 : decide (k < m') = true := by simpa using hkm'
    have HC := Lib.hid (H.out k t t' HT.out HT'.out)
    go_wp2_with fail
    go_region_held3 (fun w' => ∀ b o, b < W.heap.size -> w'.cell? ⟨b, o, none⟩ = W.cell? ⟨b, o, none⟩) (first | exact fun b o h => (hb2.cell (p := ⟨b, o, none⟩) (Nat.lt_of_lt_of_le h hb.size)).trans (hcw b o h) | exact fun b o h => hcw b o h | go_keep)
     (first | (go_at_call 130; refine (HC.out S S' _ _ _ (HX.out.mem (List.mem_of_getElem? HT.out)) (HY.out.mem (List.mem_of_getElem? HT'.out)) (HVALS.out.below hb.drew) (HVALS'.out.below hb.drew)).mono ?_; rintro e w2 ⟨rfl, hb2⟩))
    have hbq : Below W.heap.size W w2 := hb.drew.trans (hb2.mono (show W.heap.size <= wr.heap.size from hb.size))
    have HST := Lib.hid (cmpTms_step HT.out HT'.out)
    generalize hc : cmpTm t t' = c at HST ⊢
    clear hc
    by_cases hc0 : c = 0
    ·subst hc0
     go_wp2
     go_roundw
     case rel => exact ⟨k + 1, by omega, by omega, by go_num, by rw [HZ.out, HST.out, firstNZ2_zero rfl], hbq⟩
     case measure => simp [intOf]; omega
    ·have hc1 : (c == 0) = false := by simpa using hc0
     have hc2 : (c != 0) = true := by simpa using hc0
     go_wp2
     go_ret
     exact ⟨ret_int (by rw [HF.out, HZ.out, HST.out, firstNZ2_nz hc0]), hbW.trans (hbq.mono hbW.size)⟩
   ·have hd2 : decide (k < m') = false := by simpa using hkm'
    have hmm : ¬ m < m' := by omega
    have hmm2 : m' < m := by omega
    go_wp2
    go_ret
    refine ⟨ret_int (a := 1) ?_, hbw'⟩
    rw [HF.out, HZ.out]
    have e2 : y.drop k = [] := List.drop_eq_nil_of_le (by have := HM'.out; omega)
    have e1 : x.drop k = t :: x.drop (k + 1) := by
     obtain ⟨hl, hx⟩ := List.getElem?_eq_some_iff.1 HT.out
     rw [<- hx]; exact List.drop_eq_getElem_cons hl
    rw [e1, e2, cmpTms]
  ·have e1 : Hid (x.drop k = []) := Lib.hid (List.drop_eq_nil_of_le (by have := HM.out; omega))
   have hd1 : decide (k < m) = false := by simpa using hkm
   by_cases hlt : m < m'
   ·go_wp2
    go_ret
    refine ⟨ret_int (a := -1) ?_, hbw'⟩
    have hl : k < y.length := by have := HM'.out; omega
    rw [HF.out, HZ.out, e1.out, List.drop_eq_getElem_cons hl, cmpTms]
   ·have hlt2 : ¬ m' < m := by omega
    go_wp2
    go_ret
    refine ⟨ret_int (a := 0) ?_, hbw'⟩
    rw [HF.out, HZ.out, e1.out, List.drop_eq_nil_of_le (by have := HM'.out; omega), cmpTms]
theorem specCompareTerms_all (n : Nat) : ∀ a b, sizeTm a < n -> cmpTmC 130 a b := by
 induction n with
 | zero => intro a b h; omega
 | succ n ih =>
  intro a b h
  refine specCompareTerms_of a b (fun i p q hp hq => ih p q ?_)
  have h1 := sizeTms_get hp
  cases a
  cases p
  simp only [sizeTm, Tm.args] at h h1 ⊢
  omega
theorem specCompareTerms (a b : Tm) : cmpTmC 130 a b := specCompareTerms_all _ a b (Nat.lt_succ_self _)
end Go.Proofs.YtohilkmdjdfljaaGreat
namespace Go.Proofs.YtohilkmdjdfljaaGreat
open Go.RowKit
def encOrd (s : Srt) : List C := [.sl (nR (up s)), .sl (nR (down s)), .sl (nR (kinds s))]
theorem encOrd_u : ∀ s, encOrd s = [.sl (nR (up s)), .sl (nR (down s)), .sl (nR (kinds s))] := fun _ => rfl
section
variable {s : Srt}
theorem kdg (hs : SortsOk s) {k : Int} (h : 0 <= k ∧ k < s.names.length) : (nR (kinds s))[k.toNat]? = some [.lit (.int .i64 (kd s k : Nat))] := by
 have hk := kinds_ok (SortsOk.subsIn hs.subs)
 have hl : k.toNat < (kinds s).length := by rw [hk.1]; omega
 rw [nR_get (List.getElem?_eq_getElem hl), kd, List.getD_eq_getElem?_getD, List.getElem?_eq_getElem hl]
 rfl
theorem kd_len (hs : SortsOk s) : (nR (kinds s)).length = s.names.length := by rw [nR_len, (kinds_ok (SortsOk.subsIn hs.subs)).1]
set_option maxHeartbeats 4000000 in
set_option maxRecDepth 100000 in
theorem con_hasS (hs : SortsOk s) (k : Int) : Con e0 172 [.agg (encOrd s), .one (.lit (.int .i64 k))] [.one (.lit (.bool (decide (0 <= k ∧ k < s.names.length))))] := by
 have hl : (nR (up s)).length = s.names.length := by rw [nR_len, (up_ok (SortsOk.subsIn hs.subs)).1]
 rw [encOrd]
 refine gI 23 Tryz.func172 ?_
 by_cases h0 : 0 <= k
 ·by_cases h1 : k < s.names.length
  ·(have F := ai @h0 (ai @hl @h1); refine gG ?_; exact gT)
  ·(have F := ai @h0 (ai @hl @h1); refine gG ?_; exact gT)
 ·(have F := @h0; refine gG ?_; exact gT)
theorem get_nextI {l : List Int} {p : Int -> Prop} {j : Nat} {c : Int} (hc : l[j]? = some c) (h : ∀ (i : Nat) (c : Int), i < j -> l[i]? = some c -> p c) (hp : p c) : ∀ (i : Nat) (c : Int), i < j + 1 -> l[i]? = some c -> p c := fun i c' hi hc' => by
 by_cases hij : i = j
 ·subst hij; rw [hc] at hc'; injection hc' with hc'; subst hc'; exact hp
 ·exact h i c' (by omega) hc'
theorem kargs_next {f d : Dcl} {i : Nat} {a : Int} (ha : d.args[i]? = some a) (hall : ∀ (i' : Nat) a, i' < i -> d.args[i']? = some a -> (0 <= a ∧ a < s.names.length) ∧ ∀ b, f.args[i']? = some b -> kd s a = kd s b) (h1 : 0 <= a ∧ a < s.names.length) (h2 : ∀ b, f.args[i]? = some b -> kd s a = kd s b) :
  ∀ (i' : Nat) a, i' < i + 1 -> d.args[i']? = some a -> (0 <= a ∧ a < s.names.length) ∧ ∀ b, f.args[i']? = some b -> kd s a = kd s b := fun i' a' h ha' => by
 by_cases e : i' = i
 ·subst e
  rw [ha] at ha'
  injection ha' with ha'
  subst ha'
  exact ⟨h1, h2⟩
 ·exact hall i' a' (by omega) ha'
theorem declOk_of {f d : Dcl} (h1 : d.args.length = f.args.length) (h2 : 0 <= d.res ∧ d.res < s.names.length) (h3 : kd s d.res = kd s f.res) (hall : ∀ (i' : Nat) a, i' < d.args.length -> d.args[i']? = some a -> (0 <= a ∧ a < s.names.length) ∧ ∀ b, f.args[i']? = some b -> kd s a = kd s b) : DeclOk s f d :=
 ⟨h1, h2, fun k hk => by obtain ⟨i, hi⟩ := List.getElem?_of_mem hk; exact (hall i k (List.getElem?_eq_some_iff.1 hi).1 hi).1, h3, fun i a b ha hb => (hall i a (List.getElem?_eq_some_iff.1 ha).1 ha).2 b hb⟩
theorem decls_next {l : List Dcl} {P : Dcl -> Prop} {j : Nat} {d : Dcl} (hd : l[j]? = some d) (hall : ∀ (j' : Nat) d, j' < j -> l[j']? = some d -> P d) (h : P d) : ∀ (j' : Nat) d, j' < j + 1 -> l[j']? = some d -> P d := fun j' d' hj hd' => by
 by_cases e : j' = j
 ·subst e
  rw [hd] at hd'
  injection hd' with hd'
  subst hd'
  exact h
 ·exact hall j' d' (by omega) hd'
set_option maxHeartbeats 8000000 in
set_option maxRecDepth 100000 in
theorem con_implDecls (hs : SortsOk s) (o : Opr) : Con e0 135 [.agg (encOrd s), .agg (encOpr o)] [.one (.lit (.bool (declsOk s o)))] := by
 have hno : ¬ DeclsOk s o -> declsOk s o = false := declsOk_false
 have cH := con_hasS hs
 have rK := nR_rows (l := kinds s)
 rw [encOrd] at cH ⊢
 rw [encOpr]
 refine gI 83076759175850041743779962279694015 Tryz.func135 ?_
 by_cases h1 : 1 <= o.decls.length
 rotate_left
 ·have hf := hno fun h => h1 h.len1
  have z1 : ((o.decls.length : Int) < 1) = True := eq_true (by omega)
  (have F := ai @z1 @hf; refine gG ?_; exact gT)
 have z1 : ((o.decls.length : Int) < 1) = False := eq_false (by omega)
 by_cases h4 : o.decls.length <= 4
 rotate_left
 ·have hf := hno fun h => h4 h.len4
  have z2 : ((4 : Int) < (o.decls.length : Int)) = True := eq_true (by omega)
  (have F := ai @z1 (ai @z2 @hf); refine gG ?_; exact gT)
 have z2 : ((4 : Int) < (o.decls.length : Int)) = False := eq_false (by omega)
 obtain ⟨f, hf0⟩ : ∃ f, o.decls[0]? = some f := ⟨_, List.getElem?_eq_getElem (by omega)⟩
 have hfm := List.mem_of_getElem? hf0
 by_cases h3 : f.args.length <= 3
 rotate_left
 ·have hf := hno fun h => h3 (h.ar f hf0)
  have z3 : ((3 : Int) < (f.args.length : Int)) = True := eq_true (by omega)
  (have F := ai @z1 (ai @z2 (ai @hf0 (ai @encDcl_u (ai @z3 @hf)))); refine gG ?_; exact gT)
 have z3 : ((3 : Int) < (f.args.length : Int)) = False := eq_false (by omega)
 (have F := ai @z1 (ai @z2 (ai @hf0 (ai @encDcl_u @z3))); refine gG ?_; clear F)
 refine gB ?_
 (have F := @e0P; refine gC (cH f.res) ?_; clear F)
 by_cases hr : 0 <= f.res ∧ f.res < (s.names.length : Int)
 rotate_left
 ·have hf := hno fun h => hr (h.all f hf0 f hfm).res
  have y1 : decide (0 <= f.res ∧ f.res < (s.names.length : Int)) = false := decide_eq_false hr
  (have F := @y1; refine gR ?_; clear F)
  (have F := @hf; refine gG ?_; exact gT)
 have y1 : decide (0 <= f.res ∧ f.res < (s.names.length : Int)) = true := decide_eq_true hr
 have gr := kdg hs hr
 have ir := hr.1
 (have F := @y1; refine gR ?_; clear F)
 (have F := @e0P; refine gG ?_; clear F)
 (have F := @e0P; refine gL (ι := Nat) [4, 7, 43, 44, 50] [] (fun i => [(43, A.d (.one (.lit (.int .i64 i))))]) (fun i => []) (fun i => i <= f.args.length ∧ ∀ (i' : Nat) k, i' < i -> f.args[i']? = some k -> 0 <= k ∧ k < s.names.length) (fun i => f.args.length - i) (0) (⟨Nat.zero_le _, fun i' k h => absurd h (by omega)⟩) (fun i hi => ?_); clear F)
 obtain ⟨hil, hfa⟩ := hi
 by_cases hlt : i < f.args.length
 ·have q1 : (i : Int) < (f.args.length : Int) := by omega
  obtain ⟨k, hk⟩ : ∃ k, f.args[i]? = some k := ⟨_, List.getElem?_eq_getElem hlt⟩
  have hw := wrap1 (k := i) (by omega)
  (have F := ai @q1 (ai @hk @encInt_u); refine gG ?_; clear F)
  refine gB ?_
  (have F := @e0P; refine gC (cH k) ?_; clear F)
  by_cases hkr : 0 <= k ∧ k < (s.names.length : Int)
  rotate_left
  ·have hf := hno fun h => hkr ((h.all f hf0 f hfm).args k (List.mem_of_getElem? hk))
   have y2 : decide (0 <= k ∧ k < (s.names.length : Int)) = false := decide_eq_false hkr
   (have F := @y2; refine gR ?_; clear F)
   (have F := @hf; refine gG ?_; exact gT)
  have y2 : decide (0 <= k ∧ k < (s.names.length : Int)) = true := decide_eq_true hkr
  have hq : i + 1 <= f.args.length ∧ _ := ⟨hlt, get_nextI hk hfa hkr⟩
  (have F := @y2; refine gR ?_; clear F)
  (have F := @hw; refine gG ?_; exact ⟨i + 1, hq, gw, gw, by omega⟩)
 obtain rfl : i = f.args.length := by omega
 have q1 : ¬ ((f.args.length : Int) < (f.args.length : Int)) := by omega
 (have F := @q1; refine gG ?_; clear F)
 (have F := @e0P; refine gL (ι := Nat) [4, 9, 10, 11, 55, 56, 87, 89, 90, 91, 92, 116] [] (fun j => [(55, A.d (.one (.lit (.int .i64 j))))]) (fun j => []) (fun j => j <= o.decls.length ∧ ∀ (j' : Nat) d, j' < j -> o.decls[j']? = some d -> DeclOk s f d) (fun j => o.decls.length - j) (0) (⟨Nat.zero_le _, fun j' d h => absurd h (by omega)⟩) (fun j hj => ?_); clear F)
 obtain ⟨hjl, hdo⟩ := hj
 by_cases hlj : j < o.decls.length
 rotate_left
 ·have q2 : ¬ ((j : Int) < (o.decls.length : Int)) := by omega
  have ht := declsOk_true (s := s) (o := o) ⟨h1, h4, fun f' h => by rw [hf0] at h; injection h with h; subst h; exact h3, fun f' h d hd => by
   rw [hf0] at h; injection h with h; subst h
   obtain ⟨j', hj'⟩ := List.getElem?_of_mem hd
   exact hdo j' d (by have := (List.getElem?_eq_some_iff.1 hj').1; omega) hj'⟩
  (have F := ai @q2 @ht; refine gG ?_; exact gT)
 have q2 : (j : Int) < (o.decls.length : Int) := by omega
 obtain ⟨d, hd⟩ : ∃ d, o.decls[j]? = some d := ⟨_, List.getElem?_eq_getElem hlj⟩
 have hdm := List.mem_of_getElem? hd
 have hwj := wrap1 (k := j) (by omega)
 have hbad : ¬ DeclOk s f d -> declsOk s o = false := fun h => hno fun hD => h (hD.all f hf0 d hdm)
 by_cases hdl : d.args.length = f.args.length
 rotate_left
 ·have hf := hbad fun h => hdl h.len
  have y3 : ((d.args.length : Int) = (f.args.length : Int)) = False := eq_false (by omega)
  (have F := ai @q2 (ai @hd (ai @encDcl_u (ai @y3 @hf))); refine gG ?_; exact gT)
 have y3 : ((d.args.length : Int) = (f.args.length : Int)) = True := eq_true (by omega)
 (have F := ai @q2 (ai @hd @encDcl_u); refine gG ?_; clear F)
 refine gB ?_
 (have F := @y3; refine gC (cH d.res) ?_; clear F)
 by_cases hdr : 0 <= d.res ∧ d.res < (s.names.length : Int)
 rotate_left
 ·have hf := hbad fun h => hdr h.res
  have y4 : decide (0 <= d.res ∧ d.res < (s.names.length : Int)) = false := decide_eq_false hdr
  (have F := ai @y3 @y4; refine gR ?_; clear F)
  (have F := @hf; refine gG ?_; exact gT)
 have y4 : decide (0 <= d.res ∧ d.res < (s.names.length : Int)) = true := decide_eq_true hdr
 have gd := kdg hs hdr
 have id' := hdr.1
 have jd := hdr.2
 by_cases hkr : kd s d.res = kd s f.res
 rotate_left
 ·have hf := hbad fun h => hkr h.kres
  have y5 : ((kd s d.res : Int) = (kd s f.res : Int)) = False := eq_false (by omega)
  (have F := ai @y3 (ai @y4 (ai @gr (ai @gd (ai @ir (ai @id' (ai @jd (ai @rK @y5))))))); refine gR ?_; clear F)
  (have F := @hf; refine gG ?_; exact gT)
 have y5 : ((kd s d.res : Int) = (kd s f.res : Int)) = True := eq_true (by omega)
 (have F := ai @y3 (ai @y4 (ai @gr (ai @gd (ai @ir (ai @id' (ai @jd (ai @rK @y5))))))); refine gR ?_; clear F)
 (have F := @e0P; refine gG ?_; clear F)
 (have F := @e0P; refine gL (ι := Nat) [4, 10, 11, 91, 92, 116] [] (fun i => [(91, A.d (.one (.lit (.int .i64 i))))]) (fun i => []) (fun i => i <= d.args.length ∧ ∀ (i' : Nat) a, i' < i -> d.args[i']? = some a -> (0 <= a ∧ a < s.names.length) ∧ ∀ b, f.args[i']? = some b -> kd s a = kd s b) (fun i => d.args.length - i) (0) (⟨Nat.zero_le _, fun i' a h => absurd h (by omega)⟩) (fun i hi => ?_); clear F)
 obtain ⟨hil2, hka⟩ := hi
 by_cases hlt : i < d.args.length
 rotate_left
 ·obtain rfl : i = d.args.length := by omega
  have q3 : ¬ ((d.args.length : Int) < (d.args.length : Int)) := by omega
  have hq : j + 1 <= o.decls.length ∧ _ := ⟨hlj, decls_next hd hdo (declOk_of hdl hdr hkr hka)⟩
  (have F := ai @q3 @hwj; refine gG ?_; exact ⟨j + 1, hq, gw, gw, by omega⟩)
 have q3 : (i : Int) < (d.args.length : Int) := by omega
 obtain ⟨a, ha⟩ : ∃ k, d.args[i]? = some k := ⟨_, List.getElem?_eq_getElem hlt⟩
 obtain ⟨b, hb⟩ : ∃ k, f.args[i]? = some k := ⟨_, List.getElem?_eq_getElem (by omega)⟩
 have hw := wrap1 (k := i) (by omega)
 have hbr := hfa i b (by omega) hb
 have gb := kdg hs hbr
 have ib := hbr.1
 (have F := ai @q3 (ai @ha @encInt_u); refine gG ?_; clear F)
 refine gB ?_
 (have F := @e0P; refine gC (cH a) ?_; clear F)
 by_cases har : 0 <= a ∧ a < (s.names.length : Int)
 rotate_left
 ·have hf := hbad fun h => har (h.args a (List.mem_of_getElem? ha))
  have y6 : decide (0 <= a ∧ a < (s.names.length : Int)) = false := decide_eq_false har
  (have F := @y6; refine gR ?_; clear F)
  (have F := @hf; refine gG ?_; exact gT)
 have y6 : decide (0 <= a ∧ a < (s.names.length : Int)) = true := decide_eq_true har
 have ga := kdg hs har
 have ia := har.1
 have ja := har.2
 by_cases hkk : kd s a = kd s b
 rotate_left
 ·have hf := hbad fun h => hkk (h.kargs i a b ha hb)
  have y7 : ((kd s a : Int) = (kd s b : Int)) = False := eq_false (by omega)
  (have F := ai @y6 (ai @ga (ai @gb (ai @ia (ai @ja (ai @ib (ai @hb (ai @encInt_u (ai @rK @y7)))))))); refine gR ?_; clear F)
  (have F := @hf; refine gG ?_; exact gT)
 have y7 : ((kd s a : Int) = (kd s b : Int)) = True := eq_true (by omega)
 have hq : i + 1 <= d.args.length ∧ _ := ⟨hlt, kargs_next (f := f) ha hka har fun b' hb' => by rw [hb] at hb'; injection hb' with hb'; subst hb'; exact hkk⟩
 (have F := ai @y6 (ai @ga (ai @gb (ai @ia (ai @ja (ai @ib (ai @hb (ai @encInt_u (ai @rK @y7)))))))); refine gR ?_; clear F)
 (have F := @hw; refine gG ?_; exact ⟨i + 1, hq, gw, gw, by omega⟩)
set_option maxHeartbeats 8000000 in
set_option maxRecDepth 100000 in
theorem con_l4Decls {g : Sgn} (hs : SortsOk g.sorts) (o : Opr) : Con e0 124 [.agg (encSgn g), .agg (encOpr o)] [.one (.lit (.bool (declsOk g.sorts o)))] := by
 have hno : ¬ DeclsOk g.sorts o -> declsOk g.sorts o = false := declsOk_false
 have cK := con_l3Kinds hs
 rw [show (casts (kinds g.sorts)).map encInt = nR (kinds g.sorts) from rfl] at cK
 have rK := nR_rows (l := kinds g.sorts)
 have lK := kd_len hs
 have n1 := hs.n1
 have n8 := hs.n8
 have hw1n : IntKind.i64.wrap ((g.sorts.names.length : Int) - 1) = (g.sorts.names.length : Int) - 1 := IntWalk.i64_in _ (by omega)
 rw [encSrt] at cK
 rw [encSgn, encOpr]
 refine gI 1298708039934125393111688421573631 Tryz.func124 ?_
 by_cases h1 : 1 <= o.decls.length
 rotate_left
 ·have hf := hno fun h => h1 h.len1
  have z1 : ((o.decls.length : Int) < 1) = True := eq_true (by omega)
  (have F := ai @z1 @hf; refine gG ?_; exact gT)
 have z1 : ((o.decls.length : Int) < 1) = False := eq_false (by omega)
 by_cases h4 : o.decls.length <= 4
 rotate_left
 ·have hf := hno fun h => h4 h.len4
  have z2 : ((4 : Int) < (o.decls.length : Int)) = True := eq_true (by omega)
  (have F := ai @z1 (ai @z2 @hf); refine gG ?_; exact gT)
 have z2 : ((4 : Int) < (o.decls.length : Int)) = False := eq_false (by omega)
 obtain ⟨f, hf0⟩ : ∃ f, o.decls[0]? = some f := ⟨_, List.getElem?_eq_getElem (by omega)⟩
 have hfm := List.mem_of_getElem? hf0
 by_cases h3 : f.args.length <= 3
 rotate_left
 ·have hf := hno fun h => h3 (h.ar f hf0)
  have z3 : ((3 : Int) < (f.args.length : Int)) = True := eq_true (by omega)
  (have F := ai @z1 (ai @z2 (ai @hf0 (ai @encDcl_u (ai @z3 @hf)))); refine gG ?_; exact gT)
 have z3 : ((3 : Int) < (f.args.length : Int)) = False := eq_false (by omega)
 (have F := ai @z1 (ai @z2 (ai @hf0 (ai @encDcl_u @z3))); refine gG ?_; clear F)
 refine gB ?_
 (have F := @e0P; refine gC (cK) ?_; clear F)
 (have F := @e0P; refine gR ?_; clear F)
 (have F := ai @hf0 @encDcl_u; refine gG ?_; clear F)
 (have F := @e0P; refine gL (ι := Nat) [4, 7, 8, 9, 40, 63, 68, 99, 110] [] (fun j => [(7, A.d (.one (.lit (.int .i64 j))))]) (fun j => []) (fun j => j <= o.decls.length ∧ ∀ (j' : Nat) d, j' < j -> o.decls[j']? = some d -> DeclOk g.sorts f d) (fun j => o.decls.length - j) (0) (⟨Nat.zero_le _, fun j' d h => absurd h (by omega)⟩) (fun j hj => ?_); clear F)
 obtain ⟨hjl, hdo⟩ := hj
 by_cases hlj : j < o.decls.length
 rotate_left
 ·have q2 : ¬ ((j : Int) < (o.decls.length : Int)) := by omega
  have ht := declsOk_true (s := g.sorts) (o := o) ⟨h1, h4, fun f' h => by rw [hf0] at h; injection h with h; subst h; exact h3, fun f' h d hd => by
   rw [hf0] at h; injection h with h; subst h
   obtain ⟨j', hj'⟩ := List.getElem?_of_mem hd
   exact hdo j' d (by have := (List.getElem?_eq_some_iff.1 hj').1; omega) hj'⟩
  (have F := ai @q2 @ht; refine gG ?_; exact gT)
 have q2 : (j : Int) < (o.decls.length : Int) := by omega
 obtain ⟨d, hd⟩ : ∃ d, o.decls[j]? = some d := ⟨_, List.getElem?_eq_getElem hlj⟩
 have hdm := List.mem_of_getElem? hd
 have hwj := wrap1 (k := j) (by omega)
 have hbad : ¬ DeclOk g.sorts f d -> declsOk g.sorts o = false := fun h => hno fun hD => h (hD.all f hf0 d hdm)
 have hj0 : d = f ∨ DeclOk g.sorts f f := by
  rcases Nat.eq_zero_or_pos j with h | h
  ·subst h; rw [hf0] at hd; injection hd with hd; exact .inl hd.symm
  ·exact .inr (hdo 0 f h hf0)
 by_cases hdl : d.args.length = f.args.length
 rotate_left
 ·have hf := hbad fun h => hdl h.len
  have y3 : ((d.args.length : Int) = (f.args.length : Int)) = False := eq_false (by omega)
  (have F := ai @q2 (ai @hd (ai @encDcl_u (ai @y3 @hf))); refine gG ?_; exact gT)
 have y3 : ((d.args.length : Int) = (f.args.length : Int)) = True := eq_true (by omega)
 (have F := ai @q2 (ai @hd @encDcl_u); refine gG ?_; clear F)
 refine gB ?_
 (have F := ai @y3 (ai @lK @hw1n); refine gC (con_l1In d.res 0 ((g.sorts.names.length : Int) - 1)) ?_; clear F)
 by_cases hdr : 0 <= d.res ∧ d.res < (g.sorts.names.length : Int)
 rotate_left
 ·have hf := hbad fun h => hdr h.res
  have y4 : decide (0 <= d.res ∧ d.res <= (g.sorts.names.length : Int) - 1) = false := decide_eq_false (by omega)
  (have F := ai @y3 @y4; refine gR ?_; clear F)
  (have F := @hf; refine gG ?_; exact gT)
 have y4 : decide (0 <= d.res ∧ d.res <= (g.sorts.names.length : Int) - 1) = true := decide_eq_true (by omega)
 have gd := kdg hs hdr
 have id' := hdr.1
 have hfr : 0 <= f.res ∧ f.res < (g.sorts.names.length : Int) := by
  rcases hj0 with h | h
  ·rw [<- h]; exact hdr
  ·exact h.res
 have gr := kdg hs hfr
 have ir := hfr.1
 (have F := ai @y3 @y4; refine gR ?_; clear F)
 (have F := @e0P; refine gG ?_; clear F)
 (have F := @e0P; refine gL (ι := Nat) [4, 9, 68, 99] [] (fun i => [(9, A.d (.one (.lit (.int .i64 i))))]) (fun i => []) (fun i => i <= d.args.length ∧ ∀ (i' : Nat) a, i' < i -> d.args[i']? = some a -> (0 <= a ∧ a < g.sorts.names.length) ∧ ∀ b, f.args[i']? = some b -> kd g.sorts a = kd g.sorts b) (fun i => d.args.length - i) (0) (⟨Nat.zero_le _, fun i' a h => absurd h (by omega)⟩) (fun i hi => ?_); clear F)
 obtain ⟨hil2, hka⟩ := hi
 by_cases hlt : i < d.args.length
 rotate_left
 ·obtain rfl : i = d.args.length := by omega
  have q3 : ¬ ((d.args.length : Int) < (d.args.length : Int)) := by omega
  by_cases hkr : kd g.sorts d.res = kd g.sorts f.res
  rotate_left
  ·have hf := hbad fun h => hkr h.kres
   have y5 : ((kd g.sorts d.res : Int) = (kd g.sorts f.res : Int)) = False := eq_false (by omega)
   (have F := ai @q3 (ai @gr (ai @gd (ai @ir (ai @id' (ai @rK (ai @y5 @hf)))))); refine gG ?_; exact gT)
  have y5 : ((kd g.sorts d.res : Int) = (kd g.sorts f.res : Int)) = True := eq_true (by omega)
  have hq : j + 1 <= o.decls.length ∧ _ := ⟨hlj, decls_next hd hdo (declOk_of hdl hdr hkr hka)⟩
  (have F := ai @q3 (ai @gr (ai @gd (ai @ir (ai @id' (ai @rK (ai @y5 @hwj)))))); refine gG ?_; exact ⟨j + 1, hq, gw, gw, by omega⟩)
 have q3 : (i : Int) < (d.args.length : Int) := by omega
 obtain ⟨a, ha⟩ : ∃ k, d.args[i]? = some k := ⟨_, List.getElem?_eq_getElem hlt⟩
 obtain ⟨b, hb⟩ : ∃ k, f.args[i]? = some k := ⟨_, List.getElem?_eq_getElem (by omega)⟩
 have hw := wrap1 (k := i) (by omega)
 (have F := @q3; refine gG ?_; clear F)
 refine gB ?_
 (have F := ai @ha (ai @encInt_u (ai @lK @hw1n)); refine gC (con_l1In a 0 ((g.sorts.names.length : Int) - 1)) ?_; clear F)
 by_cases har : 0 <= a ∧ a < (g.sorts.names.length : Int)
 rotate_left
 ·have hf := hbad fun h => har (h.args a (List.mem_of_getElem? ha))
  have y6 : decide (0 <= a ∧ a <= (g.sorts.names.length : Int) - 1) = false := decide_eq_false (by omega)
  (have F := @y6; refine gR ?_; clear F)
  (have F := @hf; refine gG ?_; exact gT)
 have y6 : decide (0 <= a ∧ a <= (g.sorts.names.length : Int) - 1) = true := decide_eq_true (by omega)
 have y8 : (a <= (g.sorts.names.length : Int) - 1) = True := eq_true (by omega)
 have ga := kdg hs har
 have ia := har.1
 have hbr : 0 <= b ∧ b < (g.sorts.names.length : Int) := by
  rcases hj0 with h | h
  ·rw [<- h, ha] at hb; injection hb with hb; rw [<- hb]; exact har
  ·exact h.args b (List.mem_of_getElem? hb)
 have gb := kdg hs hbr
 have ib := hbr.1
 by_cases hkk : kd g.sorts a = kd g.sorts b
 rotate_left
 ·have hf := hbad fun h => hkk (h.kargs i a b ha hb)
  have y7 : ((kd g.sorts a : Int) = (kd g.sorts b : Int)) = False := eq_false (by omega)
  (have F := ai @y6 (ai @y8 (ai @ga (ai @gb (ai @ia (ai @ib (ai @ha (ai @hb (ai @encInt_u (ai @rK @y7))))))))); refine gR ?_; clear F)
  (have F := @hf; refine gG ?_; exact gT)
 have y7 : ((kd g.sorts a : Int) = (kd g.sorts b : Int)) = True := eq_true (by omega)
 have hq : i + 1 <= d.args.length ∧ _ := ⟨hlt, kargs_next (f := f) ha hka har fun b' hb' => by rw [hb] at hb'; injection hb' with hb'; subst hb'; exact hkk⟩
 (have F := ai @y6 (ai @y8 (ai @ga (ai @gb (ai @ia (ai @ib (ai @ha (ai @hb (ai @encInt_u (ai @rK @y7))))))))); refine gR ?_; clear F)
 (have F := @hw; refine gG ?_; exact ⟨i + 1, hq, gw, gw, by omega⟩)
end
end Go.Proofs.YtohilkmdjdfljaaGreat
namespace Go.Proofs.YtohilkmdjdfljaaGreat
open Go.RowKit
set_option maxHeartbeats 4000000 in
set_option maxRecDepth 100000 in
theorem con_l4Arity {o : Opr} {d : Dcl} (hd : o.decls[0]? = some d) : Con e0 166 [.agg (encOpr o)] [.one (.lit (.int .i64 d.args.length))] := by
 refine gI 7 Tryz.func166 ?_
 (have F := ai @encOpr_u (ai @hd @encDcl_u); refine gG ?_; exact gT)
section
variable {g : Sgn} {o : Opr}
theorem ax_make {d : Dcl} (hd : o.decls[0]? = some d) (h1 : 0 <= o.unit) (h2 : o.unit <= g.ops.length) (h3 : d.args.length = 2) {a b : Int} (ha : d.args[0]? = some a) (hb : d.args[1]? = some b) (hk : kd g.sorts a = kd g.sorts b) (hr : ¬ ((o.assoc = true ∨ o.unit ≠ 0) ∧ kd g.sorts a ≠ kd g.sorts d.res))
  (hu : o.unit ≠ 0 -> ∀ (p : Opr) (u : Dcl), g.ops[o.unit.toNat - 1]? = some p -> p.decls[0]? = some u -> u.args.length = 0 ∧ kd g.sorts u.res = kd g.sorts d.res) : AxOk g o :=
 ⟨h1, h2, fun _ d' hd' => by
  rw [hd] at hd'; injection hd' with hd'; subst hd'
  refine ⟨h3, fun a' b' ha' hb' => ?_⟩
  rw [ha] at ha'; injection ha' with ha'; subst ha'
  rw [hb] at hb'; injection hb' with hb'; subst hb'
  exact ⟨hk, fun h => Classical.byContradiction fun hn => hr ⟨h, hn⟩, hu⟩⟩
theorem ax_plain (h : o.assoc = false ∧ o.comm = false ∧ o.unit = 0) : AxOk g o := ⟨by rw [h.2.2]; exact Int.le_refl _, by rw [h.2.2]; omega, fun h2 => by
 rcases h2 with h2 | h2 | h2
 ·rw [h.1] at h2; cases h2
 ·rw [h.2.1] at h2; cases h2
 ·exact absurd h.2.2 h2⟩
theorem ax_need (h : ¬ (o.assoc = false ∧ o.comm = false ∧ o.unit = 0)) : o.assoc = true ∨ o.comm = true ∨ o.unit ≠ 0 := by
 by_cases h1 : o.assoc = true
 ·exact .inl h1
 by_cases h2 : o.comm = true
 ·exact .inr (.inl h2)
 exact .inr (.inr fun h3 => h ⟨by simpa using h1, by simpa using h2, h3⟩)
set_option maxHeartbeats 8000000 in
set_option maxRecDepth 100000 in
theorem con_implAxioms (hs : SortsOk g.sorts) (hall : ∀ p ∈ g.ops, DeclsOk g.sorts p) (ho : o ∈ g.ops) (hol : g.ops.length <= 14) : Con e0 136 [.agg (encOrd g.sorts), .agg (encSgn g), .agg (encOpr o)] [.one (.lit (.bool (axOk g o)))] := by
 have hno : ¬ AxOk g o -> axOk g o = false := axOk_false
 have rK := nR_rows (l := kinds g.sorts)
 obtain ⟨d, hd, hdd⟩ := (hall o ho).first
 have gr := kdg hs hdd.res
 have ir := hdd.res.1
 rw [encOrd, encSgn, encOpr]
 refine gI 87042659588714057177760255 Tryz.func136 ?_
 by_cases h1 : 0 <= o.unit
 rotate_left
 ·have hf := hno fun h => h1 h.lo
  have z1 : (o.unit < 0) = True := eq_true (by omega)
  (have F := ai @z1 @hf; refine gG ?_; exact gT)
 have z1 : (o.unit < 0) = False := eq_false (by omega)
 by_cases h2 : o.unit <= g.ops.length
 rotate_left
 ·have hf := hno fun h => h2 h.hi
  have z2 : ((g.ops.length : Int) < o.unit) = True := eq_true (by omega)
  (have F := ai @z1 (ai @z2 @hf); refine gG ?_; exact gT)
 have z2 : ((g.ops.length : Int) < o.unit) = False := eq_false (by omega)
 by_cases hp : o.assoc = false ∧ o.comm = false ∧ o.unit = 0
 ·have ht := axOk_true (ax_plain (g := g) hp)
  obtain ⟨p1, p2, p3⟩ := hp
  have p3 : (o.unit = 0) = True := eq_true p3
  (have F := ai @z1 (ai @z2 (ai @p1 (ai @p2 (ai @p3 @ht)))); refine gG ?_; exact gT)
 have hnd := ax_need hp
 (have F := ai @z1 @z2; have NN : StopAt 3 := trivial; refine gGn ?_; clear F NN)
 refine gM (ι := Unit) [32] [] (fun v => [(32, A.d (.one (.lit (.bool false))))]) (fun v => []) (fun v => True) ?_ (fun v hv => Exists.intro _ (ai (Wk.refl _) ?_))
 ·cases q1 : o.assoc with
  | true => (have F := @q1; refine gG ?_; exact ⟨(), trivial, gw, gw⟩)
  | false =>
  cases q2 : o.comm with
  | true => (have F := ai @q1 @q2; refine gG ?_; exact ⟨(), trivial, gw, gw⟩)
  | false =>
   have q3 : (o.unit = 0) = False := eq_false fun h => hp ⟨q1, q2, h⟩
   (have F := ai @q1 (ai @q2 @q3); refine gG ?_; exact ⟨(), trivial, gw, gw⟩)
 clear hv
 by_cases h3 : d.args.length = 2
 rotate_left
 ·have hf := hno fun h => h3 (h.two hnd d hd).1
  have z3 : ((d.args.length : Int) = 2) = False := eq_false (by omega)
  (have F := ai @hd (ai @encDcl_u (ai @z3 @hf)); refine gG ?_; exact gT)
 have z3 : ((d.args.length : Int) = 2) = True := eq_true (by omega)
 obtain ⟨a, ha⟩ : ∃ k, d.args[0]? = some k := ⟨_, List.getElem?_eq_getElem (by omega)⟩
 obtain ⟨b, hb⟩ : ∃ k, d.args[1]? = some k := ⟨_, List.getElem?_eq_getElem (by omega)⟩
 have har := hdd.args a (List.mem_of_getElem? ha)
 have hbr := hdd.args b (List.mem_of_getElem? hb)
 have ga := kdg hs har
 have gb := kdg hs hbr
 have ia := har.1
 have ib := hbr.1
 by_cases hk : kd g.sorts a = kd g.sorts b
 rotate_left
 ·have hf := hno fun h => hk ((h.two hnd d hd).2 a b ha hb).1
  have z4 : ((kd g.sorts a : Int) = (kd g.sorts b : Int)) = False := eq_false (by omega)
  (have F := ai @hd (ai @encDcl_u (ai @z3 (ai @ha (ai @hb (ai @encInt_u (ai @ga (ai @gb (ai @ia (ai @ib (ai @rK (ai @z4 @hf))))))))))); refine gG ?_; exact gT)
 have z4 : ((kd g.sorts a : Int) = (kd g.sorts b : Int)) = True := eq_true (by omega)
 (have F := ai @hd (ai @encDcl_u (ai @z3 (ai @ha (ai @hb (ai @encInt_u (ai @ga (ai @gb (ai @ia (ai @ib (ai @rK @z4)))))))))); have NN : StopAt 8 := trivial; refine gGn ?_; clear F NN)
 refine gM (ι := Bool) [83] [] (fun v => [(83, A.d (.one (.lit (.bool v))))]) (fun v => []) (fun v => (v = true -> ((o.assoc = true ∨ o.unit ≠ 0) ∧ kd g.sorts a ≠ kd g.sorts d.res)) ∧ (v = false -> ¬ ((o.assoc = true ∨ o.unit ≠ 0) ∧ kd g.sorts a ≠ kd g.sorts d.res))) ?_ (fun v hv => Exists.intro _ (ai (Wk.refl _) ?_))
 ·cases q1 : o.assoc with
  | true =>
   by_cases hr : kd g.sorts a = kd g.sorts d.res
   ·have z5 : ((kd g.sorts a : Int) = (kd g.sorts d.res : Int)) = True := eq_true (by omega)
    (have F := ai @q1 (ai @ha (ai @encInt_u (ai @ga (ai @gr (ai @ia (ai @ir (ai @rK @z5))))))); refine gG ?_; exact ⟨false, ⟨fun h => (by cases h), fun _ h => h.2 hr⟩, gw, gw⟩)
   ·have z5 : ((kd g.sorts a : Int) = (kd g.sorts d.res : Int)) = False := eq_false (by omega)
    (have F := ai @q1 (ai @ha (ai @encInt_u (ai @ga (ai @gr (ai @ia (ai @ir (ai @rK @z5))))))); refine gG ?_; exact ⟨true, ⟨fun _ => ⟨.inl rfl, hr⟩, fun h => (by cases h)⟩, gw, gw⟩)
  | false =>
  by_cases q3 : o.unit = 0
  ·have z6 : (o.unit = 0) = True := eq_true q3
   (have F := ai @q1 @z6; refine gG ?_; exact ⟨false, ⟨fun h => (by cases h), fun _ h => h.1.elim (fun h => (by cases h)) fun h => h q3⟩, gw, gw⟩)
  ·have z6 : (o.unit = 0) = False := eq_false q3
   by_cases hr : kd g.sorts a = kd g.sorts d.res
   ·have z5 : ((kd g.sorts a : Int) = (kd g.sorts d.res : Int)) = True := eq_true (by omega)
    (have F := ai @q1 (ai @z6 (ai @ha (ai @encInt_u (ai @ga (ai @gr (ai @ia (ai @ir (ai @rK @z5)))))))); refine gG ?_; exact ⟨false, ⟨fun h => (by cases h), fun _ h => h.2 hr⟩, gw, gw⟩)
   ·have z5 : ((kd g.sorts a : Int) = (kd g.sorts d.res : Int)) = False := eq_false (by omega)
    (have F := ai @q1 (ai @z6 (ai @ha (ai @encInt_u (ai @ga (ai @gr (ai @ia (ai @ir (ai @rK @z5)))))))); refine gG ?_; exact ⟨true, ⟨fun _ => ⟨.inr q3, hr⟩, fun h => (by cases h)⟩, gw, gw⟩)
 obtain ⟨hv1, hv2⟩ := hv
 cases v with
 | true =>
  have hf := hno fun h => (hv1 rfl).2 (((h.two hnd d hd).2 a b ha hb).2.1 (hv1 rfl).1)
  (have F := @hf; refine gG ?_; exact gT)
 | false =>
 have hr := hv2 rfl
 by_cases q3 : o.unit = 0
 ·have z6 : (o.unit = 0) = True := eq_true q3
  have ht := axOk_true (ax_make hd h1 h2 h3 ha hb hk hr fun h => absurd q3 h)
  (have F := ai @z6 @ht; refine gG ?_; exact gT)
 have z6 : (o.unit = 0) = False := eq_false q3
 have hsub : IntKind.i64.wrap (o.unit - 1) = ((o.unit.toNat - 1 : Nat) : Int) := wrapN (by omega) (by omega) (by omega)
 obtain ⟨p, hp⟩ : ∃ p, g.ops[o.unit.toNat - 1]? = some p := ⟨_, List.getElem?_eq_getElem (by omega)⟩
 obtain ⟨u, hu, huu⟩ := (hall p (List.mem_of_getElem? hp)).first
 have gu' := kdg hs huu.res
 have iu := huu.res.1
 have key : (u.args.length = 0 ∧ kd g.sorts u.res = kd g.sorts d.res) -> axOk g o = true := fun h => axOk_true (ax_make hd h1 h2 h3 ha hb hk hr fun _ p' u' hp' hu' => by
  rw [hp] at hp'; injection hp' with hp'; subst hp'
  rw [hu] at hu'; injection hu' with hu'; subst hu'
  exact h)
 have keyn : ¬ (u.args.length = 0 ∧ kd g.sorts u.res = kd g.sorts d.res) -> axOk g o = false := fun h => hno fun hA => h (((hA.two hnd d hd).2 a b ha hb).2.2 q3 p u hp hu)
 by_cases hl0 : u.args.length = 0
 rotate_left
 ·have hf := keyn fun h => hl0 h.1
  have z7 : ((u.args.length : Int) = 0) = False := eq_false (by omega)
  (have F := ai @z6 (ai @hsub (ai @hp (ai @encOpr_u (ai @hu (ai @encDcl_u (ai @natInt (ai @z7 @hf))))))); refine gG ?_; exact gT)
 have z7 : ((u.args.length : Int) = 0) = True := eq_true (by omega)
 by_cases hku : kd g.sorts u.res = kd g.sorts d.res
 ·have ht := key ⟨hl0, hku⟩
  have z8 : ((kd g.sorts u.res : Int) = (kd g.sorts d.res : Int)) = True := eq_true (by omega)
  (have F := ai @z6 (ai @hsub (ai @hp (ai @encOpr_u (ai @hu (ai @encDcl_u (ai @natInt (ai @z7 (ai @gu' (ai @gr (ai @iu (ai @ir (ai @rK (ai @z8 @ht))))))))))))); refine gG ?_; exact gT)
 ·have hf := keyn fun h => hku h.2
  have z8 : ((kd g.sorts u.res : Int) = (kd g.sorts d.res : Int)) = False := eq_false (by omega)
  (have F := ai @z6 (ai @hsub (ai @hp (ai @encOpr_u (ai @hu (ai @encDcl_u (ai @natInt (ai @z7 (ai @gu' (ai @gr (ai @iu (ai @ir (ai @rK (ai @z8 @hf))))))))))))); refine gG ?_; exact gT)
set_option maxHeartbeats 8000000 in
set_option maxRecDepth 100000 in
theorem con_l4Axioms (hs : SortsOk g.sorts) (hall : ∀ p ∈ g.ops, DeclsOk g.sorts p) {k : Nat} (hk0 : g.ops[k]? = some o) (hol : g.ops.length <= 14) : Con e0 125 [.agg (encSgn g), .one (.lit (.int .i64 k))] [.one (.lit (.bool (axOk g o)))] := by
 have hno : ¬ AxOk g o -> axOk g o = false := axOk_false
 have ho := List.mem_of_getElem? hk0
 have hkl := (List.getElem?_eq_some_iff.1 hk0).1
 have cK := con_l3Kinds hs
 rw [show (casts (kinds g.sorts)).map encInt = nR (kinds g.sorts) from rfl] at cK
 have rK := nR_rows (l := kinds g.sorts)
 obtain ⟨d, hd, hdd⟩ := (hall o ho).first
 have cA := con_l4Arity hd
 have gr := kdg hs hdd.res
 have ir := hdd.res.1
 rw [encSrt] at cK
 rw [encOpr] at cA
 rw [encSgn]
 refine gI 174085318024508800717819895 Tryz.func125 ?_
 by_cases hp : o.assoc = false ∧ o.comm = false ∧ o.unit = 0
 ·have ht := axOk_true (ax_plain (g := g) hp)
  obtain ⟨p1, p2, p3⟩ := hp
  have p3 : (o.unit = 0) = True := eq_true p3
  (have F := ai @hk0 (ai @encOpr_u (ai @p1 (ai @p2 (ai @p3 @ht)))); refine gG ?_; exact gT)
 have hnd := ax_need hp
 (have F := ai @hk0 @encOpr_u; have NN : StopAt 2 := trivial; refine gGn ?_; clear F NN)
 refine gM (ι := Unit) [29] [] (fun v => [(29, A.d (.one (.lit (.bool false))))]) (fun v => []) (fun v => True) ?_ (fun v hv => Exists.intro _ (ai (Wk.refl _) ?_))
 ·cases q1 : o.assoc with
  | true => (have F := @q1; refine gG ?_; exact ⟨(), trivial, gw, gw⟩)
  | false =>
  cases q2 : o.comm with
  | true => (have F := ai @q1 @q2; refine gG ?_; exact ⟨(), trivial, gw, gw⟩)
  | false =>
   have q3 : (o.unit = 0) = False := eq_false fun h => hp ⟨q1, q2, h⟩
   (have F := ai @q1 (ai @q2 @q3); refine gG ?_; exact ⟨(), trivial, gw, gw⟩)
 clear hv
 (have F := @e0P; refine gG ?_; clear F)
 refine gB ?_
 (have F := @e0P; refine gC (cA) ?_; clear F)
 by_cases h3 : d.args.length = 2
 rotate_left
 ·have hf := hno fun h => h3 (h.two hnd d hd).1
  have z3 : ((d.args.length : Int) = 2) = False := eq_false (by omega)
  (have F := @z3; refine gR ?_; clear F)
  (have F := @hf; refine gG ?_; exact gT)
 have z3 : ((d.args.length : Int) = 2) = True := eq_true (by omega)
 (have F := @z3; refine gC (con_l1In o.unit 0 (g.ops.length : Int)) ?_; clear F)
 by_cases h12 : 0 <= o.unit ∧ o.unit <= (g.ops.length : Int)
 rotate_left
 ·have hf := hno fun h => h12 ⟨h.lo, h.hi⟩
  have z1 : decide (0 <= o.unit ∧ o.unit <= (g.ops.length : Int)) = false := decide_eq_false h12
  (have F := ai @z3 @z1; refine gR ?_; clear F)
  (have F := @hf; refine gG ?_; exact gT)
 have z1 : decide (0 <= o.unit ∧ o.unit <= (g.ops.length : Int)) = true := decide_eq_true h12
 obtain ⟨h1, h2⟩ := h12
 obtain ⟨a, ha⟩ : ∃ k, d.args[0]? = some k := ⟨_, List.getElem?_eq_getElem (by omega)⟩
 obtain ⟨b, hb⟩ : ∃ k, d.args[1]? = some k := ⟨_, List.getElem?_eq_getElem (by omega)⟩
 have har := hdd.args a (List.mem_of_getElem? ha)
 have hbr := hdd.args b (List.mem_of_getElem? hb)
 have ga := kdg hs har
 have gb := kdg hs hbr
 have ia := har.1
 have ib := hbr.1
 (have F := ai @z3 @z1; refine gR ?_; clear F)
 (have F := @e0P; refine gG ?_; clear F)
 refine gB ?_
 (have F := @e0P; refine gC (cK) ?_; clear F)
 (have F := @e0P; refine gR ?_; clear F)
 (have F := ai @hd @encDcl_u; have NN : StopAt 8 := trivial; refine gGn ?_; clear F NN)
 refine region_Dk 22 (by decide +kernel) ?_
 intro ds hds
 simp only [List.map] at hds
 subst hds
 refine (have F := ai ha (ai hb (ai encInt_u (ai ga (ai gb (ai gr (ai ia (ai ib (ai ir rK)))))))); gP 19 ?_)
 refine (have F := ia; gAq ?_)
 refine (have F := ia; gAq ?_)
 refine (have F := ia; gAq ?_)
 (have F := @e0P; refine gR ?_; clear F)
 (have F := @e0P; have NN : StopAt 9 := trivial; refine gGn ?_; clear F NN)
 refine gM (ι := Bool) [84] [] (fun v => [(84, A.d (.one (.lit (.bool v))))]) (fun v => []) (fun v => (v = true -> kd g.sorts a ≠ kd g.sorts b ∨ ((o.assoc = true ∨ o.unit ≠ 0) ∧ kd g.sorts a ≠ kd g.sorts d.res)) ∧ (v = false -> kd g.sorts a = kd g.sorts b ∧ ¬ ((o.assoc = true ∨ o.unit ≠ 0) ∧ kd g.sorts a ≠ kd g.sorts d.res))) ?_ (fun v hv => Exists.intro _ (ai (Wk.refl _) ?_))
 ·by_cases hk : kd g.sorts a = kd g.sorts b
  rotate_left
  ·have z4 : ((kd g.sorts a : Int) = (kd g.sorts b : Int)) = False := eq_false (by omega)
   (have F := @z4; refine gG ?_; exact ⟨true, ⟨fun _ => .inl hk, fun h => (by cases h)⟩, gw, gw⟩)
  have z4 : ((kd g.sorts a : Int) = (kd g.sorts b : Int)) = True := eq_true (by omega)
  cases q1 : o.assoc with
  | true =>
   by_cases hr : kd g.sorts a = kd g.sorts d.res
   ·have z5 : ((kd g.sorts a : Int) = (kd g.sorts d.res : Int)) = True := eq_true (by omega)
    (have F := ai @q1 (ai @encOpr_u (ai @z4 @z5)); refine gG ?_; exact ⟨false, ⟨fun h => (by cases h), fun _ => ⟨hk, fun h => h.2 hr⟩⟩, gw, gw⟩)
   ·have z5 : ((kd g.sorts a : Int) = (kd g.sorts d.res : Int)) = False := eq_false (by omega)
    (have F := ai @q1 (ai @encOpr_u (ai @z4 @z5)); refine gG ?_; exact ⟨true, ⟨fun _ => .inr ⟨.inl rfl, hr⟩, fun h => (by cases h)⟩, gw, gw⟩)
  | false =>
  by_cases q3 : o.unit = 0
  ·have z6 : ((0 : Int) < o.unit) = False := eq_false (by omega)
   (have F := ai @q1 (ai @encOpr_u (ai @z4 @z6)); refine gG ?_; exact ⟨false, ⟨fun h => (by cases h), fun _ => ⟨hk, fun h => h.1.elim (fun h => (by cases h)) fun h => h q3⟩⟩, gw, gw⟩)
  ·have z6 : ((0 : Int) < o.unit) = True := eq_true (by omega)
   by_cases hr : kd g.sorts a = kd g.sorts d.res
   ·have z5 : ((kd g.sorts a : Int) = (kd g.sorts d.res : Int)) = True := eq_true (by omega)
    (have F := ai @q1 (ai @encOpr_u (ai @z4 (ai @z6 @z5))); refine gG ?_; exact ⟨false, ⟨fun h => (by cases h), fun _ => ⟨hk, fun h => h.2 hr⟩⟩, gw, gw⟩)
   ·have z5 : ((kd g.sorts a : Int) = (kd g.sorts d.res : Int)) = False := eq_false (by omega)
    (have F := ai @q1 (ai @encOpr_u (ai @z4 (ai @z6 @z5))); refine gG ?_; exact ⟨true, ⟨fun _ => .inr ⟨.inr q3, hr⟩, fun h => (by cases h)⟩, gw, gw⟩)
 obtain ⟨hv1, hv2⟩ := hv
 cases v with
 | true =>
  have hf := hno fun h => (hv1 rfl).elim (fun h' => h' ((h.two hnd d hd).2 a b ha hb).1) fun h' => h'.2 (((h.two hnd d hd).2 a b ha hb).2.1 h'.1)
  (have F := @hf; refine gG ?_; exact gT)
 | false =>
 obtain ⟨hk, hr⟩ := hv2 rfl
 by_cases q3 : o.unit = 0
 ·have z6 : (o.unit = 0) = True := eq_true q3
  have ht := axOk_true (ax_make hd h1 h2 h3 ha hb hk hr fun h => absurd q3 h)
  (have F := ai @encOpr_u (ai @z6 @ht); refine gG ?_; exact gT)
 have z6 : (o.unit = 0) = False := eq_false q3
 have hsub : IntKind.i64.wrap (o.unit - 1) = ((o.unit.toNat - 1 : Nat) : Int) := wrapN (by omega) (by omega) (by omega)
 obtain ⟨p, hp⟩ : ∃ p, g.ops[o.unit.toNat - 1]? = some p := ⟨_, List.getElem?_eq_getElem (by omega)⟩
 obtain ⟨u, hu, huu⟩ := (hall p (List.mem_of_getElem? hp)).first
 have cP := con_l4Arity hu
 rw [encOpr] at cP
 have gu' := kdg hs huu.res
 have iu := huu.res.1
 have key : (u.args.length = 0 ∧ kd g.sorts u.res = kd g.sorts d.res) -> axOk g o = true := fun h => axOk_true (ax_make hd h1 h2 h3 ha hb hk hr fun _ p' u' hp' hu' => by
  rw [hp] at hp'; injection hp' with hp'; subst hp'
  rw [hu] at hu'; injection hu' with hu'; subst hu'
  exact h)
 have keyn : ¬ (u.args.length = 0 ∧ kd g.sorts u.res = kd g.sorts d.res) -> axOk g o = false := fun h => hno fun hA => h (((hA.two hnd d hd).2 a b ha hb).2.2 q3 p u hp hu)
 (have F := ai @z6 (ai @hsub (ai @hp (ai @encOpr_u @natInt))); refine gG ?_; clear F)
 refine gB ?_
 (have F := @e0P; refine gC (cP) ?_; clear F)
 by_cases hl0 : u.args.length = 0
 rotate_left
 ·have hf := keyn fun h => hl0 h.1
  have z7 : ((u.args.length : Int) = 0) = False := eq_false (by omega)
  (have F := @z7; refine gR ?_; clear F)
  (have F := @hf; refine gG ?_; exact gT)
 have z7 : ((u.args.length : Int) = 0) = True := eq_true (by omega)
 by_cases hku : kd g.sorts u.res = kd g.sorts d.res
 ·have ht := key ⟨hl0, hku⟩
  have z8 : ((kd g.sorts u.res : Int) = (kd g.sorts d.res : Int)) = True := eq_true (by omega)
  (have F := ai @z7 (ai @hu (ai @encDcl_u (ai @gu' (ai @iu (ai @rK @z8))))); refine gR ?_; clear F)
  (have F := @ht; refine gG ?_; exact gT)
 ·have hf := keyn fun h => hku h.2
  have z8 : ((kd g.sorts u.res : Int) = (kd g.sorts d.res : Int)) = False := eq_false (by omega)
  (have F := ai @z7 (ai @hu (ai @encDcl_u (ai @gu' (ai @iu (ai @rK @z8))))); refine gR ?_; clear F)
  (have F := @hf; refine gG ?_; exact gT)
end
end Go.Proofs.YtohilkmdjdfljaaGreat
namespace Go.Proofs.YtohilkmdjdfljaaGreat
open Go.RowKit
theorem con_cmpOf {f : FuncId} (hb : hasBody e0.P f = true) {a b : Tm} (h : cmpTmC f a b) (ha : okTm a) (hk : okTm b) : Con e0 f [.agg (encTm a), .agg (encTm b)] [.one (.lit (.int .i64 (cmpTm a b)))] := by
 refine con_below e0_ok hb fun w S vs hv => ?_
 match vs, hv with
 | [v, u], hv =>
  obtain ⟨⟨us, rfl, hu⟩, ⟨us', rfl, hu'⟩, _⟩ := hv
  exact (h S S us us' w ha hk hu hu').mono fun e w' ⟨h1, h2⟩ => ⟨_, h1, h2, by simp [retA, ARel, DRel, Rep]⟩
theorem con_implCmp {a b : Tm} (ha : okTm a) (hk : okTm b) : Con e0 140 [.agg (encTm a), .agg (encTm b)] [.one (.lit (.int .i64 (cmpTm a b)))] := con_cmpOf (by kernel_rfl) (implCompareTerms a b) ha hk
theorem con_specCmp {a b : Tm} (ha : okTm a) (hk : okTm b) : Con e0 130 [.agg (encTm a), .agg (encTm b)] [.one (.lit (.int .i64 (cmpTm a b)))] := con_cmpOf (by kernel_rfl) (specCompareTerms a b) ha hk
theorem sizeTms_app (a b : List Tm) : sizeTms (a ++ b) = sizeTms a + sizeTms b := by
 induction a with
 | nil => simp [sizeTms]
 | cons x xs ih => simp only [List.cons_append, sizeTms, ih]; omega
theorem sizeTms_mem {ts : List Tm} {t : Tm} (h : t ∈ ts) : sizeTm t <= sizeTms ts := by
 induction ts with
 | nil => cases h
 | cons x xs ih =>
  simp only [sizeTms]
  rcases List.mem_cons.1 h with rfl | h
  ·omega
  ·have := ih h; omega
theorem sizeTms_snoc {ts : List Tm} {i : Nat} {t : Tm} (h : ts[i]? = some t) : sizeTms (ts.take (i + 1)) = sizeTms (ts.take i) + sizeTm t := by
 rw [take_snoc h, sizeTms_app]; simp [sizeTms]
theorem sizeTms_take (ts : List Tm) (i : Nat) : sizeTms (ts.take i) <= sizeTms ts := by
 have := sizeTms_app (ts.take i) (ts.drop i)
 rw [List.take_append_drop] at this
 omega
theorem sizeTms_len (ts : List Tm) : ts.length <= sizeTms ts := by
 induction ts with
 | nil => simp [sizeTms]
 | cons x xs ih => cases x; simp only [List.length_cons, sizeTms, sizeTm]; omega
mutual
def depthTm : Tm -> Nat
 | .mk _ _ _ a => 1 + depthTms a
def depthTms : List Tm -> Nat
 | [] => 0
 | t :: ts => max (depthTm t) (depthTms ts)
end
mutual
theorem depth_size : ∀ t : Tm, depthTm t <= sizeTm t
 | .mk _ _ _ a => by
  have := depths_size a
  simp only [depthTm, sizeTm]; omega
theorem depths_size : ∀ ts : List Tm, depthTms ts <= sizeTms ts
 | [] => by simp [depthTms]
 | t :: ts => by
  have := depth_size t
  have := depths_size ts
  simp only [depthTms, sizeTms]; omega
end
theorem depthTms_app (a b : List Tm) : depthTms (a ++ b) = max (depthTms a) (depthTms b) := by
 induction a with
 | nil => simp [depthTms]
 | cons x xs ih => simp only [List.cons_append, depthTms, ih]; omega
theorem depthTms_snoc {ts : List Tm} {i : Nat} {t : Tm} (h : ts[i]? = some t) : depthTms (ts.take (i + 1)) = max (depthTms (ts.take i)) (depthTm t) := by
 rw [take_snoc h, depthTms_app]; simp [depthTms]
theorem encTm_u : ∀ op nm so args, encTm (.mk op nm so args) = [.lit (.int .i64 op), .lit (.string nm), .lit (.int .i64 so), .sl (encTms args)] := fun _ _ _ _ => by rw [encTm]
theorem sizeTm_u : ∀ op nm so args, sizeTm (.mk op nm so args) = 1 + sizeTms args := fun _ _ _ _ => by rw [sizeTm]
theorem depthTm_u : ∀ op nm so args, depthTm (.mk op nm so args) = 1 + depthTms args := fun _ _ _ _ => by rw [depthTm]
theorem sizeTms_u : sizeTms [] = 0 := by rw [sizeTms]
theorem depthTms_u : depthTms [] = 0 := by rw [depthTms]
def big : Nat := 4611686018427387904
set_option maxHeartbeats 4000000 in
set_option maxRecDepth 100000 in
theorem con_implSize_all : ∀ (n : Nat) (t : Tm), sizeTm t < n -> sizeTm t <= big -> Con e0 106 [.agg (encTm t)] [.one (.lit (.int .i64 (sizeTm t)))] := by
 intro n
 induction n with
 | zero => intro t h; omega
 | succ n ih =>
  intro t hn hb
  obtain ⟨op, nm, so, args⟩ := t
  simp only [sizeTm, big] at hn hb
  have hal := sizeTms_len args
  refine gI 1967 Tryz.func106 ?_
  (have F := ai @encTm_u @tmz; refine gG ?_; clear F)
  (have F := @sizeTms_u; refine gL (ι := Nat) [3, 5, 9, 10] [] (fun i => [(9, A.d (.one (.lit (.int .i64 i)))), (3, A.d (.one (.lit (.int .i64 ((1 + sizeTms (args.take i) : Nat) : Int)))))]) (fun i => []) (fun i => i <= args.length) (fun i => args.length - i) (0) (by omega) (fun i hi => ?_); clear F)
  by_cases hl : i < args.length
  rotate_left
  ·have hl' : ¬ ((i : Int) < (args.length : Int)) := by omega
   have e : args.take i = args := List.take_of_length_le (by omega)
   (have F := ai @hl' (ai @e @sizeTm_u); refine gG ?_; exact gT)
  have hl' : (i : Int) < (args.length : Int) := by omega
  obtain ⟨a, ha⟩ : ∃ a, args[i]? = some a := ⟨_, List.getElem?_eq_getElem hl⟩
  have hs := sizeTms_snoc ha
  have ht := sizeTms_take args (i + 1)
  have hm := sizeTms_mem (List.mem_of_getElem? ha)
  have hw : IntKind.i64.wrap (((1 + sizeTms (args.take i) : Nat) : Int) + (sizeTm a : Int)) = ((1 + sizeTms (args.take (i + 1)) : Nat) : Int) := wrapN (by omega) (by omega) (by omega)
  have hw1 := wrap1 (k := i) (by omega)
  (have F := ai @hl' (ai @tmz @ha); refine gG ?_; clear F)
  refine gB ?_
  (have F := @tmz; refine gC (ih a (by omega) (by unfold big; omega)) ?_; clear F)
  (have F := @hw; refine gR ?_; clear F)
  (have F := ai @hw1 (ai @hw @tmz); refine gG ?_; exact ⟨i + 1, by omega, gw, gw, by omega⟩)
theorem con_implSize {t : Tm} (h : sizeTm t <= big) : Con e0 106 [.agg (encTm t)] [.one (.lit (.int .i64 (sizeTm t)))] := con_implSize_all _ t (Nat.lt_succ_self _) h
set_option maxHeartbeats 4000000 in
set_option maxRecDepth 100000 in
theorem con_implDepth_all : ∀ (n : Nat) (t : Tm), sizeTm t < n -> sizeTm t <= big -> Con e0 107 [.agg (encTm t)] [.one (.lit (.int .i64 (depthTm t)))] := by
 intro n
 induction n with
 | zero => intro t h; omega
 | succ n ih =>
  intro t hn hb
  obtain ⟨op, nm, so, args⟩ := t
  simp only [sizeTm, big] at hn hb
  have hal := sizeTms_len args
  have hds := depths_size args
  refine gI 1967 Tryz.func107 ?_
  (have F := ai @encTm_u @tmz; refine gG ?_; clear F)
  (have F := @depthTms_u; refine gL (ι := Nat) [3, 5, 9, 10] [] (fun i => [(9, A.d (.one (.lit (.int .i64 i)))), (3, A.d (.one (.lit (.int .i64 ((depthTms (args.take i) : Nat) : Int)))))]) (fun i => []) (fun i => i <= args.length) (fun i => args.length - i) (0) (by omega) (fun i hi => ?_); clear F)
  by_cases hl : i < args.length
  rotate_left
  ·have hl' : ¬ ((i : Int) < (args.length : Int)) := by omega
   have e : args.take i = args := List.take_of_length_le (by omega)
   have hw : IntKind.i64.wrap ((depthTms args : Int) + 1) = ((1 + depthTms args : Nat) : Int) := wrapN (by omega) (by omega) (by omega)
   (have F := ai @hl' (ai @e (ai @hw @depthTm_u)); refine gG ?_; exact gT)
  have hl' : (i : Int) < (args.length : Int) := by omega
  obtain ⟨a, ha⟩ : ∃ a, args[i]? = some a := ⟨_, List.getElem?_eq_getElem hl⟩
  have hs := depthTms_snoc ha
  have hm := sizeTms_mem (List.mem_of_getElem? ha)
  have hw : (if (depthTm a : Int) > (depthTms (args.take i) : Int) then (depthTm a : Int) else (depthTms (args.take i) : Int)) = ((depthTms (args.take (i + 1)) : Nat) : Int) := by
   split <;> omega
  have hw1 := wrap1 (k := i) (by omega)
  (have F := ai @hl' (ai @tmz @ha); refine gG ?_; clear F)
  refine gB ?_
  (have F := @tmz; refine gC (ih a (by omega) (by unfold big; omega)) ?_; clear F)
  (have F := @hw; refine gR ?_; clear F)
  (have F := ai @hw1 (ai @hw @tmz); refine gG ?_; exact ⟨i + 1, by omega, gw, gw, by omega⟩)
theorem con_implDepth {t : Tm} (h : sizeTm t <= big) : Con e0 107 [.agg (encTm t)] [.one (.lit (.int .i64 (depthTm t)))] := con_implDepth_all _ t (Nat.lt_succ_self _) h
set_option maxHeartbeats 4000000 in
set_option maxRecDepth 100000 in
theorem con_l1Max (a b : Int) : Con e0 167 [.one (.lit (.int .i64 a)), .one (.lit (.int .i64 b))] [.one (.lit (.int .i64 (max a b)))] := by
 refine gI 147 Tryz.func167 ?_
 by_cases h : b < a
 ·have e : max a b = a := by omega
  (have F := ai @h @e; refine gG ?_; exact gT)
 ·have e : max a b = b := by omega
  (have F := ai @h @e; refine gG ?_; exact gT)
set_option maxHeartbeats 4000000 in
set_option maxRecDepth 100000 in
theorem con_specDepth_all : ∀ (n : Nat) (t : Tm), sizeTm t < n -> sizeTm t <= big -> Con e0 127 [.agg (encTm t)] [.one (.lit (.int .i64 (depthTm t)))] := by
 intro n
 induction n with
 | zero => intro t h; omega
 | succ n ih =>
  intro t hn hb
  obtain ⟨op, nm, so, args⟩ := t
  simp only [sizeTm, big] at hn hb
  have hal := sizeTms_len args
  have hds := depths_size args
  refine gI 543 Tryz.func127 ?_
  (have F := ai @encTm_u @tmz; refine gG ?_; clear F)
  (have F := @depthTms_u; refine gL (ι := Nat) [3, 4, 9] [] (fun i => [(4, A.d (.one (.lit (.int .i64 i)))), (3, A.d (.one (.lit (.int .i64 ((depthTms (args.take i) : Nat) : Int)))))]) (fun i => []) (fun i => i <= args.length) (fun i => args.length - i) (0) (by omega) (fun i hi => ?_); clear F)
  by_cases hl : i < args.length
  rotate_left
  ·have hl' : ¬ ((i : Int) < (args.length : Int)) := by omega
   have e : args.take i = args := List.take_of_length_le (by omega)
   have hw : IntKind.i64.wrap ((depthTms args : Int) + 1) = ((1 + depthTms args : Nat) : Int) := wrapN (by omega) (by omega) (by omega)
   (have F := ai @hl' (ai @e (ai @hw (ai @depthTm_u @tmz))); refine gG ?_; exact gT)
  have hl' : (i : Int) < (args.length : Int) := by omega
  obtain ⟨a, ha⟩ : ∃ a, args[i]? = some a := ⟨_, List.getElem?_eq_getElem hl⟩
  have hs := depthTms_snoc ha
  have hm := sizeTms_mem (List.mem_of_getElem? ha)
  have hw : max (depthTms (args.take i) : Int) (depthTm a : Int) = ((depthTms (args.take (i + 1)) : Nat) : Int) := by omega
  have hw1 := wrap1 (k := i) (by omega)
  (have F := ai @hl' (ai @tmz @ha); refine gG ?_; clear F)
  refine gB ?_
  (have F := ai @tmz @ha; refine gC (ih a (by omega) (by unfold big; omega)) ?_; clear F)
  (have F := @tmz; refine gC (con_l1Max _ _) ?_; clear F)
  (have F := @hw; refine gR ?_; clear F)
  (have F := ai @hw1 (ai @hw @tmz); refine gG ?_; exact ⟨i + 1, by omega, gw, gw, by omega⟩)
theorem con_specDepth {t : Tm} (h : sizeTm t <= big) : Con e0 127 [.agg (encTm t)] [.one (.lit (.int .i64 (depthTm t)))] := con_specDepth_all _ t (Nat.lt_succ_self _) h
end Go.Proofs.YtohilkmdjdfljaaGreat
namespace Go.Proofs.YtohilkmdjdfljaaGreat
open Go.RowKit
def Lks (sb : List (Nat × A)) (mb : List (Nat × Bk)) (σ : St) : Prop := (∀ p ∈ sb, gs σ.s p.1 = p.2) ∧ ∀ p ∈ mb, gm σ.m p.1 = some p.2
def keyB (k : Nat) : A -> Bool
 | .ref k' _ => k' == k
 | .buf k' => k' == k
 | .row k' _ _ _ => k' == k
 | _ => false
def freeB (d : Nat) (sb : List (Nat × A)) (mb : List (Nat × Bk)) : Bool := sb.all (fun p => p.1 != d && !keyB d p.2) && mb.all (fun p => p.1 != d)
theorem gs_killK_keep (k t : Nat) : ∀ (s : List (Nat × A)), keyB k (gs s t) = false -> gs (killK k s) t = gs s t
 | [], _ => rfl
 | (t', x) :: r, h => by
  have ih := gs_killK_keep k t r
  by_cases ht : t = t'
  ·cases x <;> simp_all [killK, gs, keyB]
  ·have h2 : keyB k (gs r t) = false := by simpa [gs, ht] using h
   have h3 := ih h2
   clear h ih
   cases x <;> simp [killK, gs, ht, h3]
theorem litB_keep {d : Nat} {a : Option Addr} {n cap : Nat} {x : A} (h : keyB d x = false) : litB d a n cap x = x := by
 cases x <;> simp_all [litB, keyB]
section
variable {sb sb' : List (Nat × A)} {mb mb' : List (Nat × Bk)} {s : List (Nat × A)} {m : List (Nat × Bk)} {d : Nat} {α : A} {bk : Bk} {σ : St}
theorem Lks.app (h : Lks sb mb σ) (h' : Lks sb' mb' σ) : Lks (sb ++ sb') (mb ++ mb') σ :=
 ⟨fun p hp => (List.mem_append.1 hp).elim (h.1 p) (h'.1 p), fun p hp => (List.mem_append.1 hp).elim (h.2 p) (h'.2 p)⟩
theorem Lks.born (h : Lks sb mb ⟨s, m⟩) (hf : freeB d sb mb = true) : Lks sb mb ⟨(d, α) :: killK d s, (d, bk) :: remM d m⟩ := by
 simp only [freeB, Bool.and_eq_true, List.all_eq_true, bne_iff_ne, ne_eq, Bool.not_eq_true'] at hf
 refine ⟨fun p hp => ?_, fun p hp => ?_⟩
 ·have h1 := hf.1 p hp
  have h2 := h.1 p hp
  simp only [gs, h1.1, if_false]
  rw [gs_killK_keep _ _ _ (by rw [h2]; exact h1.2)]
  exact h2
 ·have h1 := hf.2 p hp
  simp only [gm, h1, if_false, gm_remM]
  exact h.2 p hp
theorem Lks.pin (h : Lks sb mb ⟨s, m⟩) (hf : freeB d sb mb = true) {a : Option Addr} {n cap : Nat} : Lks sb mb ⟨(d, α) :: mapS (litB d a n cap) (killK d s), (d, bk) :: remM d (remM d m)⟩ := by
 simp only [freeB, Bool.and_eq_true, List.all_eq_true, bne_iff_ne, ne_eq, Bool.not_eq_true'] at hf
 refine ⟨fun p hp => ?_, fun p hp => ?_⟩
 ·have h1 := hf.1 p hp
  have h2 := h.1 p hp
  simp only [gs, h1.1, if_false]
  rw [gs_mapS rfl, gs_killK_keep _ _ _ (by rw [h2]; exact h1.2), h2]
  exact litB_keep h1.2
 ·have h1 := hf.2 p hp
  simp only [gm, h1, if_false, gm_remM]
  exact h.2 p hp
theorem Lks.slot (h : Lks sb mb ⟨s, m⟩) (hf : sb.all (fun p => p.1 != d) = true) : Lks sb mb ⟨(d, α) :: s, m⟩ := by
 simp only [List.all_eq_true, bne_iff_ne, ne_eq] at hf
 refine ⟨fun p hp => ?_, h.2⟩
 simp only [gs, hf p hp, if_false]
 exact h.1 p hp
theorem Lks.own (h : Lks sb mb ⟨s, m⟩) (hf : mb.all (fun p => p.1 != d) = true) : Lks sb mb ⟨s, (d, bk) :: remM d m⟩ := by
 simp only [List.all_eq_true, bne_iff_ne, ne_eq] at hf
 refine ⟨h.1, fun p hp => ?_⟩
 simp only [gm, hf p hp, if_false, gm_remM]
 exact h.2 p hp
theorem gs_lks : ∀ {sb : List (Nat × A)} (t : Nat), (∀ p ∈ sb, gs σ.s p.1 = p.2) -> gs sb t = gs σ.s t ∨ gs sb t = .undef
 | [], t, _ => .inr rfl
 | (t', x) :: r, t, h => by
  simp only [gs]
  by_cases ht : t = t'
  ·have := h (t', x) (by simp)
   rw [if_pos ht, ht]
   exact .inl this.symm
  ·rw [if_neg ht]
   exact gs_lks t fun p hp => h p (by simp [hp])
theorem gm_lks : ∀ {mb : List (Nat × Bk)} (t : Nat) (bk : Bk), (∀ p ∈ mb, gm σ.m p.1 = some p.2) -> gm mb t = some bk -> gm σ.m t = some bk
 | [], t, bk, _, h => by simp [gm] at h
 | (t', x) :: r, t, bk, h, hg => by
  simp only [gm] at hg
  by_cases ht : t = t'
  ·rw [if_pos ht] at hg
   injection hg with hg
   have := h (t', x) (by simp)
   rw [ht, this, hg]
  ·rw [if_neg ht] at hg
   exact gm_lks t bk (fun p hp => h p (by simp [hp])) hg
end
section
variable {e : Env} {mask : Nat} {Q : PX -> St -> Prop} {ds : List (Option Nat)}
theorem runs0_mono {os : List Oper} {σ : St} {K K' : St -> Prop} (h : Runs e ds 0 os σ K) (hk : ∀ σ', K σ' -> K' σ') : Runs e ds 0 os σ K' := by
 simp only [Runs] at h ⊢
 exact fun he U w0 S0 nt a w ops Q hds hd hQ hs => h he U w0 S0 nt a w ops Q hds hd (fun a w σ' k1 k2 => hQ a w σ' (hk σ' k1) k2) hs
def backB (l : List Oper) : Bool := (List.range l.length).all fun i => match l[i]? with
 | none => true
 | some o => o.guard.isNone && o.after.toList.all fun e => !Region.binds .any e || decide (e.on < i)
def depsOf (o : Oper) : List Nat := (o.after.toList.filter fun e => Region.binds .any e).map (·.on)
def depsAt (L : List Oper) (j : Nat) : List Nat := match L[j]? with
 | some o => depsOf o
 | none => []
def StepsG (e : Env) (ds : List (Option Nat)) (L : List Oper) (B : St -> Prop) (P : Nat -> St -> Prop) : Nat -> List Oper -> Prop
 | _, [] => True
 | i, o :: os => (∀ s m, B ⟨s, m⟩ -> (∀ j ∈ depsOf o, P j ⟨s, m⟩) -> Runs e ds 0 [o] ⟨s, m⟩ (fun σ' => B σ' ∧ P i σ' ∧ ∀ j, j ≠ i -> i ∉ depsAt L j -> P j ⟨s, m⟩ -> P j σ')) ∧ StepsG e ds L B P (i + 1) os
theorem StepsG.get {L : List Oper} {B : St -> Prop} {P : Nat -> St -> Prop} : ∀ {l : List Oper} {k i : Nat} {o : Oper}, StepsG e ds L B P k l -> l[i]? = some o -> ∀ s m, B ⟨s, m⟩ -> (∀ j ∈ depsOf o, P j ⟨s, m⟩) -> Runs e ds 0 [o] ⟨s, m⟩ (fun σ' => B σ' ∧ P (k + i) σ' ∧ ∀ j, j ≠ k + i -> k + i ∉ depsAt L j -> P j ⟨s, m⟩ -> P j σ')
 | [], k, i, o, _, h => by simp at h
 | x :: l, k, 0, o, h, ho => by
  simp only [List.getElem?_cons_zero, Option.some.injEq] at ho
  subst ho
  exact h.1
 | x :: l, k, i + 1, o, h, ho => by
  have := StepsG.get (l := l) (k := k + 1) (i := i) (o := o) h.2 (by simpa using ho)
  rw [show k + 1 + i = k + (i + 1) by omega] at this
  exact this
theorem runsT_good {l : List Oper} {K B : St -> Prop} {P : Nat -> St -> Prop} (hb : backB l = true) (hstep : StepsG e ds l B P 0 l) (hK : ∀ s m, B ⟨s, m⟩ -> (∀ i, i < l.length -> P i ⟨s, m⟩) -> K ⟨s, m⟩) :
  ∀ (f : Nat) (listed : Array Bool) (σ : St), listed.size = l.length -> (List.range l.length).countP (fun i => !listed.getD i true) = f -> B σ -> (∀ j, listed.getD j false = true -> P j σ ∧ ∀ q ∈ depsAt l j, listed.getD q false = true) -> RunsT e ds l.toArray K f listed σ := by
 have hback : ∀ i o, l[i]? = some o -> o.guard = none ∧ ∀ e ∈ o.after, Region.binds .any e = true -> e.on < i := fun i o ho => by
  have h1 := List.all_eq_true.1 hb i (List.mem_range.2 (List.getElem?_eq_some_iff.1 ho).1)
  rw [ho] at h1
  simp only [Bool.and_eq_true, Option.isNone_iff_eq_none, List.all_eq_true, Bool.or_eq_true, Bool.not_eq_true', decide_eq_true_eq] at h1
  refine ⟨h1.1, fun e he hbe => ?_⟩
  rcases h1.2 e (Array.mem_toList_iff.2 he) with h2 | h2
  ·rw [hbe] at h2; cases h2
  ·exact h2
 have hfirst : ∀ (listed : Array Bool), listed.size = l.length -> Region.ready .any l.toArray listed = [] -> ∀ i, i < l.length -> listed.getD i false = true := fun listed hsz h0 i => by
  induction i using Nat.strongRecOn with
  | _ i ih =>
   intro hi
   rw [<- getD_ftt (by omega : i < listed.size)]
   cases hun : listed.getD i true with
   | true => rfl
   | false =>
   obtain ⟨o, ho⟩ : ∃ o, l[i]? = some o := ⟨_, List.getElem?_eq_getElem hi⟩
   have := (mem_ready (ops := l.toArray) (md := .any)).2 ⟨hun, o, by simpa using ho, fun e he hbe => ih e.on ((hback i o ho).2 e he hbe) (by have := (hback i o ho).2 e he hbe; omega)⟩
   rw [h0] at this
   cases this
 intro f
 induction f with
 | zero =>
  intro listed σ hsz hc hB hP
  have hall : ∀ i, i < l.length -> listed.getD i true = true := fun i hi => by
   have := List.countP_eq_zero.1 hc i (List.mem_range.2 hi)
   simpa using this
  refine ⟨?_, hK σ.s σ.m hB fun i hi => (hP i (by rw [<- getD_ftt (by omega)]; exact hall i hi)).1⟩
  cases hr : Region.ready .any l.toArray listed with
  | nil => rfl
  | cons i r =>
   have hi : i ∈ Region.ready .any l.toArray listed := by rw [hr]; simp
   obtain ⟨hun, oi, hoi, _⟩ := mem_ready.1 hi
   have hil : i < l.length := by
    have := (Array.getElem?_eq_some_iff.1 hoi).1
    simpa using this
   rw [hall i hil] at hun
   cases hun
 | succ f ih =>
  intro listed σ hsz hc hB hP
  refine ⟨fun h0 => hK σ.s σ.m hB fun i hi => (hP i (hfirst listed hsz h0 i hi)).1, fun i hi => ?_⟩
  obtain ⟨hun, o, hoi, hall⟩ := mem_ready.1 hi
  have ho : l[i]? = some o := by simpa using hoi
  have hil : i < l.length := (List.getElem?_eq_some_iff.1 ho).1
  have hls : i < listed.size := by omega
  refine ⟨o, hoi, (hback i o ho).1, stepOk_of_runs (hback i o ho).1 ?_⟩
  have h1 := StepsG.get hstep ho σ.s σ.m hB fun j hj => by
   simp only [depsOf, List.mem_map, List.mem_filter] at hj
   obtain ⟨e, ⟨he, hbe⟩, rfl⟩ := hj
   exact (hP e.on (hall e (Array.mem_toList_iff.1 he) hbe)).1
  rw [Nat.zero_add] at h1
  refine runs0_mono h1 fun σ' ⟨k1, k2, k3⟩ => ih _ σ' (by simpa using hsz) ?_ k1 fun j hj => ?_
  ·have h1 : (List.range l.length).countP (fun j => !(listed.setIfInBounds i true).getD j true) + 1 = (List.range l.length).countP (fun j => !listed.getD j true) := by
    have hperm := List.perm_cons_erase (List.mem_range.2 hil)
    rw [hperm.countP_eq, hperm.countP_eq, List.countP_cons, List.countP_cons]
    have hcong : ((List.range l.length).erase i).countP (fun j => !(listed.setIfInBounds i true).getD j true) = ((List.range l.length).erase i).countP (fun j => !listed.getD j true) := by
     refine List.countP_congr fun j hj => ?_
     have hne : j ≠ i := fun e => by
      subst e
      exact List.Nodup.not_mem_erase (List.nodup_range) hj
     rw [getD_set_ne true (Ne.symm hne)]
    rw [hcong, hun]
    simp [hls]
   omega
  ·by_cases hji : j = i
   ·subst hji
    refine ⟨k2, fun q hq => ?_⟩
    have hda : depsAt l j = depsOf o := by unfold depsAt; rw [ho]
    rw [hda] at hq
    simp only [depsOf, List.mem_map, List.mem_filter] at hq
    obtain ⟨e, ⟨he, hbe⟩, rfl⟩ := hq
    have hlt := (hback j o ho).2 e (Array.mem_toList_iff.1 he) hbe
    rw [getD_set_ne false (by omega)]
    exact hall e (Array.mem_toList_iff.1 he) hbe
   ·rw [getD_set_ne false (Ne.symm hji)] at hj
    obtain ⟨p1, p2⟩ := hP j hj
    have hni : i ∉ depsAt l j := fun hm => by
     have h2 := p2 i hm
     rw [<- getD_ftt hls, hun] at h2
     cases h2
    refine ⟨k3 j hji hni p1, fun q hq => ?_⟩
    by_cases hqi : q = i
    ·subst hqi; exact absurd hq hni
    ·rw [getD_set_ne false (Ne.symm hqi)]; exact p2 q hq
theorem gGd {id : Nat} {l : List Oper} {s : List (Nat × A)} {m : List (Nat × Bk)} (B : St -> Prop) (P : Nat -> St -> Prop) (hB : B ⟨s, m⟩) (hS : StepsG e (l.map (·.dst)) l B P 0 l) (hK : ∀ s' m', B ⟨s', m'⟩ -> (∀ i, i < l.length -> P i ⟨s', m'⟩) -> ∃ sf mf, Lks sf mf ⟨s', m'⟩ ∧ Q .normal ⟨sf, mf⟩)
  (hb : backB l = true := by decide +kernel) (hT : regT l.toArray 0 = true := by decide +kernel) : pwp e mask (.region id l.toArray true) ⟨s, m⟩ Q := fun he U w0 S0 nt a w hok hs => by
 refine region_T he hT (K := fun σ' => ∃ sf mf, Lks sf mf σ' ∧ Q .normal ⟨sf, mf⟩) (fun a w σ' ⟨sf, mf, h1, h2⟩ h3 => ⟨⟨sf, mf⟩, h2, h3.weak (fun t => gs_lks t h1.1) (fun t bk => gm_lks t bk h1.2)⟩) (okDst hok) hs ?_
 simp only [List.take_zero, Runs]
 have := runsT_good (K := fun σ' => ∃ sf mf, Lks sf mf σ' ∧ Q .normal ⟨sf, mf⟩) hb hS hK l.length (headArr l.length 0) ⟨s, m⟩ (by simp [headArr]) (by
  rw [List.countP_eq_length.2]
  ·simp
  ·intro i hi
   have hi' := List.mem_range.1 hi
   simp [headArr, hi']) hB (fun j hj => by
   have h0 : (headArr l.length 0).getD j false = false := by
    by_cases hjl : j < l.length
    ·simp [headArr, hjl]
    ·simp [headArr, hjl]
   rw [h0] at hj
   cases hj)
 simpa using this
def PG {X : Type} (S : X -> Nat -> List (Nat × A)) (M : X -> Nat -> List (Nat × Bk)) (i : Nat) (σ : St) : Prop := ∃ x, Lks (S x i) (M x i) σ
section
variable {X : Type} {S : X -> Nat -> List (Nat × A)} {M : X -> Nat -> List (Nat × Bk)} {d i : Nat} {L : List Oper} {s : List (Nat × A)} {m : List (Nat × Bk)} {α : A} {bk : Bk}
theorem PG.slot (hf : ∀ j, j ≠ i -> i ∉ depsAt L j -> ∀ x, (S x j).all (fun p => p.1 != d) = true) : ∀ j, j ≠ i -> i ∉ depsAt L j -> PG S M j ⟨s, m⟩ -> PG S M j ⟨(d, α) :: s, m⟩ := fun j h1 h2 ⟨x, h⟩ => ⟨x, h.slot (hf j h1 h2 x)⟩
theorem PG.born (hf : ∀ j, j ≠ i -> i ∉ depsAt L j -> ∀ x, freeB d (S x j) (M x j) = true) : ∀ j, j ≠ i -> i ∉ depsAt L j -> PG S M j ⟨s, m⟩ -> PG S M j ⟨(d, α) :: killK d s, (d, bk) :: remM d m⟩ := fun j h1 h2 ⟨x, h⟩ => ⟨x, h.born (hf j h1 h2 x)⟩
theorem PG.pin (hf : ∀ j, j ≠ i -> i ∉ depsAt L j -> ∀ x, freeB d (S x j) (M x j) = true) {a : Option Addr} {n cap : Nat} : ∀ j, j ≠ i -> i ∉ depsAt L j -> PG S M j ⟨s, m⟩ -> PG S M j ⟨(d, α) :: mapS (litB d a n cap) (killK d s), (d, bk) :: remM d (remM d m)⟩ := fun j h1 h2 ⟨x, h⟩ => ⟨x, h.pin (hf j h1 h2 x)⟩
end
end
theorem turn_apart {e : Env} {σ : St} {k k' ety ety' sz sz' cap cap' : Nat} {ad ad' : Option Addr} {rows rows' : List (List C)} (hne : k ≠ k') (h : gm σ.m k = some (.buf (some (ad, cap)) ety sz rows)) (h' : gm σ.m k' = some (.buf (some (ad', cap')) ety' sz' rows')) (hr : 0 < rows.length) (hr' : 0 < rows'.length) : Turn e σ (fun σ' => σ' = σ ∧ ad ≠ ad') := fun he U w0 S0 nt act w hs => by
 refine ⟨σ, ⟨rfl, fun e => ?_⟩, hs⟩
 obtain ⟨S, L, h1⟩ := hs
 have key : ∀ {k ety sz cap : Nat} {ad : Option Addr} {rows : List (List C)}, gm σ.m k = some (.buf (some (ad, cap)) ety sz rows) -> 0 < rows.length -> ∃ g, vblk (L.v k) = some g ∧ ad = some ⟨g, 0, none⟩ := fun {k ety sz cap ad rows} h hr => by
  obtain ⟨o1, o2⟩ := h1.cls.own k _ h
  have o1 := o1 _ rfl
  rcases o2.2.2 with ⟨h3, _⟩ | ⟨g, cap2, cur, hv, hc, _⟩
  ·rw [h3] at hr; simp at hr
  ·refine ⟨g, by rw [hv]; simp [vblk]; omega, ?_⟩
   rw [o1] at hv
   injection hv with hv _ _
 obtain ⟨g, v1, e1⟩ := key h hr
 obtain ⟨g', v2, e2⟩ := key h' hr'
 rw [e1, e2] at e
 injection e with e
 injection e with e _ _
 rw [<- e] at v2
 exact hne (h1.cls.inj k k' _ _ g h h' v1 v2)
theorem pA {e : Env} {mask : Nat} {Q : PX -> St -> Prop} {c : Code} {s : List (Nat × A)} {m : List (Nat × Bk)} {ety ety' sz sz' cap cap' : Nat} {ad ad' : Option Addr} {rows rows' : List (List C)} (k k' : Nat) (hK : ad ≠ ad' -> pwp e mask c ⟨s, m⟩ Q) (hr : 0 < rows.length) (hr' : 0 < rows'.length) (hne : k ≠ k' := by decide) (h : gm m k = some (.buf (some (ad, cap)) ety sz rows) := by simp only [pz, ↓reduceIte, Nat.reduceEqDiff, Nat.reduceAdd, Nat.reduceSub, Nat.reduceMul, Nat.reduceLeDiff, Nat.reduceBEq, Bool.false_eq_true, decide_true, decide_false, Int.reduceLE, Int.reduceToNat, Int.reduceLT, Int.reduceEq, eq_self, Nat.reduceShiftRight, Nat.reduceAnd, Nat.reduceBneDiff]; exact rfl) (h' : gm m k' = some (.buf (some (ad', cap')) ety' sz' rows') := by simp only [pz, ↓reduceIte, Nat.reduceEqDiff, Nat.reduceAdd, Nat.reduceSub, Nat.reduceMul, Nat.reduceLeDiff, Nat.reduceBEq, Bool.false_eq_true, decide_true, decide_false, Int.reduceLE, Int.reduceToNat, Int.reduceLT, Int.reduceEq, eq_self, Nat.reduceShiftRight, Nat.reduceAnd, Nat.reduceBneDiff]; exact rfl) : pwp e mask c ⟨s, m⟩ Q :=
 pwp_turn (turn_apart hne h h' hr hr') fun σ' ⟨hσ, ha⟩ => by subst hσ; exact hK ha
end Go.Proofs.YtohilkmdjdfljaaGreat
namespace Go.Proofs.YtohilkmdjdfljaaGreat
open Go.RowKit
def ordS (s : Srt) (f : (Nat -> Option Addr × Nat) × C × C × C) : Nat -> List (Nat × A)
 | 0 => [(20, .d (.agg (encSrt s)))]
 | 1 => [(21, .d (.one (.sl (nR (up s)))))]
 | 2 => [(22, .d (.one (.lit (.int .i64 s.names.length))))]
 | 3 => [(23, .d (.one (.lit (.slice (f.1 23).1 s.names.length (f.1 23).2))))]
 | 4 => [(24, .d (.one (.lit (.int .i64 s.names.length))))]
 | 5 => [(25, .d (.one (.lit (.slice (f.1 25).1 s.names.length (f.1 25).2))))]
 | 6 => [(26, .d (.agg [.sl (nR (up s)), .lit (.slice (f.1 23).1 s.names.length (f.1 23).2), .lit (.slice (f.1 25).1 s.names.length (f.1 25).2)]))]
 | 7 => [(5, .ref 5 0)]
 | 8 => [(5, .ref 5 0)]
 | _ => []
def ordM (s : Srt) (f : (Nat -> Option Addr × Nat) × C × C × C) : Nat -> List (Nat × Bk)
 | 3 => [(23, .buf (some (f.1 23)) 3 1 (nR (List.replicate s.names.length 0)))]
 | 5 => [(25, .buf (some (f.1 25)) 3 1 (nR (List.replicate s.names.length 0)))]
 | 6 => [(23, .buf (some (f.1 23)) 3 1 (nR (List.replicate s.names.length 0))), (25, .buf (some (f.1 25)) 3 1 (nR (List.replicate s.names.length 0)))]
 | 7 => [(5, .var none [f.2.1, f.2.2.1, f.2.2.2])]
 | 8 => [(5, .var none [.sl (nR (up s)), .lit (.slice (f.1 23).1 s.names.length (f.1 23).2), .lit (.slice (f.1 25).1 s.names.length (f.1 25).2)]), (23, .buf (some (f.1 23)) 3 1 (nR (List.replicate s.names.length 0))), (25, .buf (some (f.1 25)) 3 1 (nR (List.replicate s.names.length 0)))]
 | _ => []
theorem ord_0 : (∀ (u l : List Nat), downs u 0 l = l) ∧ ∀ n, kFill n 0 = List.replicate n 0 := ⟨fun _ _ => rfl, fun n => by simp [kFill]⟩
theorem ordI_0 (i : Nat) (l : List Nat) : downIn i l [] = l := rfl
theorem ordI_step {ks : List Nat} {j k : Nat} (h : ks[j]? = some k) (i : Nat) (l : List Nat) : downIn i l (ks.take (j + 1)) = (downIn i l (ks.take j)).set k ((downIn i l (ks.take j)).getD k 0 ||| 2 ^ i) := foldl_take h l
def ordB1 (s : Srt) : List (Nat × A) := [(1, .ref 1 0), (2, .ref 2 0), (3, .d (.one (.lit (.bool false)))), (4, .d (.one (.lit (.int .i64 s.names.length))))]
def ordB2 (s : Srt) : List (Nat × Bk) := [(1, .var none (encSrt s)), (2, .var none [.sl [], .sl [], .sl []])]
def ordB (s : Srt) (σ : St) : Prop := Lks (ordB1 s) (ordB2 s) σ
section
variable {s : Srt}
set_option maxHeartbeats 4000000 in
set_option maxRecDepth 100000 in
theorem con_newOrder_not (hok : okSrt s) (hs : ¬ SortsOk s) : Con e0 93 [.agg (encSrt s)] [.agg [.sl [], .sl [], .sl []], .one (.lit (.bool false))] := by
 have cI := con_implSorts hok
 rw [isSorts_false hs, encSrt] at cI
 rw [encSrt]
 refine gI (ts := [.cell 2 151, .slot 3]) 569543224310601128703 Tryz.func93 ?_
 (have F := @e0P; refine gG ?_; clear F)
 refine gB ?_
 (have F := @e0P; refine gC (cI) ?_; clear F)
 (have F := @e0P; refine gR ?_; clear F)
 (have F := @e0P; refine gG ?_; exact gTd)
set_option maxHeartbeats 8000000 in
set_option maxRecDepth 100000 in
theorem con_newOrder (hok : okSrt s) (hs : SortsOk s) : Con e0 93 [.agg (encSrt s)] [.agg (encOrd s), .one (.lit (.bool true))] := by
 have cI := con_implSorts hok
 have hSI := SortsOk.subsIn hs.subs
 have cA := con_implAbove hs.n1 hs.n8 hs.m16 hSI
 rw [isSorts_true hs] at cI
 rw [encSrt] at cI ⊢
 refine gI (ts := [.cell 2 151, .slot 3]) 569543224310601128703 Tryz.func93 ?_
 (have F := @e0P; refine gG ?_; clear F)
 refine gB ?_
 (have F := @e0P; refine gC (cI) ?_; clear F)
 (have F := @e0P; refine gR ?_; clear F)
 (have F := @e0P; have NN : StopAt 4 := trivial; refine gGn ?_; clear F NN)
 have hmx : ((s.names.length : Int) <= (maxApp : Int)) = True := eq_true (by have := hs.n8; unfold maxApp; omega)
 refine gGd (ordB s) (PG (ordS s) (ordM s)) ⟨by simp [ordB1, gs], by simp [ordB2, gm, encSrt]⟩ ⟨?_, ?_, ?_, ?_, ?_, ?_, ?_, ?_, ?_, trivial⟩ ?_
 rotate_right
 all_goals (intro s' m' hB)
 all_goals (have g1 : gs s' 1 = .ref 1 0 := hB.1 (1, .ref 1 0) (by simp [ordB1]))
 all_goals (have g4 : gs s' 4 = .d (.one (.lit (.int .i64 s.names.length))) := hB.1 (4, _) (by simp [ordB1]))
 all_goals (have k1 : gm m' 1 = some (.var none [.sl (s.names.map encStr), .sl (s.subs.map encSub)]) := hB.2 (1, _) (by simp [ordB2, encSrt]))
 ·intro hP
  clear g1 g4 k1
  obtain ⟨f, h⟩ := hP 8 (by decide)
  refine ⟨_, _, h.app hB, ?_⟩
  generalize hp : f.1 23 = p
  generalize hq : f.1 25 = q
  obtain ⟨a3, c3⟩ := p
  obtain ⟨a5, c5⟩ := q
  simp only [ordS, ordM, ordB1, ordB2, List.cons_append, List.nil_append, encSrt, hp, hq]
  clear hp hq h hB hP s' m' f
  refine ⟨_, Wk.refl _, ?_⟩
  have hU := up_ok hSI
  have lU := nR_len (l := up s)
  rw [hU.1] at lU
  have h8 := hs.n8
  have rU := nR_rows (l := up s)
  (have F := @e0P; have NN : StopAt 5 := trivial; refine gGn ?_; clear F NN)
  have hn1 := hs.n1
  have l00 : 0 < (nR (List.replicate s.names.length 0)).length := by rw [nR_len, List.length_replicate]; omega
  refine pA 23 25 (fun hne => ?_) l00 l00
  have hn5 : ∀ p, (a5 = a3 ∧ p) = False := fun p => eq_false fun e => hne e.1.symm
  (have F := @lU; refine gG ?_; clear F)
  (have F := @ord_0; refine gL (ι := Nat) [6, 7, 9, 30, 31, 36, 37, 38, 39] [23, 25] (fun i => [(30, A.d (.one (.lit (.int .i64 i))))]) (fun i => [(23, .buf (some (a3, c3)) 3 1 (nR (downs (up s) i (List.replicate s.names.length 0)))), (25, .buf (some (a5, c5)) 3 1 (nR (kFill s.names.length i)))]) (fun i => i <= s.names.length) (fun i => s.names.length - i) (0) (Nat.zero_le _) (fun i hi => ?_); clear F)
  have hDi := UpOk.downs hU i (l := List.replicate s.names.length 0) hi (UpOk.zeros _)
  have lK := nR_len (l := kFill s.names.length i)
  rw [kFill_len hi] at lK
  by_cases hlt : i < s.names.length
  ·have q1 : (i : Int) < (s.names.length : Int) := by omega
   have hw := wrap1 (k := i) (by omega)
   obtain ⟨gi, bi⟩ := hU.get hlt
   have r1 := nR_get gi
   have p256 : 2 ^ s.names.length <= 256 := Nat.le_trans (Nat.pow_le_pow_right (by omega) h8) (by decide)
   have cL := con_listOf (a := (up s).getD i 0) (by omega)
   have hdn : downs (up s) (i + 1) (List.replicate s.names.length 0) = downIn i (downs (up s) i (List.replicate s.names.length 0)) (listOf ((up s).getD i 0)) := rfl
   have hks := listOf_lt bi
   have lks := nR_len (l := listOf ((up s).getD i 0))
   have rks := nR_rows (l := listOf ((up s).getD i 0))
   have hks16 : (listOf ((up s).getD i 0)).length <= 64 := Nat.le_trans (bitsTo_len _ _) (by decide)
   have hsh := shl_k (k := i) (by omega)
   (have F := ai @q1 (ai @lU (ai @r1 @rU)); refine gG ?_; clear F)
   refine gB ?_
   (have F := @e0P; refine gC (cL) ?_; clear F)
   (have F := @lks; refine gR ?_; clear F)
   generalize listOf ((up s).getD i 0) = ks at hdn hks lks rks hks16 ⊢
   generalize downs (up s) i (List.replicate s.names.length 0) = l at hdn hDi ⊢
   (have F := @lks; refine gG ?_; clear F)
   (have F := @ordI_0; refine gL (ι := Nat) [9, 38, 39] [23] (fun j => [(38, A.d (.one (.lit (.int .i64 j))))]) (fun j => [(23, .buf (some (a3, c3)) 3 1 (nR (downIn i l (ks.take j))))]) (fun j => j <= ks.length) (fun j => ks.length - j) (0) (Nat.zero_le _) (fun j hj => ?_); clear F)
   by_cases hlj : j < ks.length
   ·have q2 : (j : Int) < (ks.length : Int) := by omega
    have hwj := wrap1 (k := j) (by omega)
    obtain ⟨k, hk⟩ : ∃ k, ks[j]? = some k := ⟨_, List.getElem?_eq_getElem hlj⟩
    have hkn := hks k (List.mem_of_getElem? hk)
    have r2 := nR_get hk
    have hst := ordI_step hk i l
    have hV := UpOk.downIn hlt hDi (ks := ks.take j) fun q hq => hks q (List.mem_of_mem_take hq)
    generalize downIn i l (ks.take j) = v at hst hV ⊢
    obtain ⟨gk, bk⟩ := hV.get hkn
    have r3 := nR_get gk
    have l3 := nR_len (l := v)
    rw [hV.1] at l3
    have l4 := nR_rows (l := v)
    have l5 := nR_set (l := v) k (v.getD k 0 ||| 2 ^ i)
    have p2 : 2 ^ i < 4611686018427387904 := pow_lt62 (by omega)
    have hor := bits_or (a := v.getD k 0) (b := 2 ^ i) (by omega) p2
    (have F := ai @q2 (ai @r2 (ai @rks (ai @lks (ai @r3 (ai @l3 (ai @l4 (ai @l5 (ai @hsh (ai @hor (ai @hkn (ai @natInt (ai @hwj @hst)))))))))))); refine gG ?_; exact ⟨j + 1, hlj, gw, gw, by omega⟩)
   obtain rfl : j = ks.length := by omega
   have q2 : ¬ ((ks.length : Int) < (ks.length : Int)) := by omega
   rw [List.take_length, <- hdn]
   have l6 := nR_rows (l := kFill s.names.length i)
   have l7 := nR_set (l := kFill s.names.length i) i i
   rw [kFill_set hlt] at l7
   obtain ⟨y, gy⟩ : ∃ y, (kFill s.names.length i)[i]? = some y := ⟨_, List.getElem?_eq_getElem (by rw [kFill_len hi]; exact hlt)⟩
   have r5 := nR_get gy
   (have F := ai @q2 (ai @hn5 (ai @lK (ai @l6 (ai @l7 (ai @r5 (ai @hlt (ai @hw @natInt))))))); refine gG ?_; exact ⟨i + 1, hlt, gw, gw, by omega⟩)
  obtain rfl : i = s.names.length := by omega
  have q1 : ¬ ((s.names.length : Int) < (s.names.length : Int)) := by omega
  rw [kFill_end, show downs (up s) s.names.length (List.replicate s.names.length 0) = down s from rfl]
  clear hDi lK
  have hK := KOk.start s.names.length
  (have F := @q1; refine gG ?_; clear F)
  (have F := @kIter_0; refine gL (ι := Nat) [11, 12, 62, 63, 65, 66, 67, 68] [25] (fun j => [(62, A.d (.one (.lit (.int .i64 j))))]) (fun j => [(25, .buf (some (a5, c5)) 3 1 (nR (kIter s.subs j (List.range s.names.length))))]) (fun j => j <= s.names.length) (fun j => s.names.length - j) (0) (Nat.zero_le _) (fun j hj => ?_); clear F)
  have hKj := KOk.iter hSI j hK
  have l0 := nR_len (l := kIter s.subs j (List.range s.names.length))
  rw [hKj.1] at l0
  by_cases hlj : j < s.names.length
  rotate_left
  ·obtain rfl : j = s.names.length := by omega
   have q2 : ¬ ((s.names.length : Int) < (s.names.length : Int)) := by omega
   rw [show kIter s.subs s.names.length (List.range s.names.length) = kinds s from rfl]
   (have F := @q2; have NN : StopAt 25 := trivial; refine gGn ?_; clear F NN)
   have lD := nR_len (l := down s)
   rw [(down_ok hSI).1] at lD
   have lK := nR_len (l := kinds s)
   rw [(kinds_ok hSI).1] at lK
   refine pD 23 [] [5] ?_ (hr := by simp only [pz, ↓reduceIte, Nat.reduceEqDiff, Nat.reduceAdd, Nat.reduceSub, Nat.reduceMul, Nat.reduceLeDiff, Nat.reduceBEq, Bool.false_eq_true, decide_true, decide_false, Int.reduceLE, Int.reduceToNat, Int.reduceLT, Int.reduceEq, eq_self, Nat.reduceShiftRight, Nat.reduceAnd, Nat.reduceBneDiff, lD, hn5, if_false]; exact rfl)
   refine pD 25 [] [5] ?_ (hr := by simp only [pz, ↓reduceIte, Nat.reduceEqDiff, Nat.reduceAdd, Nat.reduceSub, Nat.reduceMul, Nat.reduceLeDiff, Nat.reduceBEq, Bool.false_eq_true, decide_true, decide_false, Int.reduceLE, Int.reduceToNat, Int.reduceLT, Int.reduceEq, eq_self, Nat.reduceShiftRight, Nat.reduceAnd, Nat.reduceBneDiff, lK, hn5, if_false]; exact rfl)
   (have F := @encOrd_u; refine gG ?_; exact gTd)
  have q2 : (j : Int) < (s.names.length : Int) := by omega
  have hwj := wrap1 (k := j) (by omega)
  have hnx : kIter s.subs (j + 1) (List.range s.names.length) = s.subs.foldl kSub (kIter s.subs j (List.range s.names.length)) := rfl
  generalize kIter s.subs j (List.range s.names.length) = u at hKj hnx l0 ⊢
  (have F := ai @l0 @q2; refine gG ?_; clear F)
  have hm16 := hs.m16
  (have F := @kSub_0; refine gL (ι := Nat) [11, 12, 67, 68] [25] (fun i => [(67, A.d (.one (.lit (.int .i64 i))))]) (fun i => [(25, .buf (some (a5, c5)) 3 1 (nR ((s.subs.take i).foldl kSub u)))]) (fun i => i <= s.subs.length) (fun i => s.subs.length - i) (0) (Nat.zero_le _) (fun i hi => ?_); clear F)
  by_cases hli : i < s.subs.length
  rotate_left
  ·obtain rfl : i = s.subs.length := by omega
   have q3 : ¬ ((s.subs.length : Int) < (s.subs.length : Int)) := by omega
   rw [List.take_length, <- hnx]
   (have F := ai @q3 @hwj; refine gG ?_; exact ⟨j + 1, hlj, gw, gw, by omega⟩)
  have q3 : (i : Int) < (s.subs.length : Int) := by omega
  have hwi := wrap1 (k := i) (by omega)
  obtain ⟨p, hp⟩ : ∃ p, s.subs[i]? = some p := ⟨_, List.getElem?_eq_getElem hli⟩
  have hps := hSI p (List.mem_of_getElem? hp)
  have hst := kSub_step hp u
  have hUi := KOk.foldl hKj (hSI.take i)
  generalize (s.subs.take i).foldl kSub u = v at hUi hst ⊢
  obtain ⟨g1, b1⟩ := hUi.get (i := p.1.toNat) (by omega)
  obtain ⟨g2, b2⟩ := hUi.get (i := p.2.toNat) (by omega)
  have l1 := nR_get g1
  have l2 := nR_get g2
  have l3 := nR_len (l := v)
  rw [hUi.1] at l3
  have l4 := nR_rows (l := v)
  have hmin : (if (v.getD p.2.toNat 0 : Int) < (v.getD p.1.toNat 0 : Int) then (v.getD p.2.toNat 0 : Int) else (v.getD p.1.toNat 0 : Int)) = ((min (v.getD p.1.toNat 0) (v.getD p.2.toNat 0) : Nat) : Int) := by
   split <;> omega
  generalize hmn : min (v.getD p.1.toNat 0) (v.getD p.2.toNat 0) = mn at hmin hst
  have l5 := nR_set (l := v) p.1.toNat mn
  have l6 := nR_set (l := v.set p.1.toNat mn) p.2.toNat mn
  have l7 := nR_len (l := v.set p.1.toNat mn)
  rw [List.length_set, hUi.1] at l7
  have l8 := nR_rows (l := v.set p.1.toNat mn)
  obtain ⟨x9, g9⟩ : ∃ x, (v.set p.1.toNat mn)[p.2.toNat]? = some x := ⟨_, List.getElem?_eq_getElem (by rw [List.length_set, hUi.1]; omega)⟩
  have l9 := nR_get g9
  have i1 : 0 <= p.1 := hps.1
  have i2 : 0 <= p.2 := hps.2.2.1
  have i3 : p.1.toNat < s.names.length := by omega
  have i4 : p.2.toNat < s.names.length := by omega
  have hst : (s.subs.take (i + 1)).foldl kSub u = (v.set p.1.toNat mn).set p.2.toNat mn := by rw [hst]; unfold kSub; rw [hmn]
  (have F := ai @q3 (ai @hp (ai @encSub_u (ai @hn5 (ai @l1 (ai @l2 (ai @l3 (ai @l4 (ai @l5 (ai @l6 (ai @l7 (ai @l8 (ai @l9 (ai @i1 (ai @i2 (ai @i3 (ai @i4 (ai @hmin (ai @hwi @hst)))))))))))))))))); refine gG ?_; exact ⟨i + 1, hli, gw, gw, by omega⟩)
 ·intro _
  refine (have F := ai g1 k1; gO3 ?_)
  exact ⟨hB.slot rfl, ⟨(fun _ => (none, 0), .sl [], .sl [], .sl []), by simp [ordS, gs, encSrt], by simp [ordM]⟩, PG.slot (by intro j h1 h2 x; rcases j with _ | _ | _ | _ | _ | _ | _ | _ | _ | j <;> first | rfl | exact absurd rfl h1 | exact absurd (by decide) h2)⟩
 ·intro hP
  obtain ⟨f, h0, _⟩ := hP 0 (by decide)
  have g20 : gs s' 20 = .d (.agg (encSrt s)) := h0 (_, _) (by simp [ordS])
  refine (have F := g20; gC cA ?_)
  refine runs_nil ?_
  exact ⟨hB.slot rfl, ⟨(fun _ => (none, 0), .sl [], .sl [], .sl []), by simp [ordS, gs], by simp [ordM]⟩, PG.slot (by intro j h1 h2 x; rcases j with _ | _ | _ | _ | _ | _ | _ | _ | _ | j <;> first | rfl | exact absurd rfl h1 | exact absurd (by decide) h2)⟩
 ·intro _
  refine (have F := g4; gO3 ?_)
  exact ⟨hB.slot rfl, ⟨(fun _ => (none, 0), .sl [], .sl [], .sl []), by simp [ordS, gs], by simp [ordM]⟩, PG.slot (by intro j h1 h2 x; rcases j with _ | _ | _ | _ | _ | _ | _ | _ | _ | j <;> first | rfl | exact absurd rfl h1 | exact absurd (by decide) h2)⟩
 ·intro hP
  obtain ⟨f, h0, _⟩ := hP 2 (by decide)
  have g22 : gs s' 22 = .d (.one (.lit (.int .i64 s.names.length))) := h0 (_, _) (by simp [ordS])
  refine (have F := ai g22 (ai hmx (ai @Int.toNat_natCast @len_rep)); gP 1 ?_)
  refine gS 23 fun a cap => ?_
  refine runs_nil ?_
  exact ⟨hB.pin rfl, ⟨(fun _ => (a, cap), .sl [], .sl [], .sl []), by simp [ordS, gs], by simp [ordM, gm, nR_0]⟩, PG.pin (by intro j h1 h2 x; rcases j with _ | _ | _ | _ | _ | _ | _ | _ | _ | j <;> first | rfl | exact absurd rfl h1 | exact absurd (by decide) h2)⟩
 ·intro _
  refine (have F := g4; gO3 ?_)
  exact ⟨hB.slot rfl, ⟨(fun _ => (none, 0), .sl [], .sl [], .sl []), by simp [ordS, gs], by simp [ordM]⟩, PG.slot (by intro j h1 h2 x; rcases j with _ | _ | _ | _ | _ | _ | _ | _ | _ | j <;> first | rfl | exact absurd rfl h1 | exact absurd (by decide) h2)⟩
 ·intro hP
  obtain ⟨f, h0, _⟩ := hP 4 (by decide)
  have g24 : gs s' 24 = .d (.one (.lit (.int .i64 s.names.length))) := h0 (_, _) (by simp [ordS])
  refine (have F := ai g24 (ai hmx (ai @Int.toNat_natCast @len_rep)); gP 1 ?_)
  refine gS 25 fun a cap => ?_
  refine runs_nil ?_
  exact ⟨hB.pin rfl, ⟨(fun _ => (a, cap), .sl [], .sl [], .sl []), by simp [ordS, gs], by simp [ordM, gm, nR_0]⟩, PG.pin (by intro j h1 h2 x; rcases j with _ | _ | _ | _ | _ | _ | _ | _ | _ | j <;> first | rfl | exact absurd rfl h1 | exact absurd (by decide) h2)⟩
 ·intro hP
  obtain ⟨f1, h1, _⟩ := hP 1 (by decide)
  obtain ⟨f3, h3, h3'⟩ := hP 3 (by decide)
  obtain ⟨f5, h5, h5'⟩ := hP 5 (by decide)
  have g21 : gs s' 21 = .d (.one (.sl (nR (up s)))) := h1 (_, _) (by simp [ordS])
  have g23 : gs s' 23 = .d (.one (.lit (.slice (f3.1 23).1 s.names.length (f3.1 23).2))) := h3 (_, _) (by simp [ordS])
  have g25 : gs s' 25 = .d (.one (.lit (.slice (f5.1 25).1 s.names.length (f5.1 25).2))) := h5 (_, _) (by simp [ordS])
  have k23 := h3' (23, _) (by simp [ordM]; rfl)
  have k25 := h5' (25, _) (by simp [ordM]; rfl)
  refine (have F := ai g21 (ai g23 g25); gO3 ?_)
  exact ⟨hB.slot rfl, ⟨(fun k => if k = 23 then f3.1 23 else f5.1 25, .sl [], .sl [], .sl []), by simp [ordS, gs], by simp [ordM]; exact ⟨k23, k25⟩⟩, PG.slot (by intro j h1 h2 x; rcases j with _ | _ | _ | _ | _ | _ | _ | _ | _ | j <;> first | rfl | exact absurd rfl h1 | exact absurd (by decide) h2)⟩
 ·intro _
  refine (have F := g4; gO3 ?_)
  exact ⟨hB.born rfl, ⟨(fun _ => (none, 0), .sl [], .sl [], .sl []), by simp [ordS, gs], by simp [ordM, gm]⟩, PG.born (by intro j h1 h2 x; rcases j with _ | _ | _ | _ | _ | _ | _ | _ | _ | j <;> first | rfl | exact absurd rfl h1 | exact absurd (by decide) h2)⟩
 ·intro hP
  obtain ⟨f6, h6, h6'⟩ := hP 6 (by decide)
  obtain ⟨f7, h7, h7'⟩ := hP 7 (by decide)
  have g26 : gs s' 26 = .d (.agg [.sl (nR (up s)), .lit (.slice (f6.1 23).1 s.names.length (f6.1 23).2), .lit (.slice (f6.1 25).1 s.names.length (f6.1 25).2)]) := h6 (_, _) (by simp [ordS])
  have g5 : gs s' 5 = .ref 5 0 := h7 (_, _) (by simp [ordS])
  have k5 : gm m' 5 = some (.var none [f7.2.1, f7.2.2.1, f7.2.2.2]) := h7' (_, _) (by simp [ordM])
  have k23 := h6' (23, _) (by simp [ordM]; rfl)
  have k25 := h6' (25, _) (by simp [ordM]; rfl)
  refine (have F := ai g26 (ai g5 k5); gO3 ?_)
  refine ⟨hB.own rfl, ⟨f6, by simp [ordS, g5], by simp [ordM, gm, gm_remM]; exact ⟨k23, k25⟩⟩, ?_⟩
  intro j q1 q2 ⟨x, q⟩
  rcases j with _ | _ | _ | _ | _ | _ | _ | _ | _ | j
  all_goals first
   | exact ⟨x, q.own rfl⟩
   | exact absurd rfl q1
   | exact ⟨(fun _ => (none, 0), .sl (nR (up s)), .lit (.slice (f6.1 23).1 s.names.length (f6.1 23).2), .lit (.slice (f6.1 25).1 s.names.length (f6.1 25).2)), by simp [ordS, g5], by simp [ordM, gm]⟩
end
section
variable {g : Sgn}
theorem opSeen_step {k : Nat} {o : Opr} (h : g.ops[k]? = some o) : seenL (opNames (g.ops.take k)) ++ [(o.name, .bool true)] = seenL (opNames (g.ops.take (k + 1))) := by
 rw [opNames_snoc h, seenL, seenL, List.map_append]
 rfl
theorem hasStr_mono {l : List Opr} {i k m : Nat} (h : i = k + m) {s : ByteArray} (hs : hasStr (opNames (l.take k)) s = true) : hasStr (opNames (l.take i)) s = true := by
 subst h
 rw [List.take_add, opNames, List.map_append]
 unfold hasStr at hs ⊢
 rw [List.any_append]
 rw [opNames] at hs
 rw [hs, Bool.true_or]
theorem opSeen_0 (l : List Opr) : seenL (opNames (l.take 0)) = [] ∧ seenL (opNames []) = [] := ⟨rfl, rfl⟩
set_option maxHeartbeats 8000000 in
set_option maxRecDepth 100000 in
theorem con_implSgn (hg : okSgn g) : Con e0 92 [.agg (encSgn g)] [.one (.lit (.bool (isSgn g)))] := by
 have hno : ¬ SgnOk g -> isSgn g = false := isSgn_false
 rw [encSgn]
 refine gI 9358620764179268287 Tryz.func92 ?_
 by_cases hs : SortsOk g.sorts
 rotate_left
 ·have cO := con_newOrder_not hg.1 hs
  have hf := hno fun h => hs h.sorts
  rw [encSrt] at cO
  (have F := @e0P; refine gG ?_; clear F)
  refine gB ?_
  (have F := @e0P; refine gC (cO) ?_; clear F)
  (have F := @e0P; refine gR ?_; clear F)
  (have F := @hf; refine gG ?_; exact gT)
 have cO := con_newOrder hg.1 hs
 rw [encSrt] at cO
 (have F := @e0P; refine gG ?_; clear F)
 refine gB ?_
 (have F := @e0P; refine gC (cO) ?_; clear F)
 (have F := @encOrd_u; refine gR ?_; clear F)
 by_cases h14 : g.ops.length <= 14
 rotate_left
 ·have z1 : ((14 : Int) < (g.ops.length : Int)) = True := eq_true (by omega)
  have hf := hno fun h => h14 h.len
  (have F := ai @z1 @hf; refine gG ?_; exact gT)
 have z1 : ((14 : Int) < (g.ops.length : Int)) = False := eq_false (by omega)
 (have F := @z1; have NN : StopAt 4 := trivial; refine gGn ?_; clear F NN)
 refine gB ?_
 refine gMk fun b => ?_
 (have F := @e0P; refine gR ?_; clear F)
 (have F := @e0P; refine gG ?_; clear F)
 (have F := ((opSeen_0 g.ops)); refine gL (ι := Nat) [2, 7, 28, 29, 47] [24] (fun i => [(28, A.d (.one (.lit (.int .i64 i))))]) (fun i => [(24, mapB b (seenL (opNames (g.ops.take i))))]) (fun i => i <= g.ops.length ∧ (∀ (j : Nat) (o : Opr), j < i -> g.ops[j]? = some o -> isName o.name = true ∧ hasStr (opNames (g.ops.take j)) o.name = false) ∧ (∀ o ∈ g.ops.take i, DeclsOk g.sorts o)) (fun i => g.ops.length - i) (0) (⟨Nat.zero_le _, fun j o h => absurd h (by omega), fun o h => by simp at h⟩) (fun i hi => ?_); clear F)
 obtain ⟨hil, hnm, hdc⟩ := hi
 by_cases hlt : i < g.ops.length
 ·have q1 : (i : Int) < (g.ops.length : Int) := by omega
  obtain ⟨o, ho⟩ : ∃ o, g.ops[i]? = some o := ⟨_, List.getElem?_eq_getElem hlt⟩
  have hom := List.mem_of_getElem? ho
  have hw := wrap1 (k := i) (by omega)
  have hfs := findS_seen (opNames (g.ops.take i)) o.name
  have hbad : ¬ (isName o.name = true ∧ hasStr (opNames (g.ops.take i)) o.name = false) -> isSgn g = false := fun h => hno fun hs => h (hs.names i o ho)
  have hbad2 : declsOk g.sorts o = false -> isSgn g = false := fun h => hno fun hs => by rw [declsOk_true (hs.decls o hom)] at h; cases h
  have cN := con_implName (hg.2 o hom).1
  have cD := con_implDecls hs o
  rw [encOpr, encOrd] at cD
  (have F := ai @q1 (ai @ho @encOpr_u); have NN : StopAt 8 := trivial; refine gGn ?_; clear F NN)
  refine gB ?_
  (have F := @e0P; refine gP 3 ?_; clear F)
  cases hh : hasStr (opNames (g.ops.take i)) o.name with
  | true =>
   rw [hh] at hfs hbad
   have hf := hbad fun h => by cases h.2
   refine (have F := e0P; gLk 24 un_mapB un_str zv_bool (v := .bool true) (by rw [hfs]; rfl) ?_)
   (have F := @e0P; refine gR ?_; clear F)
   (have F := @hf; refine gG ?_; exact gT)
  | false =>
  rw [hh] at hfs hbad
  refine (have F := e0P; gLk 24 un_mapB un_str zv_bool (v := .bool false) (by rw [hfs]; rfl) ?_)
  (have F := @e0P; refine gC (cN) ?_; clear F)
  cases hn : isName o.name with
  | false =>
   have hf := hbad fun h => by rw [hn] at h; cases h.1
   (have F := @e0P; refine gR ?_; clear F)
   (have F := @hf; refine gG ?_; exact gT)
  | true =>
  (have F := @encOrd_u; refine gC (cD) ?_; clear F)
  cases hd : declsOk g.sorts o with
  | false =>
   have hf := hbad2 hd
   (have F := @e0P; refine gR ?_; clear F)
   (have F := @hf; refine gG ?_; exact gT)
  | true =>
  have hq : i + 1 <= g.ops.length ∧ (∀ (j : Nat) (o : Opr), j < i + 1 -> g.ops[j]? = some o -> isName o.name = true ∧ hasStr (opNames (g.ops.take j)) o.name = false) ∧ (∀ o ∈ g.ops.take (i + 1), DeclsOk g.sorts o) := ⟨hlt, fun j o' hj ho' => by
   by_cases e : j = i
   ·subst e
    rw [ho] at ho'
    injection ho' with ho'
    subst ho'
    exact ⟨hn, hh⟩
   ·exact hnm j o' (by omega) ho', fun o' ho' => by
   rw [take_snoc ho] at ho'
   rcases List.mem_append.1 ho' with h | h
   ·exact hdc o' h
   ·rw [List.mem_singleton.1 h]; exact declsOk_iff.1 hd⟩
  have hsn := opSeen_step ho
  (have F := @e0P; refine gR ?_; clear F)
  (have F := @e0P; have NN : StopAt 10 := trivial; refine gGn ?_; clear F NN)
  refine gB ?_
  (have F := @e0P; refine gP 3 ?_; clear F)
  refine (have F := e0P; gUp 24 un_mapB un_str (by rw [hfs]; rfl) ?_)
  rw [hsn]
  (have F := @e0P; refine gR ?_; clear F)
  (have F := @hw; refine gG ?_; exact ⟨i + 1, hq, gw, gw, by omega⟩)
 obtain rfl : i = g.ops.length := by omega
 have q1 : ¬ ((g.ops.length : Int) < (g.ops.length : Int)) := by omega
 rw [List.take_length] at hdc
 have hnames : ∀ (i : Nat) (o : Opr), g.ops[i]? = some o -> isName o.name = true ∧ hasStr (opNames (g.ops.take i)) o.name = false := fun i o ho => hnm i o (List.getElem?_eq_some_iff.1 ho).1 ho
 (have F := @q1; refine gG ?_; clear F)
 (have F := @e0P; refine gL (ι := Nat) [2, 9, 55, 56, 63] [] (fun k => [(55, A.d (.one (.lit (.int .i64 k))))]) (fun k => []) (fun k => k <= g.ops.length ∧ ∀ o ∈ g.ops.take k, AxOk g o) (fun k => g.ops.length - k) (0) (⟨Nat.zero_le _, fun o h => by simp at h⟩) (fun k hk => ?_); clear F)
 obtain ⟨hkl, hax⟩ := hk
 by_cases hlk : k < g.ops.length
 rotate_left
 ·obtain rfl : k = g.ops.length := by omega
  rw [List.take_length] at hax
  have q2 : ¬ ((g.ops.length : Int) < (g.ops.length : Int)) := by omega
  have ht := isSgn_true ⟨hs, h14, hnames, hdc, hax⟩
  (have F := ai @q2 @ht; refine gG ?_; exact gT)
 have q2 : (k : Int) < (g.ops.length : Int) := by omega
 obtain ⟨o, ho⟩ : ∃ o, g.ops[k]? = some o := ⟨_, List.getElem?_eq_getElem hlk⟩
 have hom := List.mem_of_getElem? ho
 have hw := wrap1 (k := k) (by omega)
 have cA := con_implAxioms hs hdc hom h14
 rw [encOpr, encOrd, encSgn] at cA
 (have F := ai @q2 (ai @ho @encOpr_u); refine gG ?_; clear F)
 refine gB ?_
 (have F := @encOrd_u; refine gC (cA) ?_; clear F)
 cases ha : axOk g o with
 | false =>
  have hf := hno fun h => by rw [axOk_true (h.axs o hom)] at ha; cases ha
  (have F := @e0P; refine gR ?_; clear F)
  (have F := @hf; refine gG ?_; exact gT)
 | true =>
 have hq : k + 1 <= g.ops.length ∧ ∀ o ∈ g.ops.take (k + 1), AxOk g o := ⟨hlk, fun o' ho' => by
  rw [take_snoc ho] at ho'
  rcases List.mem_append.1 ho' with h | h
  ·exact hax o' h
  ·rw [List.mem_singleton.1 h]; exact axOk_iff.1 ha⟩
 (have F := @e0P; refine gR ?_; clear F)
 (have F := @hw; refine gG ?_; exact ⟨k + 1, hq, gw, gw, by omega⟩)
set_option maxHeartbeats 8000000 in
set_option maxRecDepth 100000 in
theorem con_specSgn (hg : okSgn g) : Con e0 80 [.agg (encSgn g)] [.one (.lit (.bool (isSgn g)))] := by
 have hno : ¬ SgnOk g -> isSgn g = false := isSgn_false
 have cS := con_specSorts hg.1
 rw [encSrt] at cS
 rw [encSgn]
 refine gI 599807422667317870655 Tryz.func80 ?_
 (have F := @e0P; refine gG ?_; clear F)
 refine gB ?_
 (have F := @e0P; refine gC (cS) ?_; clear F)
 cases hss : isSorts g.sorts with
 | false =>
  have hf := hno fun h => by rw [isSorts_true h.sorts] at hss; cases hss
  (have F := @e0P; refine gR ?_; clear F)
  (have F := @hf; refine gG ?_; exact gT)
 | true =>
 have hs := isSorts_iff.1 hss
 by_cases h14 : g.ops.length <= 14
 rotate_left
 ·have z1 : ((14 : Int) < (g.ops.length : Int)) = True := eq_true (by omega)
  have hf := hno fun h => h14 h.len
  (have F := @z1; refine gR ?_; clear F)
  (have F := @hf; refine gG ?_; exact gT)
 have z1 : ((14 : Int) < (g.ops.length : Int)) = False := eq_false (by omega)
 (have F := @z1; refine gR ?_; clear F)
 (have F := @e0P; refine gG ?_; clear F)
 (have F := @e0P; refine gL (ι := Nat) [2, 3, 4, 20, 40, 43, 58] [] (fun i => [(3, A.d (.one (.lit (.int .i64 i))))]) (fun i => []) (fun i => i <= g.ops.length ∧ (∀ (j : Nat) (o : Opr), j < i -> g.ops[j]? = some o -> isName o.name = true ∧ hasStr (opNames (g.ops.take j)) o.name = false) ∧ (∀ o ∈ g.ops.take i, DeclsOk g.sorts o)) (fun i => g.ops.length - i) (0) (⟨Nat.zero_le _, fun j o h => absurd h (by omega), fun o h => by simp at h⟩) (fun i hi => ?_); clear F)
 obtain ⟨hil, hnm, hdc⟩ := hi
 by_cases hlt : i < g.ops.length
 ·have q1 : (i : Int) < (g.ops.length : Int) := by omega
  obtain ⟨o, ho⟩ : ∃ o, g.ops[i]? = some o := ⟨_, List.getElem?_eq_getElem hlt⟩
  have hom := List.mem_of_getElem? ho
  have hw := wrap1 (k := i) (by omega)
  have hbad : ¬ (isName o.name = true ∧ hasStr (opNames (g.ops.take i)) o.name = false) -> isSgn g = false := fun h => hno fun hs => h (hs.names i o ho)
  have hbad2 : declsOk g.sorts o = false -> isSgn g = false := fun h => hno fun hs => by rw [declsOk_true (hs.decls o hom)] at h; cases h
  have cN := con_specName (hg.2 o hom).1
  have cD := con_l4Decls (g := g) hs o
  rw [encOpr, encSgn] at cD
  (have F := @q1; refine gG ?_; clear F)
  refine gB ?_
  (have F := ai @ho @encOpr_u; refine gC (cN) ?_; clear F)
  cases hn : isName o.name with
  | false =>
   have hf := hbad fun h => by rw [hn] at h; cases h.1
   (have F := @e0P; refine gR ?_; clear F)
   (have F := @hf; refine gG ?_; exact gT)
  | true =>
  (have F := ai @ho @encOpr_u; refine gC (cD) ?_; clear F)
  cases hd : declsOk g.sorts o with
  | false =>
   have hf := hbad2 hd
   (have F := @e0P; refine gR ?_; clear F)
   (have F := @hf; refine gG ?_; exact gT)
  | true =>
  (have F := @e0P; refine gR ?_; clear F)
  (have F := @e0P; refine gG ?_; clear F)
  (have F := @e0P; refine gL (ι := Nat) [2, 4, 43, 58] [] (fun k => [(4, A.d (.one (.lit (.int .i64 k))))]) (fun k => []) (fun k => k <= i ∧ hasStr (opNames (g.ops.take k)) o.name = false) (fun k => i - k) (0) (⟨Nat.zero_le _, rfl⟩) (fun k hk => ?_); clear F)
  obtain ⟨hkl, hseen⟩ := hk
  by_cases hlk : k < i
  ·have q2 : (k : Int) < (i : Int) := by omega
   obtain ⟨p, hp⟩ : ∃ o, g.ops[k]? = some o := ⟨_, List.getElem?_eq_getElem (by omega)⟩
   have hw2 := wrap1 (k := k) (by omega)
   have hsn := hasStr_snoc (opNames (g.ops.take k)) p.name o.name
   rw [hseen, Bool.false_or, beq_sym, <- opNames_snoc hp] at hsn
   cases hb : (p.name.toList == o.name.toList) with
   | true =>
    rw [hb] at hsn
    have hbp : (p.name.toList == o.name.toList) = true := hb
    have hf := hbad fun h => by
     obtain ⟨m, hm⟩ : ∃ m, i = k + 1 + m := ⟨i - (k + 1), by omega⟩
     have h2 := h.2
     rw [hasStr_mono hm hsn] at h2
     cases h2
    (have F := ai @q2 (ai @ho (ai @hp (ai @encOpr_u (ai @hb @hf)))); refine gG ?_; exact gT)
   | false =>
    rw [hb] at hsn
    (have F := ai @q2 (ai @ho (ai @hp (ai @encOpr_u (ai @hb @hw2)))); refine gG ?_; exact ⟨k + 1, ⟨hlk, hsn⟩, gw, gw, by omega⟩)
  obtain rfl : k = i := by omega
  have q2 : ((k : Int) < (k : Int)) = False := eq_false (by omega)
  have hq : k + 1 <= g.ops.length ∧ (∀ (j : Nat) (o : Opr), j < k + 1 -> g.ops[j]? = some o -> isName o.name = true ∧ hasStr (opNames (g.ops.take j)) o.name = false) ∧ (∀ o ∈ g.ops.take (k + 1), DeclsOk g.sorts o) := ⟨hlt, fun j o' hj ho' => by
   by_cases e : j = k
   ·subst e
    rw [ho] at ho'
    injection ho' with ho'
    subst ho'
    exact ⟨hn, hseen⟩
   ·exact hnm j o' (by omega) ho', fun o' ho' => by
   rw [take_snoc ho] at ho'
   rcases List.mem_append.1 ho' with h | h
   ·exact hdc o' h
   ·rw [List.mem_singleton.1 h]; exact declsOk_iff.1 hd⟩
  (have F := ai @q2 @hw; refine gG ?_; exact ⟨k + 1, hq, gw, gw, by omega⟩)
 obtain rfl : i = g.ops.length := by omega
 have q1 : ¬ ((g.ops.length : Int) < (g.ops.length : Int)) := by omega
 rw [List.take_length] at hdc
 have hnames : ∀ (i : Nat) (o : Opr), g.ops[i]? = some o -> isName o.name = true ∧ hasStr (opNames (g.ops.take i)) o.name = false := fun i o ho => hnm i o (List.getElem?_eq_some_iff.1 ho).1 ho
 (have F := @q1; refine gG ?_; clear F)
 (have F := @e0P; refine gL (ι := Nat) [2, 5, 63, 69] [] (fun k => [(5, A.d (.one (.lit (.int .i64 k))))]) (fun k => []) (fun k => k <= g.ops.length ∧ ∀ o ∈ g.ops.take k, AxOk g o) (fun k => g.ops.length - k) (0) (⟨Nat.zero_le _, fun o h => by simp at h⟩) (fun k hk => ?_); clear F)
 obtain ⟨hkl, hax⟩ := hk
 by_cases hlk : k < g.ops.length
 rotate_left
 ·obtain rfl : k = g.ops.length := by omega
  rw [List.take_length] at hax
  have q2 : ¬ ((g.ops.length : Int) < (g.ops.length : Int)) := by omega
  have ht := isSgn_true ⟨hs, h14, hnames, hdc, hax⟩
  (have F := ai @q2 @ht; refine gG ?_; exact gT)
 have q2 : (k : Int) < (g.ops.length : Int) := by omega
 obtain ⟨o, ho⟩ : ∃ o, g.ops[k]? = some o := ⟨_, List.getElem?_eq_getElem hlk⟩
 have hom := List.mem_of_getElem? ho
 have hw := wrap1 (k := k) (by omega)
 have cA := con_l4Axioms hs hdc ho h14
 rw [encSgn] at cA
 (have F := @q2; refine gG ?_; clear F)
 refine gB ?_
 (have F := @e0P; refine gC (cA) ?_; clear F)
 cases ha : axOk g o with
 | false =>
  have hf := hno fun h => by rw [axOk_true (h.axs o hom)] at ha; cases ha
  (have F := @e0P; refine gR ?_; clear F)
  (have F := @hf; refine gG ?_; exact gT)
 | true =>
 have hq : k + 1 <= g.ops.length ∧ ∀ o ∈ g.ops.take (k + 1), AxOk g o := ⟨hlk, fun o' ho' => by
  rw [take_snoc ho] at ho'
  rcases List.mem_append.1 ho' with h | h
  ·exact hax o' h
  ·rw [List.mem_singleton.1 h]; exact axOk_iff.1 ha⟩
 (have F := @e0P; refine gR ?_; clear F)
 (have F := @hw; refine gG ?_; exact ⟨k + 1, hq, gw, gw, by omega⟩)
end
end Go.Proofs.YtohilkmdjdfljaaGreat
namespace Go.Proofs.YtohilkmdjdfljaaGreat
open Go.RowKit
theorem str_emp (s : ByteArray) : (s.toList == ByteArray.toList { data := #[] }) = decide (s = ByteArray.empty) := by
 rw [Bool.eq_iff_iff, beq_iff_eq, decide_eq_true_iff, ByteArray.toList_eq, ByteArray.toList_eq]
 constructor
 ·intro h
  cases s with
  | mk d =>
   have : d = #[] := by apply Array.toList_inj.1; exact h
   rw [this]; rfl
 ·rintro rfl; rfl
def encX (g : Sgn) (mc : C) : List C := [.sl ((casts (up g.sorts)).map encInt), .sl ((casts (down g.sorts)).map encInt), .sl ((casts (kinds g.sorts)).map encInt), .sl (g.sorts.names.map encStr), .sl (g.sorts.subs.map encSub), .sl (g.ops.map encOpr), mc]
theorem encX_u : ∀ (g : Sgn) (mc : C), encX g mc = [.sl ((casts (up g.sorts)).map encInt), .sl ((casts (down g.sorts)).map encInt), .sl ((casts (kinds g.sorts)).map encInt), .sl (g.sorts.names.map encStr), .sl (g.sorts.subs.map encSub), .sl (g.ops.map encOpr), mc] := fun _ _ => rfl
theorem up_len {s : Srt} (h : SortsOk s) : (up s).length = s.names.length := (up_ok (SortsOk.subsIn h.subs)).1
theorem kd_get {s : Srt} (h : SortsOk s) {k : Int} (h0 : 0 <= k) (h1 : k < s.names.length) : (casts (kinds s))[k.toNat]? = some ((kd s k : Nat) : Int) := by
 have hk := kinds_ok (SortsOk.subsIn h.subs)
 have hl : k.toNat < (kinds s).length := by rw [hk.1]; omega
 unfold casts kd
 rw [List.getElem?_map, List.getElem?_eq_getElem hl]
 simp [List.getD, List.getElem?_eq_getElem hl]
def VarOk (g : Sgn) (t : Tm) : Prop := t.op = -1 ∧ isName t.name = true ∧ 0 <= t.sort ∧ t.sort < g.sorts.names.length ∧ t.args = []
open Classical in
noncomputable def isVar (g : Sgn) (t : Tm) : Bool := decide (VarOk g t)
structure AppOk (g : Sgn) (t : Tm) (o : Opr) (d : Dcl) : Prop where
 lo : 0 <= t.op
 at' : g.ops[t.op.toNat]? = some o
 fst : o.decls[0]? = some d
 nm : t.name = ByteArray.empty
 so : t.sort = 0
 asc : o.assoc = true -> 2 <= t.args.length ∧ t.args.length <= 7
 nas : o.assoc = false -> t.args.length = d.args.length
def NodeOk (g : Sgn) (t : Tm) : Prop := VarOk g t ∨ ∃ o d, AppOk g t o d
def resOf (g : Sgn) (op : Int) : Int := ((g.ops[op.toNat]?.bind (·.decls[0]?)).map (·.res)).getD 0
def kindTm (g : Sgn) (t : Tm) : Int := if t.op = -1 then kd g.sorts t.sort else kd g.sorts (resOf g t.op)
def argAt (o : Opr) (i : Nat) : Nat := if o.assoc = true then 0 else i
theorem argAt_u : ∀ (o : Opr) (i : Nat), argAt o i = if o.assoc = true then 0 else i := fun _ _ => rfl
structure ArgOk (g : Sgn) (op : Int) (o : Opr) (d : Dcl) (args : List Tm) (i : Nat) (a : Tm) : Prop where
 kind : ∀ k, d.args[argAt o i]? = some k -> kindTm g a = kd g.sorts k
 nest : o.assoc = true -> a.op ≠ op
 unit : o.unit ≠ 0 -> a.op ≠ o.unit - 1
 ord : o.comm = true -> ∀ (j : Nat) p, i = j + 1 -> args[j]? = some p -> cmpTm p a <= 0
def RightOk (g : Sgn) (op : Int) (args : List Tm) : Prop := ∀ o d, g.ops[op.toNat]? = some o -> o.decls[0]? = some d -> ∀ (i : Nat) a, args[i]? = some a -> ArgOk g op o d args i a
mutual
def FormOk (g : Sgn) : Tm -> Prop
 | .mk op nm so args => NodeOk g (.mk op nm so args) ∧ FormOks g args ∧ (op = -1 ∨ RightOk g op args)
def FormOks (g : Sgn) : List Tm -> Prop
 | [] => True
 | t :: ts => FormOk g t ∧ FormOks g ts
end
theorem FormOks_iff {g : Sgn} {ts : List Tm} : FormOks g ts ↔ ∀ a ∈ ts, FormOk g a := by
 induction ts with
 | nil => simp [FormOks]
 | cons t ts ih => simp [FormOks, ih]
theorem FormOk_iff {g : Sgn} {t : Tm} : FormOk g t ↔ NodeOk g t ∧ (∀ a ∈ t.args, FormOk g a) ∧ (t.op = -1 ∨ RightOk g t.op t.args) := by
 cases t
 simp only [FormOk, FormOks_iff, Tm.args, Tm.op]
theorem FormOk.node {g : Sgn} {t : Tm} (h : FormOk g t) : NodeOk g t := (FormOk_iff.1 h).1
open Classical in
noncomputable def isForm (g : Sgn) (t : Tm) : Bool := decide (FormOk g t)
theorem isForm_true {g : Sgn} {t : Tm} (h : FormOk g t) : isForm g t = true := by simp [isForm, h]
theorem isForm_false {g : Sgn} {t : Tm} (h : ¬ FormOk g t) : isForm g t = false := by simp [isForm, h]
theorem isForm_iff {g : Sgn} {t : Tm} : isForm g t = true ↔ FormOk g t := by simp [isForm]
theorem SgnOk.first {g : Sgn} (h : SgnOk g) {i : Nat} {o : Opr} (ho : g.ops[i]? = some o) : ∃ d, o.decls[0]? = some d ∧ (0 : Int) <= d.res ∧ d.res < (g.sorts.names.length : Int) ∧ ∀ k : Int, k ∈ d.args -> 0 <= k ∧ k < (g.sorts.names.length : Int) := by
 have hm := List.mem_of_getElem? ho
 obtain ⟨d, hd, hD⟩ := (h.decls o hm).first
 exact ⟨d, hd, hD.res.1, hD.res.2, hD.args⟩
theorem resOf_eq {g : Sgn} {op : Int} {o : Opr} {d : Dcl} (ho : g.ops[op.toNat]? = some o) (hd : o.decls[0]? = some d) : resOf g op = d.res := by simp [resOf, ho, hd]
theorem AppOk.op {g : Sgn} {t : Tm} {o : Opr} {d : Dcl} (h : AppOk g t o d) : t.op ≠ -1 := by have := h.lo; omega
section
variable {g : Sgn} {mc : C}
set_option maxHeartbeats 4000000 in
set_option maxRecDepth 100000 in
theorem con_has (hg : SgnOk g) (k : Int) : Con e0 172 [.agg [.sl ((casts (up g.sorts)).map encInt), .sl ((casts (down g.sorts)).map encInt), .sl ((casts (kinds g.sorts)).map encInt)], .one (.lit (.int .i64 k))] [.one (.lit (.bool (decide (0 <= k ∧ k < g.sorts.names.length))))] := by
 have hl := up_len hg.sorts
 refine gI 23 Tryz.func172 ?_
 by_cases h0 : 0 <= k
 ·have e : decide (0 <= k ∧ k < (g.sorts.names.length : Int)) = decide (k < (g.sorts.names.length : Int)) := by simp [h0]
  rw [e]
  (have F := ai @h0 (ai @casts_len @hl); refine gG ?_; exact gT)
 ·have e : decide (0 <= k ∧ k < (g.sorts.names.length : Int)) = false := by simp [h0]
  rw [e]
  (have F := @h0; refine gG ?_; exact gT)
set_option maxHeartbeats 4000000 in
set_option maxRecDepth 100000 in
theorem con_kindOf (hg : SgnOk g) {t : Tm} (ht : NodeOk g t) : Con e0 145 [.one (.ptr (encX g mc)), .agg (encTm t)] [.one (.lit (.int .i64 (kindTm g t)))] := by
 refine gI 155 Tryz.func145 ?_
 rcases ht with ⟨h1, h2, h3, h4, h5⟩ | ⟨o, d, h⟩
 ·have hn : (-1 : Int) < 0 := by omega
  have hk := kd_get hg.sorts h3 h4
  have e : kindTm g t = kd g.sorts t.sort := by simp [kindTm, h1]
  (have F := ai @tmz (ai @h1 (ai @hn (ai @encX_u (ai @h3 (ai @hk (ai @encInt_u @e)))))); refine gG ?_; exact gT)
 ·have hn : ¬ (t.op < 0) := by have := h.lo; omega
  obtain ⟨d', hd', hr0, hr1, _⟩ := hg.first h.at'
  rw [h.fst] at hd'
  injection hd' with hd'
  subst hd'
  have hk := kd_get hg.sorts hr0 hr1
  have e : kindTm g t = kd g.sorts d.res := by simp [kindTm, h.op, resOf_eq h.at' h.fst]
  have hlo := h.lo
  have hat := h.at'
  have hfst := h.fst
  (have F := ai @tmz (ai @hn (ai @encX_u (ai @hlo (ai @hat (ai @encOpr_u (ai @hfst (ai @encDcl_u (ai @hr0 (ai @hk (ai @encInt_u @e)))))))))); refine gG ?_; exact gT)
set_option maxHeartbeats 4000000 in
set_option maxRecDepth 100000 in
theorem con_argKind (hg : SgnOk g) {op : Int} {i : Nat} {o : Opr} {d : Dcl} {k : Int} (h0 : 0 <= op) (ho : g.ops[op.toNat]? = some o) (hd : o.decls[0]? = some d) (hk : d.args[argAt o i]? = some k) : Con e0 146 [.one (.ptr (encX g mc)), .one (.lit (.int .i64 op)), .one (.lit (.int .i64 i))] [.one (.lit (.int .i64 (kd g.sorts k)))] := by
 obtain ⟨d', hd', _, _, hk0⟩ := hg.first ho
 rw [hd] at hd'
 injection hd' with hd'
 subst hd'
 obtain ⟨k0, k1⟩ := hk0 k (List.mem_of_getElem? hk)
 have hkd := kd_get hg.sorts k0 k1
 refine gI 131271 Tryz.func146 ?_
 unfold argAt at hk
 cases ha : o.assoc with
 | true =>
  rw [ha] at hk
  simp only [↓reduceIte] at hk
  (have F := ai @encX_u (ai @h0 (ai @ho (ai @encOpr_u (ai @ha (ai @hd (ai @encDcl_u (ai @hk (ai @k0 (ai @hkd @encInt_u))))))))); refine gG ?_; exact gT)
 | false =>
  rw [ha] at hk
  simp only [Bool.false_eq_true, ↓reduceIte] at hk
  (have F := ai @encX_u (ai @h0 (ai @ho (ai @encOpr_u (ai @ha (ai @hd (ai @encDcl_u (ai @hk (ai @k0 (ai @hkd @encInt_u))))))))); refine gG ?_; exact gT)
set_option maxHeartbeats 4000000 in
set_option maxRecDepth 100000 in
theorem con_isUnit (hg : SgnOk g) {op : Int} {o : Opr} (h0 : 0 <= op) (ho : g.ops[op.toNat]? = some o) (t : Tm) : Con e0 147 [.one (.ptr (encX g mc)), .one (.lit (.int .i64 op)), .agg (encTm t)] [.one (.lit (.bool (decide (o.unit ≠ 0 ∧ t.op = o.unit - 1))))] := by
 have hax := hg.axs o (List.mem_of_getElem? ho)
 have hlo := hax.lo
 have hhi := hax.hi
 have hln := hg.len
 have hw : IntKind.i64.wrap (o.unit - 1) = o.unit - 1 := wrapN rfl (by omega) (by omega)
 refine gI 103 Tryz.func147 ?_
 by_cases hu : o.unit = 0
 ·have e : decide (o.unit ≠ 0 ∧ t.op = o.unit - 1) = false := by simp [hu]
  rw [e]
  (have F := ai @encX_u (ai @tmz (ai @h0 (ai @ho (ai @encOpr_u @hu)))); refine gG ?_; exact gT)
 ·have e : decide (o.unit ≠ 0 ∧ t.op = o.unit - 1) = decide (t.op = o.unit - 1) := by simp [hu]
  rw [e]
  (have F := ai @encX_u (ai @tmz (ai @h0 (ai @ho (ai @encOpr_u (ai @hu @hw))))); refine gG ?_; exact gT)
set_option maxHeartbeats 4000000 in
set_option maxRecDepth 100000 in
theorem con_isVariable (hg : SgnOk g) {t : Tm} (hs : t.name.size <= maxLen) : Con e0 144 [.one (.ptr (encX g mc)), .agg (encTm t)] [.one (.lit (.bool (isVar g t)))] := by
 have hno : ¬ VarOk g t -> isVar g t = false := fun h => by simp [isVar, h]
 refine gI 27 Tryz.func144 ?_
 (have F := @tmz; refine gG ?_; clear F)
 by_cases h1 : t.op = -1
 rotate_left
 ·have hf := hno fun h => h1 h.1
  (have F := ai @tmz (ai @h1 @hf); refine gG ?_; exact gT)
 refine gB ?_
 (have F := ai @tmz @h1; refine gC (con_implName hs) ?_; clear F)
 by_cases h2 : isName t.name = true
 rotate_left
 ·have hf := hno fun h => h2 h.2.1
  have h2' : isName t.name = false := by simpa using h2
  (have F := ai @tmz @h2'; refine gR ?_; clear F)
  (have F := ai @tmz @hf; refine gG ?_; exact gT)
 (have F := ai @tmz (ai @h2 @encX_u); refine gC (con_has hg t.sort) ?_; clear F)
 by_cases h3 : 0 <= t.sort ∧ t.sort < g.sorts.names.length
 rotate_left
 ·have hf := hno fun h => h3 ⟨h.2.2.1, h.2.2.2.1⟩
  have h3' : decide (0 <= t.sort ∧ t.sort < (g.sorts.names.length : Int)) = false := by simp only [decide_eq_false_iff_not]; exact h3
  (have F := ai @tmz @h3'; refine gR ?_; clear F)
  (have F := ai @tmz @hf; refine gG ?_; exact gT)
 have h3' : decide (0 <= t.sort ∧ t.sort < (g.sorts.names.length : Int)) = true := by simp only [decide_eq_true_eq]; exact h3
 by_cases h4 : t.args = []
 ·have hT : isVar g t = true := by simp only [isVar, decide_eq_true_eq]; exact ⟨h1, h2, h3.1, h3.2, h4⟩
  (have F := ai @tmz (ai @h3' @h4); refine gR ?_; clear F)
  (have F := ai @tmz @hT; refine gG ?_; exact gT)
 ·have hf := hno fun h => h4 h.2.2.2.2
  have h4' : ¬ ((t.args.length : Int) = 0) := by
   intro h; apply h4; apply List.eq_nil_of_length_eq_zero; omega
  (have F := ai @tmz (ai @h3' @h4'); refine gR ?_; clear F)
  (have F := ai @tmz @hf; refine gG ?_; exact gT)
end
end Go.Proofs.YtohilkmdjdfljaaGreat
namespace Go.Proofs.YtohilkmdjdfljaaGreat
open Go.RowKit
theorem okTm_iff {t : Tm} : okTm t ↔ I64 t.op ∧ t.name.size <= maxLen ∧ I64 t.sort ∧ okTms t.args := by cases t; simp only [okTm, Tm.op, Tm.name, Tm.sort, Tm.args]
theorem sizeTm_eq (t : Tm) : sizeTm t = 1 + sizeTms t.args := by cases t; simp only [sizeTm, Tm.args]
theorem isForm_var {g : Sgn} {t : Tm} (h : t.op = -1) : isForm g t = isVar g t := by
 unfold isForm isVar
 congr 1
 rw [FormOk_iff]
 apply propext
 constructor
 ·rintro ⟨h1 | ⟨o, d, h1⟩, _⟩
  ·exact h1
  ·have := h1.lo; omega
 ·intro h1
  exact ⟨.inl h1, fun a ha => (by rw [h1.2.2.2.2] at ha; cases ha), .inl h⟩
theorem NodeOk.app {g : Sgn} {t : Tm} (h : NodeOk g t) (hop : t.op ≠ -1) : ∃ o d, AppOk g t o d := by
 rcases h with h | h
 ·exact absurd h.1 hop
 ·exact h
theorem argAt_get {g : Sgn} (hg : SgnOk g) {i : Nat} {o : Opr} {d : Dcl} {n j : Nat} (ho : g.ops[i]? = some o) (hd : o.decls[0]? = some d) (nas : o.assoc = false -> n = d.args.length) (hj : j < n) : ∃ k, d.args[argAt o j]? = some k := by
 unfold argAt
 cases ha : o.assoc with
 | true =>
  have h2 := ((hg.axs o (List.mem_of_getElem? ho)).two (.inl ha) d hd).1
  exact ⟨_, List.getElem?_eq_getElem (by simp only [↓reduceIte]; omega)⟩
 | false => exact ⟨_, List.getElem?_eq_getElem (by simp only [Bool.false_eq_true, ↓reduceIte]; have := nas ha; omega)⟩
section
variable {g : Sgn} {mc : C}
set_option maxHeartbeats 40000000 in
set_option maxRecDepth 100000 in
theorem con_wellMade_all (hg : SgnOk g) : ∀ (n : Nat) (t : Tm), sizeTm t < n -> okTm t -> sizeTm t <= big -> Con e0 108 [.one (.ptr (encX g mc)), .agg (encTm t)] [.one (.lit (.bool (isForm g t)))] := by
 intro n
 induction n with
 | zero => intro t h; omega
 | succ n ih =>
  intro t hn hok hb
  have hno : ¬ FormOk g t -> isForm g t = false := isForm_false
  obtain ⟨k1, k2, k3, k4⟩ := okTm_iff.1 hok
  have hsz := sizeTm_eq t
  have hal := sizeTms_len t.args
  unfold big at hb
  refine gI 43556142965880125627826793391928073259515 Tryz.func108 ?_
  by_cases h1 : t.op = -1
  ·have e := isForm_var (g := g) h1
   rw [e]
   (have F := ai @tmz @h1; refine gG ?_; clear F)
   refine gB ?_
   (have F := ai @tmz @h1; refine gC (con_isVariable hg k2) ?_; clear F)
   (have F := @tmz; refine gR ?_; clear F)
   (have F := @tmz; refine gG ?_; exact gT)
  by_cases h2 : t.op < 0
  ·have hf := hno fun h => by
    obtain ⟨o, d, h⟩ := h.node.app h1
    have := h.lo; omega
   (have F := ai @tmz (ai @h1 (ai @h2 @hf)); refine gG ?_; exact gT)
  by_cases h3 : (g.ops.length : Int) <= t.op
  ·have hf := hno fun h => by
    obtain ⟨o, d, h⟩ := h.node.app h1
    have := (List.getElem?_eq_some_iff.1 h.at').1; omega
   (have F := ai @tmz (ai @h1 (ai @h2 (ai @h3 (ai @encX_u @hf)))); refine gG ?_; exact gT)
  by_cases h4 : t.name = ByteArray.empty
  rotate_left
  ·have hf := hno fun h => by
    obtain ⟨o, d, h⟩ := h.node.app h1
    exact h4 h.nm
   (have F := ai @tmz (ai @h1 (ai @h2 (ai @h3 (ai @encX_u (ai @str_emp (ai @h4 @hf)))))); refine gG ?_; exact gT)
  by_cases h5 : t.sort = 0
  rotate_left
  ·have hf := hno fun h => by
    obtain ⟨o, d, h⟩ := h.node.app h1
    exact h5 h.so
   (have F := ai @tmz (ai @h1 (ai @h2 (ai @h3 (ai @encX_u (ai @str_emp (ai @h4 (ai @h5 @hf))))))); refine gG ?_; exact gT)
  have h0 : 0 <= t.op := by omega
  obtain ⟨o, ho⟩ : ∃ o, g.ops[t.op.toNat]? = some o := ⟨_, List.getElem?_eq_getElem (by omega)⟩
  obtain ⟨d, hd, hr0, hr1, hargs⟩ := hg.first ho
  have hgt : FormOk g t -> AppOk g t o d := fun h => by
   obtain ⟨o', d', h⟩ := h.node.app h1
   have e1 := h.at'
   rw [ho] at e1
   injection e1 with e1
   subst e1
   have e2 := h.fst
   rw [hd] at e2
   injection e2 with e2
   subst e2
   exact h
  by_cases hW : (o.assoc = true -> 2 <= t.args.length ∧ t.args.length <= 7) ∧ (o.assoc = false -> t.args.length = d.args.length)
  rotate_left
  ·have hf := hno fun h => hW ⟨(hgt h).asc, (hgt h).nas⟩
   cases ha : o.assoc with
   | true =>
    by_cases c1 : t.args.length < 2
    ·have c1' : (t.args.length : Int) < 2 := by omega
     (have F := ai @tmz (ai @h1 (ai @h2 (ai @h3 (ai @encX_u (ai @str_emp (ai @h4 (ai @h5 (ai @h0 (ai @ho (ai @encOpr_u (ai @ha (ai @c1' @hf)))))))))))); refine gG ?_; exact gT)
    ·have c1' : ¬ ((t.args.length : Int) < 2) := by omega
     have c2 : (7 : Int) < (t.args.length : Int) := by
      by_cases c2 : t.args.length <= 7
      ·exact absurd ⟨fun _ => ⟨by omega, c2⟩, fun h => by rw [ha] at h; cases h⟩ hW
      ·omega
     (have F := ai @tmz (ai @h1 (ai @h2 (ai @h3 (ai @encX_u (ai @str_emp (ai @h4 (ai @h5 (ai @h0 (ai @ho (ai @encOpr_u (ai @ha (ai @c1' (ai @c2 @hf))))))))))))); refine gG ?_; exact gT)
   | false =>
    have c3 : ¬ ((t.args.length : Int) = (d.args.length : Int)) := fun c => hW ⟨fun h => (by rw [ha] at h; cases h), fun _ => by omega⟩
    (have F := ai @tmz (ai @h1 (ai @h2 (ai @h3 (ai @encX_u (ai @str_emp (ai @h4 (ai @h5 (ai @h0 (ai @ho (ai @encOpr_u (ai @ha (ai @hd (ai @encDcl_u (ai @c3 @hf)))))))))))))); refine gG ?_; exact gT)
  have hA : AppOk g t o d := ⟨h0, ho, hd, h4, h5, hW.1, hW.2⟩
  (have F := ai @tmz (ai @h1 (ai @h2 (ai @h3 (ai @encX_u (ai @str_emp (ai @h4 (ai @h5 (ai @h0 (ai @ho @encOpr_u))))))))); refine gG ?_; clear F)
  refine gM (ι := Unit) [75] [] (fun u => [(75, A.d (.one (.lit (.bool false))))]) (fun u => []) (fun u => True) ?_ (fun u hu => Exists.intro _ (ai (Wk.refl _) ?_))
  ·cases ha : o.assoc with
   | true =>
    have c := hW.1 ha
    have c1' : ¬ ((t.args.length : Int) < 2) := by omega
    have c2 : ¬ ((7 : Int) < (t.args.length : Int)) := by omega
    (have F := ai @tmz (ai @encOpr_u (ai @ha (ai @c1' @c2))); refine gG ?_; exact ⟨(), trivial, gw, gw⟩)
   | false =>
    have c3 : ((t.args.length : Int) = (d.args.length : Int)) := by have := hW.2 ha; omega
    (have F := ai @tmz (ai @encOpr_u (ai @ha (ai @hd (ai @encDcl_u @c3)))); refine gG ?_; exact ⟨(), trivial, gw, gw⟩)
  (have F := @tmz; refine gG ?_; clear F)
  (have F := @e0P; refine gL (ι := Nat) [4, 7, 8, 79, 80, 135] [] (fun i => [(79, A.d (.one (.lit (.int .i64 i))))]) (fun i => []) (fun i => i <= t.args.length ∧ ∀ (j : Nat) a, j < i -> t.args[j]? = some a -> FormOk g a ∧ ArgOk g t.op o d t.args j a) (fun i => t.args.length - i) (0) (⟨by omega, fun j a h => absurd h (by omega)⟩) (fun i hi => ?_); clear F)
  obtain ⟨hil, hall⟩ := hi
  by_cases hl : i < t.args.length
  rotate_left
  ·have hl' : ¬ ((i : Int) < (t.args.length : Int)) := by omega
   have hT := isForm_true (FormOk_iff.2 ⟨.inr ⟨o, d, hA⟩, fun a ha => by
     obtain ⟨j, hj⟩ := List.getElem?_of_mem ha
     exact (hall j a (by have := (List.getElem?_eq_some_iff.1 hj).1; omega) hj).1, .inr fun o' d' ho' hd' j a hj => by
     rw [ho] at ho'
     injection ho' with ho'
     subst ho'
     rw [hd] at hd'
     injection hd' with hd'
     subst hd'
     exact (hall j a (by have := (List.getElem?_eq_some_iff.1 hj).1; omega) hj).2⟩)
   (have F := ai @hl' @hT; refine gG ?_; exact gT)
  have hl' : (i : Int) < (t.args.length : Int) := by omega
  obtain ⟨a, ha⟩ : ∃ a, t.args[i]? = some a := ⟨_, List.getElem?_eq_getElem hl⟩
  have hm := List.mem_of_getElem? ha
  have hsa := sizeTms_mem hm
  have hw1 := wrap1 (k := i) (by omega)
  have hnoA : ¬ ArgOk g t.op o d t.args i a -> isForm g t = false := fun h => hno fun hF => by
   obtain ⟨_, _, h3⟩ := FormOk_iff.1 hF
   rcases h3 with h3 | h3
   ·exact h1 h3
   ·exact h (h3 o d ho hd i a ha)
  obtain ⟨k, hk⟩ := argAt_get hg ho hd hA.nas hl
  (have F := ai @hl' (ai @tmz @ha); refine gG ?_; clear F)
  refine gB ?_
  (have F := @tmz; refine gC (ih a (by omega) (k4.mem hm) (by unfold big; omega)) ?_; clear F)
  by_cases hfa : isForm g a = true
  rotate_left
  ·have hf := hno fun h => hfa (isForm_true ((FormOk_iff.1 h).2.1 a hm))
   have hfa' : isForm g a = false := by simpa using hfa
   (have F := ai @tmz @hfa'; refine gR ?_; clear F)
   (have F := @hf; refine gG ?_; exact gT)
  have hFa := isForm_iff.1 hfa
  (have F := ai @tmz @hfa; refine gC (con_kindOf hg hFa.node) ?_; clear F)
  (have F := @tmz; refine gC (con_argKind hg h0 ho hd hk) ?_; clear F)
  by_cases hkd : kindTm g a = ((kd g.sorts k : Nat) : Int)
  rotate_left
  ·have hf := hnoA fun h => hkd (h.kind k hk)
   (have F := ai @tmz @hkd; refine gR ?_; clear F)
   (have F := @hf; refine gG ?_; exact gT)
  by_cases hN : o.assoc = true ∧ a.op = t.op
  ·have hf := hnoA fun h => h.nest hN.1 hN.2
   obtain ⟨hN1, hN2⟩ := hN
   (have F := ai @tmz (ai @hkd (ai @encOpr_u (ai @hN1 @hN2))); refine gR ?_; clear F)
   (have F := @hf; refine gG ?_; exact gT)
  have hne : o.assoc = true -> ¬ a.op = t.op := fun h1 h2 => hN ⟨h1, h2⟩
  have cU := con_isUnit (mc := mc) hg h0 ho a
  generalize hU : decide (o.unit ≠ 0 ∧ a.op = o.unit - 1) = U at cU
  have hnext : (U = false) -> (o.comm = true -> ∀ (j : Nat) p, i = j + 1 -> t.args[j]? = some p -> cmpTm p a <= 0) -> i + 1 <= t.args.length ∧ ∀ (j : Nat) a, j < i + 1 -> t.args[j]? = some a -> FormOk g a ∧ ArgOk g t.op o d t.args j a := fun hU' hc => ⟨by omega, fun j a' hj ha' => by
   by_cases e : j = i
   ·subst e
    rw [ha] at ha'
    injection ha' with ha'
    subst ha'
    refine ⟨hFa, fun k' hk' => ?_, fun h1 h2 => hN ⟨h1, h2⟩, fun h1 h2 => ?_, hc⟩
    ·rw [hk] at hk'
     injection hk' with hk'
     subst hk'
     exact hkd
    ·rw [hU'] at hU
     simp only [decide_eq_false_iff_not] at hU
     exact hU ⟨h1, h2⟩
   ·exact hall j a' (by omega) ha'⟩
  rcases Bool.eq_false_or_eq_true o.assoc with hac | hac
  all_goals (
   (have F := ai @tmz (ai @hkd (ai @encOpr_u (ai @hac @hne))); refine gC (cU) ?_; clear F)
   rcases Bool.eq_false_or_eq_true U with hu | hu
   ·have hf := hnoA fun h => by
     rw [hu] at hU
     simp only [decide_eq_true_eq] at hU
     exact h.unit hU.1 hU.2
    (have F := ai @tmz @hu; refine gR ?_; clear F)
    (have F := @hf; refine gG ?_; exact gT)
   rcases Bool.eq_false_or_eq_true o.comm with hcm | hcm
   rotate_left
   ·have hq := hnext hu (fun h => by rw [hcm] at h; cases h)
    (have F := ai @tmz (ai @hu (ai @encOpr_u @hcm)); refine gR ?_; clear F)
    (have F := ai @hw1 (ai @tmz (ai @encOpr_u (ai @hcm @hac))); refine gG ?_; exact ⟨i + 1, hq, gw, gw, by omega⟩)
   rcases Nat.eq_zero_or_pos i with hi0 | hi0
   ·have hq := hnext hu (fun _ j p h => by omega)
    have hi0' : ¬ ((0 : Int) < (i : Int)) := by omega
    (have F := ai @tmz (ai @hu (ai @encOpr_u (ai @hcm @hi0'))); refine gR ?_; clear F)
    (have F := ai @hw1 (ai @tmz (ai @encOpr_u (ai @hcm @hac))); refine gG ?_; exact ⟨i + 1, hq, gw, gw, by omega⟩)
   obtain ⟨j, rfl⟩ : ∃ j, i = j + 1 := ⟨i - 1, by omega⟩
   obtain ⟨p, hp⟩ : ∃ p, t.args[j]? = some p := ⟨_, List.getElem?_eq_getElem (by omega)⟩
   have cC := con_implCmp (k4.mem (List.mem_of_getElem? hp)) (k4.mem hm)
   have hgt0 : (0 : Int) < ((j + 1 : Nat) : Int) := by omega
   have hsub : IntKind.i64.wrap (((j + 1 : Nat) : Int) - 1) = (j : Int) := wrapN (by omega) (by omega) (by omega)
   (have F := ai @tmz (ai @hu (ai @encOpr_u (ai @hcm (ai @hgt0 (ai @hsub @hp))))); refine gC (cC) ?_; clear F)
   by_cases hc : 0 < cmpTm p a
   ·have hf := hnoA fun h => by have := h.ord hcm j p rfl hp; omega
    (have F := ai @tmz @hc; refine gR ?_; clear F)
    (have F := @hf; refine gG ?_; exact gT)
   ·have hq := hnext hu (fun _ j' p' h hp' => by
     have : j' = j := by omega
     subst this
     rw [hp] at hp'
     injection hp' with hp'
     subst hp'
     omega)
    (have F := ai @tmz @hc; refine gR ?_; clear F)
    (have F := ai @hw1 (ai @tmz (ai @encOpr_u (ai @hcm @hac))); refine gG ?_; exact ⟨j + 1 + 1, hq, gw, gw, by omega⟩))
theorem con_wellMade (hg : SgnOk g) {t : Tm} (hok : okTm t) (hb : sizeTm t <= big) : Con e0 108 [.one (.ptr (encX g mc)), .agg (encTm t)] [.one (.lit (.bool (isForm g t)))] := con_wellMade_all hg _ t (Nat.lt_succ_self _) hok hb
structure TermOk (g : Sgn) (t : Tm) : Prop where
 size : sizeTm t <= 60
 depth : depthTm t <= 20
 form : FormOk g t
open Classical in
noncomputable def isTerm (g : Sgn) (t : Tm) : Bool := decide (TermOk g t)
theorem isTerm_false {g : Sgn} {t : Tm} (h : ¬ TermOk g t) : isTerm g t = false := by simp [isTerm, h]
theorem isTerm_iff {g : Sgn} {t : Tm} : isTerm g t = true ↔ TermOk g t := by simp [isTerm]
theorem isTerm_form {g : Sgn} {t : Tm} (h1 : sizeTm t <= 60) (h2 : depthTm t <= 20) : isForm g t = isTerm g t := by
 unfold isForm isTerm
 congr 1
 exact propext ⟨fun h => ⟨h1, h2, h⟩, fun h => h.form⟩
set_option maxHeartbeats 4000000 in
set_option maxRecDepth 100000 in
theorem con_implIsT (hg : SgnOk g) {t : Tm} (hok : okTm t) (hb : sizeTm t <= big) : Con e0 63 [.one (.ptr (encX g mc)), .agg (encTm t)] [.one (.lit (.bool (isTerm g t)))] := by
 have hno : ¬ TermOk g t -> isTerm g t = false := isTerm_false
 refine gI 27 Tryz.func63 ?_
 (have F := @tmz; refine gG ?_; clear F)
 refine gB ?_
 (have F := @tmz; refine gC (con_implSize hb) ?_; clear F)
 by_cases h1 : sizeTm t <= 60
 rotate_left
 ·have h1' : ¬ ((sizeTm t : Int) <= 60) := by omega
  have hf := hno fun h => h1 h.size
  (have F := ai @tmz @h1'; refine gR ?_; clear F)
  (have F := @hf; refine gG ?_; exact gT)
 have h1' : ((sizeTm t : Int) <= 60) := by omega
 (have F := ai @tmz @h1'; refine gC (con_implDepth hb) ?_; clear F)
 by_cases h2 : depthTm t <= 20
 rotate_left
 ·have h2' : ¬ ((depthTm t : Int) <= 20) := by omega
  have hf := hno fun h => h2 h.depth
  (have F := ai @tmz @h2'; refine gR ?_; clear F)
  (have F := @hf; refine gG ?_; exact gT)
 have h2' : ((depthTm t : Int) <= 20) := by omega
 (have F := ai @tmz @h2'; refine gC (con_wellMade hg hok hb) ?_; clear F)
 have e := isTerm_form (g := g) h1 h2
 (have F := @tmz; refine gR ?_; clear F)
 (have F := @e; refine gG ?_; exact gT)
end
end Go.Proofs.YtohilkmdjdfljaaGreat
namespace Go.Proofs.YtohilkmdjdfljaaGreat
open Go.RowKit
mutual
theorem cmpTm_zero : ∀ {a b : Tm}, cmpTm a b = 0 -> a = b
 | .mk o n s x, .mk o' n' s' x', h => by
  simp only [cmpTm, firstNZ] at h
  split at h
  ·rename_i h1
   split at h
   ·rename_i h2
    split at h
    ·rename_i h3
     split at h
     ·rename_i h4
      rw [cmpInt_zero.1 h1, cmpStr_zero.1 h2, cmpInt_zero.1 h3, cmpTms_zero h4]
     ·contradiction
    ·contradiction
   ·contradiction
  ·contradiction
theorem cmpTms_zero : ∀ {a b : List Tm}, cmpTms a b = 0 -> a = b
 | [], [], _ => rfl
 | [], _ :: _, h => by simp [cmpTms] at h
 | _ :: _, [], h => by simp [cmpTms] at h
 | x :: xs, y :: ys, h => by
  simp only [cmpTms, firstNZ] at h
  split at h
  ·rename_i h1
   split at h
   ·rename_i h2
    rw [cmpTm_zero h1, cmpTms_zero h2]
   ·contradiction
  ·contradiction
end
mutual
theorem cmpTm_self : ∀ (a : Tm), cmpTm a a = 0
 | .mk o n s x => by simp only [cmpTm, firstNZ, cmpInt_zero.2 (rfl : o = o), cmpInt_zero.2 (rfl : s = s), cmpStr_zero.2 (rfl : n = n), cmpTms_self x, if_true]
theorem cmpTms_self : ∀ (a : List Tm), cmpTms a a = 0
 | [] => rfl
 | x :: xs => by simp only [cmpTms, firstNZ, cmpTm_self x, cmpTms_self xs, if_true]
end
theorem cmpTm_iff {a b : Tm} : cmpTm a b = 0 ↔ a = b := ⟨cmpTm_zero, fun h => h ▸ cmpTm_self a⟩
section
variable {g : Sgn}
set_option maxHeartbeats 4000000 in
set_option maxRecDepth 100000 in
theorem con_newAlg_not (hok : okSgn g) (hg : ¬ SgnOk g) : Con e0 48 [.agg (encSgn g)] [.one (.lit (.pointer none)), .one (.lit (.bool false))] := by
 have hs : isSgn g = false := isSgn_false hg
 have c := con_implSgn hok
 rw [hs, encSgn] at c
 refine gI 287 Tryz.func48 ?_
 (have F := @encSgn_u; refine gG ?_; clear F)
 refine gB ?_
 (have F := @encSgn_u; refine gC (c) ?_; clear F)
 (have F := @encSgn_u; refine gR ?_; clear F)
 (have F := @encSgn_u; refine gG ?_; exact gT)
def algR (g : Sgn) (r : List D) : Prop := ∃ b : Nat, r = [.one (.ptr (encX g (.lit (.map (some b))))), .one (.lit (.bool true))]
set_option maxHeartbeats 4000000 in
set_option maxRecDepth 100000 in
theorem conE_newAlg (hok : okSgn g) (hg : SgnOk g) : ConE e0 48 [.agg (encSgn g)] (algR g) := by
 have hs : isSgn g = true := isSgn_true hg
 have c := con_implSgn hok
 rw [hs, encSgn] at c
 have c2 := con_newOrder hok.1 hg.sorts
 rw [encSrt, encOrd] at c2
 refine gIE 287 Tryz.func48 ?_
 (have F := @encSgn_u; refine gG ?_; clear F)
 refine gB ?_
 (have F := @encSgn_u; refine gC (c) ?_; clear F)
 (have F := @encSgn_u; refine gR ?_; clear F)
 (have F := @encSgn_u; refine gG ?_; clear F)
 refine gB ?_
 (have F := @encSgn_u; refine gC (c2) ?_; clear F)
 (have F := @encSgn_u; refine gR ?_; clear F)
 (have F := @encSgn_u; refine gG ?_; clear F)
 refine gB ?_
 refine runs_map (by simp only [pz, ↓reduceIte, Nat.reduceEqDiff, Nat.reduceAdd, Nat.reduceSub, Nat.reduceMul, Nat.reduceLeDiff, Nat.reduceBEq, Bool.false_eq_true, decide_true, decide_false, Int.reduceLE, Int.reduceToNat, Int.reduceLT, Int.reduceEq, eq_self, Nat.reduceShiftRight, Nat.reduceAnd, Nat.reduceBneDiff, R_makeMap]; exact rfl) fun b => ?_
 (have F := @sa_some; refine gR ?_; clear F)
 refine pwp_ret (ret_E [19] _ ⟨b, rfl⟩ (by simp only [pz, ↓reduceIte, Nat.reduceEqDiff, Nat.reduceAdd, Nat.reduceSub, Nat.reduceMul, Nat.reduceLeDiff, Nat.reduceBEq, Bool.false_eq_true, decide_true, decide_false, Int.reduceLE, Int.reduceToNat, Int.reduceLT, Int.reduceEq, eq_self, Nat.reduceShiftRight, Nat.reduceAnd, Nat.reduceBneDiff]; exact rfl) ?_)
 simp [resOk, resA, resSlots, gs, encX, nR]
set_option maxHeartbeats 4000000 in
set_option maxRecDepth 100000 in
theorem con_l5Same {a b : Tm} (ha : okTm a) (hb : okTm b) : Con e0 86 [.agg (encTm a), .agg (encTm b)] [.one (.lit (.bool (decide (cmpTm a b = 0))))] := by
 refine gI 31 Tryz.func86 ?_
 (have F := @tmz; refine gG ?_; clear F)
 refine gB ?_
 (have F := @tmz; refine gC (con_specCmp ha hb) ?_; clear F)
 (have F := @tmz; refine gR ?_; clear F)
 (have F := @tmz; refine gG ?_; exact gT)
set_option maxHeartbeats 4000000 in
set_option maxRecDepth 100000 in
theorem con_l6Kind (hok : okSgn g) (hg : SgnOk g) {t : Tm} (ht : NodeOk g t) : Con e0 169 [.agg (encSgn g), .agg (encTm t)] [.one (.lit (.int .i64 (kindTm g t)))] := by
 have c2 := con_l3Kinds hg.sorts
 rw [encSrt] at c2
 refine gI 2111 Tryz.func169 ?_
 (have F := ai @tmz @encSgn_u; refine gG ?_; clear F)
 refine gB ?_
 (have F := @encSgn_u; refine gC (c2) ?_; clear F)
 (have F := @encSgn_u; refine gR ?_; clear F)
 rcases ht with ⟨h1, h2, h3, h4, h5⟩ | ⟨o, d, h⟩
 ·have hk := kd_get hg.sorts h3 h4
  have e : kindTm g t = kd g.sorts t.sort := by simp [kindTm, h1]
  (have F := ai @tmz (ai @h1 (ai @h3 (ai @hk (ai @encInt_u @e)))); refine gG ?_; exact gT)
 ·have hn := h.op
  obtain ⟨d', hd', hr0, hr1, _⟩ := hg.first h.at'
  rw [h.fst] at hd'
  injection hd' with hd'
  subst hd'
  have hk := kd_get hg.sorts hr0 hr1
  have e : kindTm g t = kd g.sorts d.res := by simp [kindTm, h.op, resOf_eq h.at' h.fst]
  have hlo := h.lo
  have hat := h.at'
  have hfst := h.fst
  (have F := ai @tmz (ai @hn (ai @hlo (ai @hat (ai @encOpr_u (ai @hfst (ai @encDcl_u (ai @hr0 (ai @hk (ai @encInt_u @e))))))))); refine gG ?_; exact gT)
def unitTm (o : Opr) : Tm := .mk (if o.unit = 0 then 0 else o.unit - 1) .empty 0 []
set_option maxHeartbeats 4000000 in
set_option maxRecDepth 100000 in
theorem con_l6Unit (hg : SgnOk g) {op : Int} {o : Opr} (h0 : 0 <= op) (ho : g.ops[op.toNat]? = some o) : Con e0 168 [.agg (encSgn g), .one (.lit (.int .i64 op))] [.agg (encTm (unitTm o)), .one (.lit (.bool (!decide (o.unit = 0))))] := by
 have hax := hg.axs o (List.mem_of_getElem? ho)
 have hlo := hax.lo
 have hhi := hax.hi
 have hln := hg.len
 have hw : IntKind.i64.wrap (o.unit - 1) = o.unit - 1 := wrapN rfl (by omega) (by omega)
 refine gI 4151 Tryz.func168 ?_
 by_cases hu : o.unit = 0
 ·(have F := ai @encSgn_u (ai @h0 (ai @ho (ai @encOpr_u @hu))); refine gG ?_; clear F)
  refine pwp_ret (ret_ok ?_)
  simp [resOk, resA, resSlots, gs, hu, unitTm, encTm, encTms, gm, ptrA, varA, e0P, pz, tt_0, tt_1]
 ·(have F := ai @encSgn_u (ai @h0 (ai @ho (ai @encOpr_u (ai @hu @hw)))); refine gG ?_; clear F)
  refine pwp_ret (ret_ok ?_)
  simp [resOk, resA, resSlots, gs, hu, unitTm, encTm, encTms, gm, ptrA, varA, e0P, pz]
end
end Go.Proofs.YtohilkmdjdfljaaGreat
namespace Go.Proofs.YtohilkmdjdfljaaGreat
open Go.RowKit
def Tri (a b c : Int) : Prop := ((a <= 0 -> b <= 0 -> c <= 0) ∧ (a < 0 -> b <= 0 -> c < 0) ∧ (a <= 0 -> b < 0 -> c < 0)) ∧ ((0 <= a -> 0 <= b -> 0 <= c) ∧ (0 < a -> 0 <= b -> 0 < c) ∧ (0 <= a -> 0 < b -> 0 < c))
theorem first2 (p q : Int) : firstNZ [p, q] = if p = 0 then q else p := by
 simp only [firstNZ]
 split
 ·split <;> simp_all
 ·rfl
theorem first4 (p q r s : Int) : firstNZ [p, q, r, s] = firstNZ [p, firstNZ [q, firstNZ [r, s]]] := by
 simp only [first2, firstNZ]
 by_cases h1 : p = 0 <;> by_cases h2 : q = 0 <;> by_cases h3 : r = 0 <;> by_cases h4 : s = 0 <;> simp [h1, h2, h3, h4]
theorem Tri.lex {a b c a' b' c' : Int} (h : Tri a b c) (h' : Tri a' b' c') : Tri (firstNZ [a, a']) (firstNZ [b, b']) (firstNZ [c, c']) := by
 simp only [first2]
 unfold Tri at *
 by_cases h1 : a = 0
 ·by_cases h2 : b = 0
  ·by_cases h3 : c = 0
   ·simp only [h1, h2, h3, if_true]; exact h'
   ·omega
  ·by_cases h3 : c = 0
   ·omega
   ·simp only [h1, h2, h3, if_true, if_false]; omega
 ·by_cases h2 : b = 0
  ·by_cases h3 : c = 0
   ·omega
   ·simp only [h1, h2, h3, if_true, if_false]; omega
  ·by_cases h3 : c = 0
   ·simp only [h1, h2, h3, if_true, if_false]; omega
   ·simp only [h1, h2, h3, if_false]; omega
theorem firstNZ_neg (p q : Int) : firstNZ [-p, -q] = -firstNZ [p, q] := by
 simp only [first2]
 by_cases h : p = 0
 ·simp [h]
 ·have : ¬ -p = 0 := by omega
  simp [h, this]
theorem cmpInt_tri (a b c : Int) : Tri (cmpInt a b) (cmpInt b c) (cmpInt a c) := by
 unfold Tri cmpInt
 by_cases h1 : a < b <;> by_cases h2 : b < c <;> by_cases h3 : a < c <;> by_cases h4 : b < a <;> by_cases h5 : c < b <;> by_cases h6 : c < a <;> simp only [h1, h2, h3, h4, h5, h6, if_true, if_false] <;> omega
theorem cmpInt_neg (a b : Int) : cmpInt b a = -cmpInt a b := by
 unfold cmpInt
 by_cases h1 : a < b <;> by_cases h2 : b < a <;> simp only [h1, h2, if_true, if_false] <;> omega
theorem bytes_first (x y : UInt8) (xs ys : List UInt8) : Lib.compareBytes (x :: xs) (y :: ys) = firstNZ [cmpInt x.toNat y.toNat, Lib.compareBytes xs ys] := by
 rw [first2]
 simp only [Lib.compareBytes, cmpInt, UInt8.lt_iff_toNat_lt]
 by_cases h1 : x.toNat < y.toNat
 ·have : ((x.toNat : Int) < y.toNat) := by omega
  simp [h1, this]
 ·have h1' : ¬ ((x.toNat : Int) < y.toNat) := by omega
  by_cases h2 : y.toNat < x.toNat
  ·have : ((y.toNat : Int) < x.toNat) := by omega
   simp [h1, h2, h1', this]
  ·have : ¬ ((y.toNat : Int) < x.toNat) := by omega
   simp [h1, h2, h1', this]
theorem bytes_tri : ∀ (a b c : List UInt8), Tri (Lib.compareBytes a b) (Lib.compareBytes b c) (Lib.compareBytes a c)
 | [], [], [] => by simp [Lib.compareBytes, Tri]
 | [], [], _ :: _ => by simp [Lib.compareBytes, Tri]
 | [], _ :: _, [] => by simp [Lib.compareBytes, Tri]
 | [], y :: ys, z :: zs => by
  have : Lib.compareBytes [] (y :: ys) = -1 := rfl
  have h2 : Lib.compareBytes [] (z :: zs) = -1 := rfl
  rw [this, h2]; unfold Tri; omega
 | _ :: _, [], [] => by simp [Lib.compareBytes, Tri]
 | x :: xs, [], z :: zs => by
  have : Lib.compareBytes (x :: xs) [] = 1 := rfl
  have h2 : Lib.compareBytes [] (z :: zs) = -1 := rfl
  rw [this, h2]; unfold Tri; omega
 | x :: xs, y :: ys, [] => by
  have : Lib.compareBytes (x :: xs) [] = 1 := rfl
  have h2 : Lib.compareBytes (y :: ys) [] = 1 := rfl
  rw [this, h2]; unfold Tri; omega
 | x :: xs, y :: ys, z :: zs => by
  simp only [bytes_first]
  exact (cmpInt_tri _ _ _).lex (bytes_tri xs ys zs)
theorem bytes_neg : ∀ (a b : List UInt8), Lib.compareBytes b a = -Lib.compareBytes a b
 | [], [] => rfl
 | [], _ :: _ => rfl
 | _ :: _, [] => rfl
 | x :: xs, y :: ys => by rw [bytes_first, bytes_first, cmpInt_neg, bytes_neg xs ys, firstNZ_neg]
mutual
theorem cmpTm_neg : ∀ (a b : Tm), cmpTm b a = -cmpTm a b
 | .mk o n s a, .mk o' n' s' a' => by
  simp only [cmpTm, first4]
  rw [cmpInt_neg o o', cmpInt_neg s s', cmpTms_neg a a', show cmpStr n' n = -cmpStr n n' from bytes_neg _ _, firstNZ_neg, firstNZ_neg, firstNZ_neg]
theorem cmpTms_neg : ∀ (a b : List Tm), cmpTms b a = -cmpTms a b
 | [], [] => by simp [cmpTms]
 | [], _ :: _ => by simp [cmpTms]
 | _ :: _, [] => by simp [cmpTms]
 | x :: xs, y :: ys => by
  simp only [cmpTms]
  rw [cmpTm_neg x y, cmpTms_neg xs ys, firstNZ_neg]
end
mutual
theorem cmpTm_tri : ∀ (a b c : Tm), Tri (cmpTm a b) (cmpTm b c) (cmpTm a c)
 | .mk o n s a, .mk o' n' s' a', .mk o'' n'' s'' a'' => by
  simp only [cmpTm, first4]
  exact (cmpInt_tri _ _ _).lex ((bytes_tri _ _ _).lex ((cmpInt_tri _ _ _).lex (cmpTms_tri a a' a'')))
theorem cmpTms_tri : ∀ (a b c : List Tm), Tri (cmpTms a b) (cmpTms b c) (cmpTms a c)
 | [], [], [] => by simp [cmpTms, Tri]
 | [], [], _ :: _ => by simp [cmpTms, Tri]
 | [], _ :: _, [] => by simp [cmpTms, Tri]
 | [], _ :: _, _ :: _ => by simp only [cmpTms]; unfold Tri; omega
 | _ :: _, [], [] => by simp [cmpTms, Tri]
 | _ :: _, [], _ :: _ => by simp only [cmpTms]; unfold Tri; omega
 | _ :: _, _ :: _, [] => by simp only [cmpTms]; unfold Tri; omega
 | x :: xs, y :: ys, z :: zs => by
  simp only [cmpTms]
  exact (cmpTm_tri x y z).lex (cmpTms_tri xs ys zs)
end
theorem cmpTm_lt_trans {a b c : Tm} (h1 : cmpTm a b < 0) (h2 : cmpTm b c < 0) : cmpTm a c < 0 := (cmpTm_tri a b c).1.2.1 h1 (by omega)
theorem cmpTm_le_trans {a b c : Tm} (h1 : cmpTm a b <= 0) (h2 : cmpTm b c <= 0) : cmpTm a c <= 0 := (cmpTm_tri a b c).1.1 h1 h2
def Asc (l : List Tm) : Prop := l.Pairwise fun a b => cmpTm a b < 0
theorem Asc.ext {l l' : List Tm} (h : Asc l) (h' : Asc l') (hm : ∀ t, t ∈ l ↔ t ∈ l') : l = l' := by
 induction l generalizing l' with
 | nil =>
  cases l' with
  | nil => rfl
  | cons y ys => exact absurd ((hm y).2 (by simp)) (by simp)
 | cons x xs ih =>
  cases l' with
  | nil => exact absurd ((hm x).1 (by simp)) (by simp)
  | cons y ys =>
   have h1 := List.pairwise_cons.1 h
   have h2 := List.pairwise_cons.1 h'
   have e : x = y := by
    rcases List.mem_cons.1 ((hm x).1 (by simp)) with e | hx
    ·exact e
    ·rcases List.mem_cons.1 ((hm y).2 (by simp)) with e | hy
     ·exact e.symm
     ·have a1 := h1.1 y hy
      have a2 := h2.1 x hx
      rw [cmpTm_neg x y] at a2
      omega
   subst e
   refine congrArg (x :: ·) (ih h1.2 h2.2 fun t => ⟨fun ht => ?_, fun ht => ?_⟩)
   ·rcases List.mem_cons.1 ((hm t).1 (List.mem_cons_of_mem _ ht)) with e | h3
    ·subst e; have := h1.1 t ht; rw [cmpTm_self] at this; omega
    ·exact h3
   ·rcases List.mem_cons.1 ((hm t).2 (List.mem_cons_of_mem _ ht)) with e | h3
    ·subst e; have := h2.1 t ht; rw [cmpTm_self] at this; omega
    ·exact h3
def insTm (t : Tm) : List Tm -> List Tm
 | [] => [t]
 | x :: xs => if cmpTm x t < 0 then x :: insTm t xs else if cmpTm x t = 0 then x :: xs else t :: x :: xs
theorem mem_insTm {t u : Tm} : ∀ {l : List Tm}, u ∈ insTm t l ↔ u = t ∨ u ∈ l
 | [] => by simp [insTm]
 | x :: xs => by
  simp only [insTm]
  split
  ·simp only [List.mem_cons, mem_insTm (l := xs)]
   constructor
   ·rintro (h | h | h) <;> simp [h]
   ·rintro (h | h | h) <;> simp [h]
  ·split
   ·rename_i h0
    have e := cmpTm_zero h0
    simp only [List.mem_cons]
    constructor
    ·exact fun h => .inr h
    ·rintro (h | h)
     ·exact .inl (by rw [h, e])
     ·exact h
   ·simp only [List.mem_cons]
theorem Asc.ins {t : Tm} : ∀ {l : List Tm}, Asc l -> Asc (insTm t l)
 | [], _ => by simp [insTm, Asc]
 | x :: xs, h => by
  have h1 := List.pairwise_cons.1 h
  simp only [insTm]
  split
  ·rename_i hx
   refine List.pairwise_cons.2 ⟨fun u hu => ?_, Asc.ins h1.2⟩
   rcases mem_insTm.1 hu with e | hu
   ·rw [e]; exact hx
   ·exact h1.1 u hu
  ·split
   ·exact h
   ·rename_i h2 h3
    have h4 : cmpTm t x < 0 := by rw [cmpTm_neg x t]; omega
    refine List.pairwise_cons.2 ⟨fun u hu => ?_, h⟩
    rcases List.mem_cons.1 hu with e | hu
    ·rw [e]; exact h4
    ·exact cmpTm_lt_trans h4 (h1.1 u hu)
def distTm (l : List Tm) : List Tm := l.foldl (fun r t => insTm t r) []
theorem foldl_ins {l r : List Tm} (h : Asc r) : Asc (l.foldl (fun r t => insTm t r) r) ∧ ∀ u, u ∈ l.foldl (fun r t => insTm t r) r ↔ u ∈ l ∨ u ∈ r := by
 induction l generalizing r with
 | nil => exact ⟨h, fun u => by simp⟩
 | cons x xs ih =>
  have := ih (r := insTm x r) h.ins
  refine ⟨this.1, fun u => ?_⟩
  rw [List.foldl_cons, this.2, mem_insTm, List.mem_cons]
  constructor
  ·rintro (h | h | h)
   ·exact .inl (.inr h)
   ·exact .inl (.inl h)
   ·exact .inr h
  ·rintro ((h | h) | h)
   ·exact .inr (.inl h)
   ·exact .inl h
   ·exact .inr (.inr h)
theorem distTm_asc (l : List Tm) : Asc (distTm l) := (foldl_ins List.Pairwise.nil).1
theorem mem_distTm {l : List Tm} {u : Tm} : u ∈ distTm l ↔ u ∈ l := by
 have := (foldl_ins (l := l) (r := []) List.Pairwise.nil).2 u
 simpa [distTm] using this
theorem distTm_eq {l l' : List Tm} (h : Asc l') (hm : ∀ t, t ∈ l' ↔ t ∈ l) : distTm l = l' := (distTm_asc l).ext h fun t => mem_distTm.trans (hm t).symm
mutual
def varsTm : Tm -> List Tm
 | .mk op nm so args => if op = -1 then [.mk (-1) nm so []] else varsTms args
def varsTms : List Tm -> List Tm
 | [] => []
 | t :: ts => varsTm t ++ varsTms ts
end
def varsOf (t : Tm) : List Tm := distTm (varsTm t)
end Go.Proofs.YtohilkmdjdfljaaGreat
namespace Go.Proofs.YtohilkmdjdfljaaGreat
open Go.RowKit
structure TabN (z : Int) (n : Nat) (ac : Bool) (l : List Int) : Prop where
 lo : 1 <= z
 hi : z <= 4
 len : l.length = z.toNat ^ n
 all : ∀ x ∈ l, 0 <= x ∧ x < z
 le3 : n <= 3
 as2 : ac = true -> n = 2
def In0 (z x : Int) : Prop := 0 <= x ∧ x < z
theorem pow_int {z : Int} (h : 1 <= z) (n : Nat) : ((z.toNat ^ n : Nat) : Int) = z ^ n := by
 rw [Int.natCast_pow, Int.toNat_of_nonneg (by omega)]
theorem TabN.get {z : Int} {n : Nat} {ac : Bool} {l : List Int} (h : TabN z n ac l) {k : Int} (h0 : 0 <= k) (h1 : k < z ^ n) : l[k.toNat]? = some (l.getD k.toNat 0) ∧ In0 z (l.getD k.toNat 0) := by
 have hl : k.toNat < l.length := by
  have := pow_int h.lo n
  have e := h.len
  omega
 rw [List.getD_eq_getElem?_getD, List.getElem?_eq_getElem hl]
 exact ⟨rfl, h.all _ (List.getElem_mem hl)⟩
theorem op_cases {g : Sgn} {t : Tm} (h : NodeOk g t) : (VarOk g t ∧ t.op < 0) ∨ (0 <= t.op ∧ ∃ o d, AppOk g t o d) := by
 rcases h with h | ⟨o, d, h⟩
 ·exact .inl ⟨h, by have := h.1; omega⟩
 ·exact .inr ⟨h.lo, o, d, h⟩
end Go.Proofs.YtohilkmdjdfljaaGreat
namespace Go.Proofs.YtohilkmdjdfljaaGreat
open Go.RowKit
def OwnVs (w : World) : List (List C) -> (Nat -> Prop) -> List (List Value) -> Prop
 | [], _, [] => True
 | r :: rs, S, us :: uss => ∃ S1 S2 : Nat -> Prop, (∀ x, S1 x -> S x) ∧ (∀ x, S2 x -> S x) ∧ (∀ x, S1 x -> S2 x -> False) ∧ OwnVals w r S1 us ∧ OwnVs w rs S2 uss
 | _, _, _ => False
def litRow (us : List Value) : List C := us.map .lit
section
variable {w w' : World}
theorem OwnVs.keep (hz : w.heap.size <= w'.heap.size) : ∀ (rows : List (List C)) (S S' : Nat -> Prop) (uss : List (List Value)), (∀ b, S b -> w'.heap[b]? = w.heap[b]?) -> (∀ b, S b -> S' b) -> OwnVs w rows S uss -> OwnVs w' rows S' uss
 | [], _, _, [], _, _, _ => trivial
 | r :: rs, S, S', us :: uss, hk, hS, h => by
  obtain ⟨S1, S2, h1, h2, hd, hr, hrs⟩ := h
  exact ⟨S1, S2, fun x hx => hS x (h1 x hx), fun x hx => hS x (h2 x hx), hd, OwnVals.keep hz r S1 S1 us (fun x hx => hk x (h1 x hx)) (fun _ h => h) hr, OwnVs.keep hz rs S2 S2 uss (fun x hx => hk x (h2 x hx)) (fun _ h => h) hrs⟩
 | [], _, _, _ :: _, _, _, h => h.elim
 | _ :: _, _, _, [], _, _, h => h.elim
theorem OwnVs.len : ∀ {rows : List (List C)} {S : Nat -> Prop} {uss : List (List Value)}, OwnVs w rows S uss -> uss.length = rows.length
 | [], _, [], _ => rfl
 | r :: rs, S, us :: uss, ⟨S1, S2, _, _, _, _, h⟩ => by simp [OwnVs.len h]
theorem OwnVs.snoc : ∀ {rows : List (List C)} {r : List C} {S S1 S2 : Nat -> Prop} {uss : List (List Value)} {us : List Value}, OwnVs w rows S1 uss -> OwnVals w r S2 us -> (∀ x, S1 x -> S x) -> (∀ x, S2 x -> S x) -> (∀ x, S1 x -> S2 x -> False) -> OwnVs w (rows ++ [r]) S (uss ++ [us])
 | [], r, S, S1, S2, [], us, _, h2, i1, i2, hd => ⟨S2, fun _ => False, i2, fun _ h => h.elim, fun _ _ h => h, h2, trivial⟩
 | q :: qs, r, S, S1, S2, vs :: vss, us, ⟨T1, T2, a1, a2, a3, a4, a5⟩, h2, i1, i2, hd =>
  ⟨T1, fun x => T2 x ∨ S2 x, fun x hx => i1 x (a1 x hx), fun x hx => hx.elim (fun h => i1 x (a2 x h)) (i2 x), fun x hx hy => hy.elim (a3 x hx) (hd x (a1 x hx)), a4,
   OwnVs.snoc a5 h2 (fun _ h => .inl h) (fun _ h => .inr h) (fun x hx hy => hd x (a2 x hx) hy)⟩
 | [], _, _, _, _, _ :: _, _, h, _, _, _, _ => h.elim
 | _ :: _, _, _, _, _, [], _, h, _, _, _, _ => h.elim
theorem OwnVs.get : ∀ {rows : List (List C)} {S : Nat -> Prop} {uss : List (List Value)} {i : Nat} {r : List C} {us : List Value}, OwnVs w rows S uss -> rows[i]? = some r -> uss[i]? = some us -> OwnVals w r S us
 | r :: rs, S, us :: uss, 0, r', us', ⟨S1, S2, h1, _, _, h, _⟩, hr, hu => by
  simp at hr hu; subst hr hu
  exact OwnVals.keep (Nat.le_refl _) r S1 S us (fun _ _ => rfl) h1 h
 | r :: rs, S, us :: uss, i + 1, r', us', ⟨S1, S2, _, h2, _, _, h⟩, hr, hu =>
  OwnVals.keep (Nat.le_refl _) r' S2 S us' (fun _ _ => rfl) h2 (OwnVs.get h (by simpa using hr) (by simpa using hu))
 | [], _, _, _, _, _, _, hr, _ => by simp at hr
 | _ :: _, _, [], _, _, _, h, _, _ => h.elim
theorem OwnVs.stable (rows : List (List C)) (E : Nat -> Prop) (uss : List (List Value)) : StableOn E (fun w => OwnVs w rows E uss) := fun w w' hz hk h => OwnVs.keep hz rows E E uss hk (fun _ h => h) h
theorem OwnVals.stable (r : List C) (E : Nat -> Prop) (us : List Value) : StableOn E (fun w => OwnVals w r E us) := fun w w' hz hk h => OwnVals.keep hz r E E us hk (fun _ h => h) h
theorem Own.stable (c : C) (E : Nat -> Prop) (v : Value) : StableOn E (fun w => Own w c E v) := fun w w' hz hk h => Own.keep hz c E E v hk (fun _ h => h) h
theorem RepVals_lit {S : Nat -> Prop} : ∀ {us vs : List Value}, RepVals w S (litRow us) vs -> vs = us
 | [], [], _ => rfl
 | u :: us, v :: vs, h => by
  simp only [litRow, List.map_cons, RepVals, Rep] at h
  rw [h.1, RepVals_lit h.2]
 | [], _ :: _, h => by simp [litRow, RepVals] at h
 | _ :: _, [], h => by simp [litRow, RepVals] at h
theorem OwnRows.close {b : Nat} {T : Nat -> Prop} : ∀ {rows : List (List C)} {uss : List (List Value)} {S : Nat -> Prop} {off : Nat}, RepRows w T b off (uss.map litRow) -> OwnVs w rows S uss -> OwnRows w b rows S off
 | [], [], _, _, _, _ => by simp [OwnRows]
 | r :: rs, us :: uss, S, off, hr, ⟨S1, S2, h1, h2, hd, hv, hvs⟩ => by
  simp only [List.map_cons, RepRows] at hr
  simp only [OwnRows]
  obtain ⟨vs, q1, q2⟩ := hr.1.vals
  have e := RepVals_lit q1
  subst e
  have hl : (litRow vs).length = r.length := by simp [litRow, OwnVals.len hv]
  refine ⟨S1, S2, h1, h2, hd, OwnRow.of_vals r S1 vs off hv q2, ?_⟩
  rw [<- hl]
  exact OwnRows.close hr.2 hvs
 | [], _ :: _, _, _, _, h => h.elim
 | _ :: _, [], _, _, _, h => h.elim
theorem Own.close {T : Nat -> Prop} {ety sz : Nat} {rows : List (List C)} {uss : List (List Value)} {E : Nat -> Prop} {a : Option Addr} {cap : Nat} (hb : BufRel w T ety sz (uss.map litRow) (.slice a uss.length cap)) (hv : OwnVs w rows E uss) (hd : ∀ b, vblk (.slice a uss.length cap) = some b -> ¬ E b) :
  Own w (.sl rows) (fun b => vblk (.slice a uss.length cap) = some b ∨ E b) (.slice a uss.length cap) := by
 have hlen := hv.len
 obtain ⟨h1, h2, h3⟩ := hb
 simp only [Own]
 rcases h3 with ⟨h4, a', h5⟩ | ⟨g, cap', cur, h5, hc, hg, hs, hh, hl, hm, hcs, hr⟩
 ·injection h5 with e1 e2 e3
  subst e1 e3
  have hu0 : uss = [] := by simpa using h4
  exact ⟨a, uss.length, 0, rfl, hlen.symm, by rw [hu0]; exact Nat.le_refl _, by decide, fun h => absurd h (by decide)⟩
 ·injection h5 with e1 e2 e3
  subst e1 e3
  have hvb : vblk (.slice (some ⟨g, 0, none⟩) uss.length cap) = some g := by simp only [vblk]; rw [if_neg (by omega)]
  simp only [List.length_map] at hl
  refine ⟨_, uss.length, cap, rfl, hlen.symm, hl, hm, fun h0 => ⟨g, 0, E, rfl, .inl hvb, hg, ⟨fun o => frozen_of_row w g o cur ety hh, rfl, cur, ety, sz, hh, hcs, h1, fun r hr0 => ?_⟩, fun x hx => ⟨.inr hx, fun e => hd g hvb (e ▸ hx)⟩, OwnRows.close hr hv⟩⟩
  obtain ⟨i, hi⟩ := List.getElem?_of_mem hr0
  have hil := (List.getElem?_eq_some_iff.1 hi).1
  obtain ⟨us, hu⟩ : ∃ us, uss[i]? = some us := ⟨_, List.getElem?_eq_getElem (by omega)⟩
  have hq := (h2 (litRow us) (List.mem_map.2 ⟨us, List.mem_of_getElem? hu, rfl⟩)).1
  have hq2 := OwnVals.len (hv.get hi hu)
  simp only [litRow, List.length_map] at hq
  omega
theorem OwnRow.open {b : Nat} : ∀ {cs : List C} {S : Nat -> Prop} {off : Nat}, OwnRow w b cs S off -> ∃ us, OwnVals w cs S us ∧ ∀ j u, us[j]? = some u -> w.cell? ⟨b, off + j, none⟩ = some u
 | [], S, off, _ => ⟨[], OwnVals.nil, fun j u h => by simp at h⟩
 | c :: cs, S, off, h => by
  simp only [OwnRow] at h
  obtain ⟨S1, S2, u, h1, h2, hd, hu, hc, hcs⟩ := h
  obtain ⟨us, k1, k2⟩ := OwnRow.open hcs
  refine ⟨u :: us, OwnVals.cons S1 S2 hc k1 h1 h2 hd, fun j v hj => ?_⟩
  cases j with
  | zero => simp at hj; subst hj; exact hu
  | succ j => have := k2 j v (by simpa using hj); rw [<- this]; congr 2; omega
theorem OwnRows.open {b : Nat} : ∀ {rows : List (List C)} {S : Nat -> Prop} {off : Nat}, OwnRows w b rows S off -> ∃ uss, OwnVs w rows S uss ∧ ∀ T : Nat -> Prop, RepRows w T b off (uss.map litRow)
 | [], S, off, _ => ⟨[], trivial, fun T => by simp [RepRows]⟩
 | r :: rs, S, off, h => by
  simp only [OwnRows] at h
  obtain ⟨S1, S2, h1, h2, hd, hr, hrs⟩ := h
  obtain ⟨us, k1, k2⟩ := OwnRow.open hr
  obtain ⟨uss, k3, k4⟩ := OwnRows.open hrs
  refine ⟨us :: uss, ⟨S1, S2, h1, h2, hd, k1, k3⟩, fun T => ?_⟩
  simp only [List.map_cons, RepRows]
  refine ⟨RepRow.of_vals _ us off (RepVals_lits us) k2, ?_⟩
  rw [show (litRow us).length = r.length by simp [litRow, k1.len]]
  exact k4 T
theorem OwnVals.cells : ∀ {cs : List C} {S : Nat -> Prop} {us : List Value}, OwnVals w cs S us -> cs.all okCell = true -> (litRow us).all okCell = true
 | [], _, [], _, _ => rfl
 | c :: cs, S, u :: us, h, hc => by
  simp only [OwnVals] at h
  obtain ⟨S1, S2, _, _, _, h1, h2⟩ := h
  simp only [List.all_cons, Bool.and_eq_true] at hc
  simp only [litRow, List.map_cons, List.all_cons, Bool.and_eq_true]
  exact ⟨okCell_one (c := c) hc.1 (Own.rep c S1 u h1), OwnVals.cells h2 hc.2⟩
 | [], _, _ :: _, h, _ => by simp [OwnVals] at h
 | _ :: _, _, [], h, _ => by simp [OwnVals] at h
theorem Own.open {T : Nat -> Prop} {rows : List (List C)} {E : Nat -> Prop} {a : Option Addr} {n cap sz : Nat} (hT : ∀ b, E b -> ¬ T b) (hne : rows ≠ []) (hrl : rowsLen sz rows) (h : Own w (.sl rows) E (.slice a n cap)) :
  ∃ uss ety E', n = uss.length ∧ BufRel w T ety sz (uss.map litRow) (.slice a uss.length cap) ∧ OwnVs w rows E' uss ∧ (∀ b, E' b -> E b ∧ vblk (.slice a uss.length cap) ≠ some b) ∧ ∀ b, vblk (.slice a uss.length cap) = some b -> E b := by
 simp only [Own] at h
 obtain ⟨A, n', cap', hv, hn, hle, hmx, hb⟩ := h
 injection hv with e1 e2 e3
 subst e1 e2 e3
 have h0 : 0 < rows.length := List.length_pos_iff.2 hne
 obtain ⟨b, off, S', rfl, hEb, hbl, ⟨hfr, rfl, cur, ety, sz', hh, hcs, hz, hrs⟩, hS', hrows⟩ := hb (by omega)
 obtain ⟨uss, k1, k2⟩ := OwnRows.open hrows
 have hl := k1.len
 have hsz : sz' = sz := by
  obtain ⟨r, hr⟩ := List.exists_mem_of_ne_nil _ hne
  rw [<- hrs r hr, (hrl r hr).1]
 subst hsz
 have hvb : vblk (.slice (some ⟨b, 0, none⟩) uss.length cap) = some b := by simp only [vblk]; rw [if_neg (by omega)]
 have hrow : rowsLen sz' (uss.map litRow) := fun x hx => by
  obtain ⟨us, hus, rfl⟩ := List.mem_map.1 hx
  obtain ⟨i, hi⟩ := List.getElem?_of_mem hus
  have hil := (List.getElem?_eq_some_iff.1 hi).1
  obtain ⟨r, hr⟩ : ∃ r, rows[i]? = some r := ⟨_, List.getElem?_eq_getElem (by omega)⟩
  have hov := k1.get hr hi
  have hrm := hrl r (List.mem_of_getElem? hr)
  exact ⟨by simp only [litRow, List.length_map]; rw [hov.len]; exact hrm.1, hov.cells hrm.2⟩
 refine ⟨uss, ety, S', by omega, ⟨hz, hrow, .inr ⟨b, cap, cur, by simp, by omega, hbl, hT b hEb, hh, by simp only [List.length_map]; omega, hmx, hcs, k2 T⟩⟩, k1, fun x hx => ⟨(hS' x hx).1, fun e => ?_⟩, fun x hx => ?_⟩
 ·rw [hvb] at e; injection e with e; exact (hS' x hx).2 e.symm
 ·rw [hvb] at hx; injection hx with hx; rw [<- hx]; exact hEb
end
theorem apart_1 (x : Bk) : Apart [x] := ⟨by simp, trivial⟩
theorem re_none : Retold [] [.set (fun _ => False) (fun w => OwnVs w [] (fun _ => False) [])] := fun w S _ _ =>
 ⟨fun x hx => by simp at hx; subst hx; exact ⟨fun b h => h.elim, trivial, OwnVs.stable _ _ _⟩, apart_1 _, fun g ⟨x, hx, hg⟩ => by simp at hx; subst hx; exact hg.elim⟩
theorem re_close {a : Option Addr} {cap ety sz : Nat} {uss : List (List Value)} {rows : List (List C)} {E : Nat -> Prop} {G' : World -> Prop} (hG : ∀ w, Own w (.sl rows) (fun b => vblk (.slice a uss.length cap) = some b ∨ E b) (.slice a uss.length cap) -> G' w) (hst : StableOn (fun b => vblk (.slice a uss.length cap) = some b ∨ E b) G') :
  Retold [.buf (some (a, cap)) ety sz (uss.map litRow), .set E (fun w => OwnVs w rows E uss)] [.set (fun b => vblk (.slice a uss.length cap) = some b ∨ E b) G'] := fun w S h ha => by
 have h1 : BufRel w S ety sz (uss.map litRow) (.slice a (uss.map litRow).length cap) := h (.buf (some (a, cap)) ety sz (uss.map litRow)) (by simp)
 have h2 := h (.set E (fun w => OwnVs w rows E uss)) (by simp)
 have hd := ha.1 (.set E (fun w => OwnVs w rows E uss)) (by simp)
 rw [List.length_map] at h1
 simp only [pblk, List.length_map] at hd
 refine ⟨fun x hx => ?_, apart_1 _, fun g ⟨x, hx, hg⟩ => ?_⟩
 ·simp at hx; subst hx
  refine ⟨fun b hb => ?_, hG w (Own.close h1 h2.2.1 hd), hst⟩
  rcases hb with hb | hb
  ·exact Own1.lt (L := ⟨fun _ => 0, fun _ => .slice a uss.length cap⟩) (k := 0) (bk := .buf none ety sz (uss.map litRow)) ⟨by simp, h1⟩ hb
  ·exact h2.1 b hb
 ·simp at hx; subst hx
  rcases hg with hg | hg
  ·exact ⟨.buf (some (a, cap)) ety sz (uss.map litRow), by simp, by simp only [pblk, List.length_map]; exact hg⟩
  ·exact ⟨.set E (fun w => OwnVs w rows E uss), by simp, hg⟩
def RTree (row : List C) (r : List D) (pm : List Bk) : Prop := ∃ us E, r = [.agg (litRow us)] ∧ us.length = row.length ∧ (litRow us).all okCell = true ∧ pm = [.set E (fun w => OwnVals w row E us)]
def RTrees (ety sz : Nat) (rows : List (List C)) (r : List D) (pm : List Bk) : Prop := ∃ a cap uss E, r = [.one (.lit (.slice a uss.length cap))] ∧ uss.length = rows.length ∧ pm = [.buf (some (a, cap)) ety sz (uss.map litRow), .set E (fun w => OwnVs w rows E uss)]
theorem RTree.mk {row : List C} {us : List Value} {E : Nat -> Prop} (h : us.length = row.length) (hok : (litRow us).all okCell = true) : RTree row [.agg (litRow us)] [.set E (fun w => OwnVals w row E us)] := ⟨us, E, rfl, h, hok, rfl⟩
theorem RTrees.mk {ety sz : Nat} {rows : List (List C)} {a : Option Addr} {cap : Nat} {uss : List (List Value)} {E : Nat -> Prop} (h : uss.length = rows.length) : RTrees ety sz rows [.one (.lit (.slice a uss.length cap))] [.buf (some (a, cap)) ety sz (uss.map litRow), .set E (fun w => OwnVs w rows E uss)] := ⟨a, cap, uss, E, rfl, h, rfl⟩
end Go.Proofs.YtohilkmdjdfljaaGreat
namespace Go.Proofs.YtohilkmdjdfljaaGreat
open Go.RowKit
theorem flat_take {n : Nat} : ∀ {rows : List (List C)} (l : Nat), rowsLen n rows -> (rows.take l).flatten = rows.flatten.take (l * n)
 | [], l, _ => by simp
 | r :: rs, 0, _ => by simp
 | r :: rs, l + 1, h => by
  have h1 := (h r List.mem_cons_self).1
  have h2 := flat_take (n := n) l (fun x hx => h x (List.mem_cons_of_mem _ hx) : rowsLen n rs)
  simp only [List.take_succ_cons, List.flatten_cons, h2]
  rw [show (l + 1) * n = r.length + l * n by rw [h1, Nat.succ_mul, Nat.add_comm], List.take_length_add_append]
theorem flat_drop {n : Nat} : ∀ {rows : List (List C)} (l : Nat), rowsLen n rows -> (rows.drop l).flatten = rows.flatten.drop (l * n)
 | [], l, _ => by simp
 | r :: rs, 0, _ => by simp
 | r :: rs, l + 1, h => by
  have h1 := (h r List.mem_cons_self).1
  have h2 := flat_drop (n := n) l (fun x hx => h x (List.mem_cons_of_mem _ hx) : rowsLen n rs)
  simp only [List.drop_succ_cons, List.flatten_cons, h2]
  rw [show (l + 1) * n = r.length + l * n by rw [h1, Nat.succ_mul, Nat.add_comm], List.drop_length_add_append]
section
variable {e : Env} {U : Nat -> Prop} {w0 : World} {S0 : Nat -> Prop} {nt : Nat} {σ : St} {a : Act} {w : World} {S : Nat -> Prop} {L : Lay}
theorem Sim.storeRows (h : Sim e U w0 S0 nt σ a w S L) (he : e.Ok) {o : Option (Option Addr × Nat)} {k l g ety sz : Nat} {rows news : List (List C)} {vs : List Value} (hm : gm σ.m k = some (.buf o ety sz rows)) (hg : vblk (L.v k) = some g) (hl : l + news.length <= rows.length) (hn : rowsLen sz news) (hu : RepVals w S news.flatten vs) :
  ∃ w', (storeCells ⟨g, l * sz, none⟩ vs).run e.P w = .ok () w' ∧ SimE e U w0 S0 nt ⟨σ.s, (k, .buf o ety sz (rows.take l ++ news ++ rows.drop (l + news.length))) :: remM k σ.m⟩ a w' := by
 obtain ⟨hb0, hs0, hrl, h3⟩ := h.cls.own k _ hm
 have hvl := hu.len
 have h1 := flat_ok hn
 rw [flat_len hn] at hvl
 rcases h3 with ⟨h3, p, h4⟩ | ⟨g', cap, cur, hv, hcp, hg1, hg2, hheap0, hlen, hcap, hcs, hrows⟩
 ·rw [h4] at hg; cases p <;> simp [vblk] at hg
 ·have hgg : g' = g := by rw [hv] at hg; simp only [vblk] at hg; rw [if_neg (by omega)] at hg; injection hg
  subst hgg
  have hfl := flat_len hrl
  have hin : l * sz + vs.length <= rows.length * sz := by
   have := Nat.mul_le_mul_right sz hl
   rw [Nat.add_mul] at this
   omega
  have hin2 : rows.length * sz <= cap * sz := Nat.mul_le_mul_right sz hlen
  have hst := run_storeCells_at e.P g' (l * sz) ety vs 0 cur w hheap0 (by rw [hcs]; omega) (okCell_all h1 hu)
  simp only [Nat.add_zero] at hst
  have hput := put_setRow w g' (l * sz) ety vs cur hheap0 (by rw [hcs]; omega)
  refine ⟨_, hst, ?_⟩
  have hheap := setRow_heap w g' cur (cur.toList.take (l * sz) ++ vs ++ cur.toList.drop (l * sz + vs.length)).toArray ety _ hheap0
  have hdr : (w.setRow g' (cur.toList.take (l * sz) ++ vs ++ cur.toList.drop (l * sz + vs.length)).toArray).drawn = w.drawn := setRow_drawn _ _ _
  generalize hW : w.setRow g' (cur.toList.take (l * sz) ++ vs ++ cur.toList.drop (l * sz + vs.length)).toArray = W at hput hheap hdr ⊢
  have hsz : W.heap.size = w.heap.size := hput.size
  have hkc : ∀ b o, S b -> W.cell? ⟨b, o, none⟩ = w.cell? ⟨b, o, none⟩ := fun b o hs => cell_of_heap (hput.other b (fun e => hg2 (e ▸ hs))) o
  have hbk : blkOf L k (.buf o ety sz rows) g' := hg
  have hln : (rows.take l ++ news ++ rows.drop (l + news.length)).length = rows.length := by simp; omega
  have hown : Own1 W S L k (.buf o ety sz (rows.take l ++ news ++ rows.drop (l + news.length))) := by
   simp only [Own1]
   refine ⟨fun a ha => by rw [hb0 a ha, hln], hs0, fun x hx => ?_, .inr ⟨g', cap, _, by rw [hv, hln], hcp, by omega, hg2, hheap, by rw [hln]; exact hlen, hcap, by simp; omega, ?_⟩⟩
   ·rcases List.mem_append.1 hx with hx | hx
    ·rcases List.mem_append.1 hx with hx | hx
     ·exact hrl x (List.mem_of_mem_take hx)
     ·exact hn x hx
    ·exact hrl x (List.mem_of_mem_drop hx)
   ·apply RepRows.of_flat
    rw [List.flatten_append, List.flatten_append, flat_take l hrl, flat_drop _ hrl]
    have hz : w.heap.size <= W.heap.size := by omega
    have hf := hrows.flat
    have r1 := RepRow.keepAt (S' := S) hz hkc (fun _ h => h) g' 0 (rows.flatten.take (l * sz)) (fun i hi => hput.old _ (.inl (by simp at hi; omega))) (hf.take (l * sz))
    have r3 : RepRow W S g' (l * sz) news.flatten := RepRow.of_vals _ vs _ (RepVals.keep2 hz hkc (fun _ h => h) hu) hput.new
    have r5 := RepRow.keepAt (S' := S) hz hkc (fun _ h => h) g' _ (rows.flatten.drop ((l + news.length) * sz)) (fun i hi => hput.old _ (.inr (by rw [hvl]; rw [Nat.add_mul]; omega))) (hf.drop ((l + news.length) * sz))
    have l1 : (rows.flatten.take (l * sz)).length = l * sz := by rw [List.length_take, hfl]; omega
    refine RepRow.append _ _ 0 (RepRow.append _ _ 0 r1 ?_) ?_
    ·rw [l1, Nat.zero_add]; exact r3
    ·rw [List.length_append, l1, flat_len hn, <- Nat.add_mul]
     exact r5
  obtain ⟨t1, t2, t3⟩ := h.touch he (d := k) (bk := .buf o ety sz (rows.take l ++ news ++ rows.drop (l + news.length))) (m' := (k, .buf o ety sz (rows.take l ++ news ++ rows.drop (l + news.length))) :: remM k σ.m) (w' := W) (L' := L) (τ := some g') (fun _ h => h) (fun _ h => .inl h)
   (fun k' x hkd hx => by simp only [gm, hkd, if_false, gm_remM] at hx; exact hx) (by simp [gm]) (fun _ _ => ⟨rfl, rfl⟩)
   (fun q hq => by injection hq with hq; subst hq; exact ⟨hg2, h.cls.notE hm hbk, h.cls.mine k _ _ hm hbk⟩)
   (fun k' x q hkd hx hq hb => by
    injection hq with hq; subst hq
    simp only [gm, hkd, if_false, gm_remM] at hx
    exact hkd (h.cls.inj k' k x _ _ hx hm hb hbk))
   ⟨hput.os, hput.tape, hput.output, fun _ => Nat.le_of_eq hdr.symm, by omega, fun b hb hE => hput.other b (fun eq => hE (by rw [eq]))⟩ hown (fun q hq => .inl (by rw [<- hq]; exact hg.symm))
  exact ⟨S, L, t1, fun t => t3 _ _ (fun _ => ⟨rfl, rfl⟩) (h.rel t), h.size, h.defers, t2⟩
end
section
variable {e : Env} {σ : St} {o : Oper} {K : St -> Prop}
theorem step_sub {t : TypeId} {x : Operand} {lo hi : Option Operand} (ho : o.op = .slice t x lo hi none) {k cap ety sz : Nat} {a : Option Addr} {rows : List (List C)} {l h : Int} (hx : nrm σ.m (evA σ.s x) = .buf k) (hm : gm σ.m k = some (.buf (some (a, cap)) ety sz rows)) (ht : elemT e.P t = some sz)
  (hlo : loA (lo.map (evA σ.s)) = some l) (hhi : hiA rows.length (hi.map (evA σ.s)) = some h) (hb : 0 <= l ∧ l <= h ∧ h <= rows.length) (hK : K ⟨setA σ.s o.dst (.d (.one (.lit (sliced a l.toNat h.toNat cap sz)))), σ.m⟩) : StepOk e o σ K := by
 intro he U w0 S0 nt ac w Q hd ⟨S, L, h1⟩
 refine Oper.wp_mono (fun a' w' hs => ⟨_, hK, hs⟩) (gives_then h1 hd (givesA_pure fun w S L ρv hC hr => ?_))
 have hx' := nrm_rel hC (hr x (by simp [ho, Op.operands]))
 rw [hx] at hx'
 have hx' : ρv x = L.v k := hx'
 obtain ⟨hpl, _, _, hbuf⟩ := hC.own k _ hm
 have hv : L.v k = .slice a rows.length cap := hpl (a, cap) rfl
 have hcap : rows.length <= cap := by
  rcases hbuf with ⟨h4, _⟩ | ⟨g, cap', cur, h4, _, _, _, _, h5, _⟩
  ·rw [h4]; exact Nat.zero_le _
  ·rw [hv] at h4; injection h4 with _ _ h4; rw [h4]; exact h5
 have hel : ∃ ety i, e.P.underlying t = some (.slice ety) ∧ e.P.info? ety = some i ∧ i.size = sz := by
  unfold elemT at ht
  split at ht
  ·rename_i ety hu
   simp only [Option.map_eq_some_iff] at ht
   obtain ⟨i, hi, hs⟩ := ht
   exact ⟨ety, i, hu, hi, hs⟩
  ·cases ht
 obtain ⟨el, i, hu, hi', hsz⟩ := hel
 have hlo := loA_spec (w := w) (S := S) (L := L) (ρv := ρv) hlo (fun y hy => hr y (by simp [ho, Op.operands, hy]))
 have hhi := hiA_spec (w := w) (S := S) (L := L) (ρv := ρv) hhi (fun y hy => hr y (by simp [ho, Op.operands, hy]))
 refine ⟨sliced a l.toNat h.toNat cap sz, ?_, by simp [ARel, DRel, Rep]⟩
 have hbnd : (Instr.sliceBounds true rows.length cap (lo.map ρv) (hi.map ρv) none).run e.P w = .ok (l.toNat, h.toNat, cap) w := by
  have eh : (h.toNat : Int) = h := Int.toNat_of_nonneg (by omega)
  have b1 : 0 <= h := by omega
  have b2 : h <= (cap : Int) := by omega
  have b3 : 0 <= l := hb.1
  have b4 : l <= h := hb.2.1
  rcases hlo with ⟨rfl, rfl⟩ | e1 <;> rcases hhi with ⟨rfl, e2⟩ | e2
  ·simp [Instr.sliceBounds, e2, Result.andThen]
  ·simp [Instr.sliceBounds, e2, Result.andThen, run_sliceBound, b1, b2]
  ·have b5 : l <= (rows.length : Int) := by omega
   simp [Instr.sliceBounds, e1, e2, Result.andThen, run_sliceBound, b3, b5]
  ·simp [Instr.sliceBounds, e1, e2, Result.andThen, run_sliceBound, b1, b2, b3, b4, eh]
 simp only [execOp, ho, Sem.run_bind, hx', hv, Instr.sliceAt, Instr.slice, underlying, run_program, Result.andThen_ok, hu, Sem.run_pure, Option.map_none, hbnd, sizeOf, typeInfo, hi', hsz, sliced]
theorem gives_subAddr {U : Nat -> Prop} {base : Nat} {S0 : Nat -> Prop} {t : TypeId} {x i : Operand} (ho : o.op = .indexAddr t x i) {k cap ety sz l h : Nat} {a : Option Addr} {rows : List (List C)} {j : Int} (hx : evA σ.s x = .d (.one (.lit (sliced a l h cap sz)))) (hi : evA σ.s i = .d (.one (.lit (.int .i64 j)))) (hm : gm σ.m k = some (.buf (some (a, cap)) ety sz rows)) (ht : elemT e.P t = some sz)
  (hb : 0 <= j ∧ l + j < h ∧ h <= rows.length) : GivesA e U base S0 σ.m o (evA σ.s) (.row k (l + j.toNat) sz 0) := by
 refine givesA_pure fun w S L ρv hC hr => ?_
 have hx' := hr x (by simp [ho, Op.operands])
 have hi' := hr i (by simp [ho, Op.operands])
 rw [hx] at hx'
 rw [hi] at hi'
 have hx' := lit_val hx'
 have hi' := lit_val hi'
 obtain ⟨hpl, _, _, hbuf⟩ := hC.own k _ hm
 have hv : L.v k = .slice a rows.length cap := hpl (a, cap) rfl
 rcases hbuf with ⟨h4, _⟩ | ⟨g, cap', cur, h4, h6, _, _, _, h5, _⟩
 ·rw [h4] at hb; simp at hb; omega
 ·rw [hv] at h4
  injection h4 with h7 _ h8
  subst h7 h8
  have hlc : ¬ cap = l := by omega
  have hval : sliced (some ⟨g, 0, none⟩) l h cap sz = .slice (some ⟨g, l * sz, none⟩) (h - l) (cap - l) := by
   simp only [sliced, hlc, if_false, Option.map_some, Addr.add_at, Nat.zero_add]
  refine ⟨.pointer (some ⟨g, (l + j.toNat) * sz + 0, none⟩), ?_, g, ?_, rfl⟩
  ·unfold elemT at ht
   split at ht
   ·rename_i el hu
    simp only [Option.map_eq_some_iff] at ht
    obtain ⟨ii, hii, hn⟩ := ht
    have hlt : j < ((h - l : Nat) : Int) := by omega
    have hj := hb.1
    have e2 : l * sz + j.toNat * sz = (l + j.toNat) * sz + 0 := by rw [Nat.add_mul]; rfl
    simp [execOp, ho, hi', hx', hval, Instr.indexAt, asIntOf, underlying, hu, sizeOf, typeInfo, hii, hn, Addr.add_at, hj, hlt, Result.andThen, e2]
   ·cases ht
  ·rw [hv]; simp only [vblk]; rw [if_neg (by omega)]
theorem step_subAddr {t : TypeId} {x i : Operand} (ho : o.op = .indexAddr t x i) {k cap ety sz l h : Nat} {a : Option Addr} {rows : List (List C)} {j : Int} (hx : evA σ.s x = .d (.one (.lit (sliced a l h cap sz)))) (hi : evA σ.s i = .d (.one (.lit (.int .i64 j)))) (hm : gm σ.m k = some (.buf (some (a, cap)) ety sz rows)) (ht : elemT e.P t = some sz)
  (hb : 0 <= j ∧ l + j < h ∧ h <= rows.length) (hK : K ⟨setA σ.s o.dst (.row k (l + j.toNat) sz 0), σ.m⟩) : StepOk e o σ K := by
 intro he U w0 S0 nt ac w Q hd ⟨S, L, h1⟩
 exact Oper.wp_mono (fun a' w' hs => ⟨_, hK, hs⟩) (gives_then h1 hd (gives_subAddr ho hx hi hm ht hb))
theorem quiet_subAddr {t : TypeId} {x i : Operand} (ho : o.op = .indexAddr t x i) {k cap ety sz l h : Nat} {a : Option Addr} {rows : List (List C)} {j : Int} (hx : evA σ.s x = .d (.one (.lit (sliced a l h cap sz)))) (hi : evA σ.s i = .d (.one (.lit (.int .i64 j)))) (hm : gm σ.m k = some (.buf (some (a, cap)) ety sz rows)) (ht : elemT e.P t = some sz)
  (hb : 0 <= j ∧ l + j < h ∧ h <= rows.length) (hK : K ⟨setA σ.s o.dst (.row k (l + j.toNat) sz 0), σ.m⟩) : QuietOk e o σ K := fun he => ⟨_, hK, fun U base S0 => gives_subAddr ho hx hi hm ht hb⟩
theorem step_clear {x : Operand} {t : TypeId} (ho : o.op = .call ⟨.builtin .clear, #[x], #[t]⟩) {k cap ety sz by' l : Nat} {a : Option Addr} {rows : List (List C)} {z : List C} (hx : evA σ.s x = .d (.one (.lit (sliced a l rows.length cap sz)))) (hm : gm σ.m k = some (.buf (some (a, cap)) ety sz rows)) (ht : bytesT e.P t = some (ety, sz, by')) (hz : zeroT e.P ety = some z) (hzok : z.all okCell = true) (hl : l < rows.length)
  (hK : K ⟨setA σ.s o.dst (.tup []), (k, .buf (some (a, cap)) ety sz (rows.take l ++ List.replicate (rows.length - l) z)) :: remM k σ.m⟩) : StepOk e o σ K := by
 intro he U w0 S0 nt ac w Q hd ⟨S, L, h1⟩
 have hx' := h1.eval x
 rw [hx] at hx'
 have hx' := lit_val hx'
 obtain ⟨hpl, hs0, _, hbuf⟩ := h1.cls.own k _ hm
 have hv : L.v k = .slice a rows.length cap := hpl (a, cap) rfl
 obtain ⟨i, zv, hu, hi, hzz, hsz, hby, hzs, hs0, hb4⟩ := bytesT_spec ht
 have hzc : z = zv.cells.toList.map toC := by
  unfold zeroT at hz
  simp only [hi, Option.bind_some, hzz, Option.map_some, Option.some.injEq] at hz
  exact hz.symm
 rcases hbuf with ⟨h4, _⟩ | ⟨g, cap', cur, h4, h6, _, _, _, h5, _⟩
 ·rw [h4] at hl; simp at hl
 ·rw [hv] at h4
  injection h4 with h7 _ h8
  subst h7 h8
  have hlc : ¬ cap = l := by omega
  have hval : sliced (some ⟨g, 0, none⟩) l rows.length cap sz = .slice (some ⟨g, l * sz, none⟩) (rows.length - l) (cap - l) := by
   simp only [sliced, hlc, if_false, Option.map_some, Addr.add_at, Nat.zero_add]
  have hn : rowsLen sz (List.replicate (rows.length - l) z) := fun r hr => by
   rw [List.eq_of_mem_replicate hr]
   exact ⟨by rw [hzc]; simp [hzs], hzok⟩
  have hu' : RepVals w S (List.replicate (rows.length - l) z).flatten ((List.replicate (rows.length - l) zv).flatMap fun v => v.cells.toList) := by rw [hzc]; exact rep_zeros _
  obtain ⟨w', hst, hsim⟩ := h1.storeRows he (l := l) (g := g) hm (by rw [hv]; simp only [vblk]; rw [if_neg (by omega)]) (by simp; omega) hn hu'
  rw [List.length_replicate, show l + (rows.length - l) = rows.length by omega, List.drop_length, List.append_nil] at hsim
  obtain ⟨S', L', hsim⟩ := hsim
  have hzc2 : (Builtin.zeroCells zv.cells (rows.length - l)).toList = (List.replicate (rows.length - l) zv).flatMap fun v => v.cells.toList := by
   have := made_cells zv sz hs0 hzs (rows.length - l)
   rw [<- this]
   simp [Builtin.zeroCells, madeCells, hzs]
  have hrun : (execOp ac.eval o).run e.P w = .ok (.value (.tuple #[])) w' := by
   have hne : ¬ (rows.length - l = 0) := by omega
   obtain ⟨q, hq⟩ : ∃ q, rows.length - l = q + 1 := ⟨rows.length - l - 1, by omega⟩
   rw [hq] at hst hzc2
   simp [execOp, ho, resolve, invoke, builtin, Builtin.clear_, hx', hval, hq, underlying, hu, zeroValue, hi, hzz, typeInfo, Result.andThen, hzc2, hst]
  unfold Oper.wp
  rw [hrun, Oper.upon_value]
  refine ⟨_, hK, S', L', hsim.put (α := .tup []) (v := .tuple #[]) ⟨[], rfl, trivial⟩ hd⟩
end
theorem re_cut {a : Option Addr} {cap ety sz : Nat} {rows : List (List C)} (m : Nat) (hm : m <= rows.length) : Retold [.buf (some (a, cap)) ety sz rows] [.buf (some (a, cap)) ety sz (rows.take m)] := fun w S h ha => by
 have hl : (rows.take m).length = m := by rw [List.length_take]; omega
 obtain ⟨h0, hrl, hc⟩ : BufRel w S ety sz rows (.slice a rows.length cap) := h (.buf (some (a, cap)) ety sz rows) (by simp)
 have hb : ∀ b, vblk (.slice a m cap) = some b ↔ vblk (.slice a rows.length cap) = some b := fun b => by cases a <;> simp [vblk]
 refine ⟨fun x hx => ?_, apart_1 _, fun g ⟨x, hx, hg⟩ => ?_⟩
 ·simp only [List.mem_cons, List.not_mem_nil, or_false] at hx
  subst hx
  show BufRel w S ety sz (rows.take m) (.slice a (rows.take m).length cap)
  rw [hl]
  refine ⟨h0, fun r hr => hrl r (List.mem_of_mem_take hr), ?_⟩
  rcases hc with ⟨h4, p, h5⟩ | ⟨g, cap', cur, h4, h5, h6, h7, h8, h9, h10, h11, h12⟩
  ·subst h4
   simp only [List.length_nil, Nat.le_zero_eq] at hm
   subst hm
   exact .inl ⟨by simp, p, by simpa using h5⟩
  ·injection h4 with e1 e2 e3
   subst e1 e3
   refine .inr ⟨g, cap, cur, by rw [hl], h5, h6, h7, h8, by rw [hl]; omega, h10, h11, ?_⟩
   have := RepRows.sub hrl h12 0 m
   simpa using this
 ·simp only [List.mem_cons, List.not_mem_nil, or_false] at hx
  subst hx
  refine ⟨.buf (some (a, cap)) ety sz rows, by simp, ?_⟩
  simp only [pblk, hl] at hg ⊢
  exact (hb g).1 hg
theorem gSub {e : Env} {K : St -> Prop} {ds : List (Option Nat)} {os : List Oper} {d t ty cap ety sz : Nat} {p : String} {ed : Array Edge} {x : Operand} {lo hi : Option Operand} {s : List (Nat × A)} {m : List (Nat × Bk)} {a : Option Addr} {rows : List (List C)} (k l h : Nat) (hb : l <= h ∧ h <= rows.length) (hK : Runs e ds 0 os ⟨(d, .d (.one (.lit (sliced a l h cap sz)))) :: s, m⟩ K)
  (hx : nrm m (evA s x) = .buf k := by first | (simp only [pz, ↓reduceIte, Nat.reduceEqDiff, Nat.reduceAdd, Nat.reduceSub, Nat.reduceMul, Nat.reduceLeDiff, Nat.reduceBEq, Bool.false_eq_true, decide_true, decide_false, Int.reduceLE, Int.reduceToNat, Int.reduceLT, Int.reduceEq, eq_self, Nat.reduceShiftRight, Nat.reduceAnd, Nat.reduceBneDiff, F]; done) | (simp only [pz, ↓reduceIte, Nat.reduceEqDiff, Nat.reduceAdd, Nat.reduceSub, Nat.reduceMul, Nat.reduceLeDiff, Nat.reduceBEq, Bool.false_eq_true, decide_true, decide_false, Int.reduceLE, Int.reduceToNat, Int.reduceLT, Int.reduceEq, eq_self, Nat.reduceShiftRight, Nat.reduceAnd, Nat.reduceBneDiff, F]; exact rfl)) (hm : gm m k = some (.buf (some (a, cap)) ety sz rows) := by simp only [pz, ↓reduceIte, Nat.reduceEqDiff, Nat.reduceAdd, Nat.reduceSub, Nat.reduceMul, Nat.reduceLeDiff, Nat.reduceBEq, Bool.false_eq_true, decide_true, decide_false, Int.reduceLE, Int.reduceToNat, Int.reduceLT, Int.reduceEq, eq_self, Nat.reduceShiftRight, Nat.reduceAnd, Nat.reduceBneDiff]; exact rfl) (ht : elemT e.P t = some sz := by first | (simp only [pz, ↓reduceIte, Nat.reduceEqDiff, Nat.reduceAdd, Nat.reduceSub, Nat.reduceMul, Nat.reduceLeDiff, Nat.reduceBEq, Bool.false_eq_true, decide_true, decide_false, Int.reduceLE, Int.reduceToNat, Int.reduceLT, Int.reduceEq, eq_self, Nat.reduceShiftRight, Nat.reduceAnd, Nat.reduceBneDiff]; done) | (simp only [pz, ↓reduceIte, Nat.reduceEqDiff, Nat.reduceAdd, Nat.reduceSub, Nat.reduceMul, Nat.reduceLeDiff, Nat.reduceBEq, Bool.false_eq_true, decide_true, decide_false, Int.reduceLE, Int.reduceToNat, Int.reduceLT, Int.reduceEq, eq_self, Nat.reduceShiftRight, Nat.reduceAnd, Nat.reduceBneDiff]; exact rfl))
  (hlo : loA (lo.map (evA s)) = some (l : Int) := by first | (simp only [pz, ↓reduceIte, Nat.reduceEqDiff, Nat.reduceAdd, Nat.reduceSub, Nat.reduceMul, Nat.reduceLeDiff, Nat.reduceBEq, Bool.false_eq_true, decide_true, decide_false, Int.reduceLE, Int.reduceToNat, Int.reduceLT, Int.reduceEq, eq_self, Nat.reduceShiftRight, Nat.reduceAnd, Nat.reduceBneDiff, F]; done) | (simp only [pz, ↓reduceIte, Nat.reduceEqDiff, Nat.reduceAdd, Nat.reduceSub, Nat.reduceMul, Nat.reduceLeDiff, Nat.reduceBEq, Bool.false_eq_true, decide_true, decide_false, Int.reduceLE, Int.reduceToNat, Int.reduceLT, Int.reduceEq, eq_self, Nat.reduceShiftRight, Nat.reduceAnd, Nat.reduceBneDiff, F]; exact rfl)) (hhi : hiA rows.length (hi.map (evA s)) = some (h : Int) := by first | (simp only [pz, ↓reduceIte, Nat.reduceEqDiff, Nat.reduceAdd, Nat.reduceSub, Nat.reduceMul, Nat.reduceLeDiff, Nat.reduceBEq, Bool.false_eq_true, decide_true, decide_false, Int.reduceLE, Int.reduceToNat, Int.reduceLT, Int.reduceEq, eq_self, Nat.reduceShiftRight, Nat.reduceAnd, Nat.reduceBneDiff, F]; done) | (simp only [pz, ↓reduceIte, Nat.reduceEqDiff, Nat.reduceAdd, Nat.reduceSub, Nat.reduceMul, Nat.reduceLeDiff, Nat.reduceBEq, Bool.false_eq_true, decide_true, decide_false, Int.reduceLE, Int.reduceToNat, Int.reduceLT, Int.reduceEq, eq_self, Nat.reduceShiftRight, Nat.reduceAnd, Nat.reduceBneDiff, F]; exact rfl)) : Runs e ds 0 (⟨some d, .slice t x lo hi none, ty, p, ed, none⟩ :: os) ⟨s, m⟩ K := by
 simp only [Runs] at hK ⊢
 exact runsS_step rfl (step_sub (o := ⟨some d, .slice t x lo hi none, ty, p, ed, none⟩) rfl hx hm ht hlo hhi ⟨by omega, by omega, by omega⟩ (by simpa only [Int.toNat_natCast, setA] using hK))
theorem gSubA {e : Env} {K : St -> Prop} {ds : List (Option Nat)} {os : List Oper} {d t ty cap ety sz l h : Nat} {p : String} {ed : Array Edge} {x i : Operand} {s : List (Nat × A)} {m : List (Nat × Bk)} {a : Option Addr} {rows : List (List C)} (k j : Nat) (hb : l + j < h ∧ h <= rows.length) (hK : Runs e ds 0 os ⟨(d, .row k (l + j) sz 0) :: s, m⟩ K)
  (hx : evA s x = .d (.one (.lit (sliced a l h cap sz))) := by first | (simp only [pz, ↓reduceIte, Nat.reduceEqDiff, Nat.reduceAdd, Nat.reduceSub, Nat.reduceMul, Nat.reduceLeDiff, Nat.reduceBEq, Bool.false_eq_true, decide_true, decide_false, Int.reduceLE, Int.reduceToNat, Int.reduceLT, Int.reduceEq, eq_self, Nat.reduceShiftRight, Nat.reduceAnd, Nat.reduceBneDiff]; done) | (simp only [pz, ↓reduceIte, Nat.reduceEqDiff, Nat.reduceAdd, Nat.reduceSub, Nat.reduceMul, Nat.reduceLeDiff, Nat.reduceBEq, Bool.false_eq_true, decide_true, decide_false, Int.reduceLE, Int.reduceToNat, Int.reduceLT, Int.reduceEq, eq_self, Nat.reduceShiftRight, Nat.reduceAnd, Nat.reduceBneDiff]; exact rfl)) (hi : evA s i = .d (.one (.lit (.int .i64 (j : Int)))) := by first | (simp only [pz, ↓reduceIte, Nat.reduceEqDiff, Nat.reduceAdd, Nat.reduceSub, Nat.reduceMul, Nat.reduceLeDiff, Nat.reduceBEq, Bool.false_eq_true, decide_true, decide_false, Int.reduceLE, Int.reduceToNat, Int.reduceLT, Int.reduceEq, eq_self, Nat.reduceShiftRight, Nat.reduceAnd, Nat.reduceBneDiff, F]; done) | (simp only [pz, ↓reduceIte, Nat.reduceEqDiff, Nat.reduceAdd, Nat.reduceSub, Nat.reduceMul, Nat.reduceLeDiff, Nat.reduceBEq, Bool.false_eq_true, decide_true, decide_false, Int.reduceLE, Int.reduceToNat, Int.reduceLT, Int.reduceEq, eq_self, Nat.reduceShiftRight, Nat.reduceAnd, Nat.reduceBneDiff, F]; exact rfl)) (hm : gm m k = some (.buf (some (a, cap)) ety sz rows) := by simp only [pz, ↓reduceIte, Nat.reduceEqDiff, Nat.reduceAdd, Nat.reduceSub, Nat.reduceMul, Nat.reduceLeDiff, Nat.reduceBEq, Bool.false_eq_true, decide_true, decide_false, Int.reduceLE, Int.reduceToNat, Int.reduceLT, Int.reduceEq, eq_self, Nat.reduceShiftRight, Nat.reduceAnd, Nat.reduceBneDiff]; exact rfl) (ht : elemT e.P t = some sz := by first | (simp only [pz, ↓reduceIte, Nat.reduceEqDiff, Nat.reduceAdd, Nat.reduceSub, Nat.reduceMul, Nat.reduceLeDiff, Nat.reduceBEq, Bool.false_eq_true, decide_true, decide_false, Int.reduceLE, Int.reduceToNat, Int.reduceLT, Int.reduceEq, eq_self, Nat.reduceShiftRight, Nat.reduceAnd, Nat.reduceBneDiff]; done) | (simp only [pz, ↓reduceIte, Nat.reduceEqDiff, Nat.reduceAdd, Nat.reduceSub, Nat.reduceMul, Nat.reduceLeDiff, Nat.reduceBEq, Bool.false_eq_true, decide_true, decide_false, Int.reduceLE, Int.reduceToNat, Int.reduceLT, Int.reduceEq, eq_self, Nat.reduceShiftRight, Nat.reduceAnd, Nat.reduceBneDiff]; exact rfl)) : Runs e ds 0 (⟨some d, .indexAddr t x i, ty, p, ed, none⟩ :: os) ⟨s, m⟩ K := by
 simp only [Runs] at hK ⊢
 exact runsS_step rfl (step_subAddr (o := ⟨some d, .indexAddr t x i, ty, p, ed, none⟩) rfl hx hi hm ht ⟨by omega, by omega, by omega⟩ (by simpa only [Int.toNat_natCast, setA] using hK))
theorem runs_quiet {e : Env} {ds : List (Option Nat)} {K : St -> Prop} {n : Nat} {os : List Oper} {o : Oper} {σ : St} (hg : o.guard = none) (hal : isAl o = false) (h : QuietOk e o σ (fun σ' => Runs e ds n os σ' K)) : Runs e ds (n + 1) (o :: os) σ K := by
 simp only [Runs, hg]
 rw [if_neg (by simp [hal])]
 exact h
theorem gSubAq {e : Env} {K : St -> Prop} {ds : List (Option Nat)} {os : List Oper} {n d t ty cap ety sz l h : Nat} {p : String} {ed : Array Edge} {x i : Operand} {s : List (Nat × A)} {m : List (Nat × Bk)} {a : Option Addr} {rows : List (List C)} (k j : Nat) (hb : l + j < h ∧ h <= rows.length) (hK : Runs e ds n os ⟨(d, .row k (l + j) sz 0) :: s, m⟩ K)
  (hx : evA s x = .d (.one (.lit (sliced a l h cap sz))) := by first | (simp only [pz, ↓reduceIte, Nat.reduceEqDiff, Nat.reduceAdd, Nat.reduceSub, Nat.reduceMul, Nat.reduceLeDiff, Nat.reduceBEq, Bool.false_eq_true, decide_true, decide_false, Int.reduceLE, Int.reduceToNat, Int.reduceLT, Int.reduceEq, eq_self, Nat.reduceShiftRight, Nat.reduceAnd, Nat.reduceBneDiff]; done) | (simp only [pz, ↓reduceIte, Nat.reduceEqDiff, Nat.reduceAdd, Nat.reduceSub, Nat.reduceMul, Nat.reduceLeDiff, Nat.reduceBEq, Bool.false_eq_true, decide_true, decide_false, Int.reduceLE, Int.reduceToNat, Int.reduceLT, Int.reduceEq, eq_self, Nat.reduceShiftRight, Nat.reduceAnd, Nat.reduceBneDiff]; exact rfl)) (hi : evA s i = .d (.one (.lit (.int .i64 (j : Int)))) := by first | (simp only [pz, ↓reduceIte, Nat.reduceEqDiff, Nat.reduceAdd, Nat.reduceSub, Nat.reduceMul, Nat.reduceLeDiff, Nat.reduceBEq, Bool.false_eq_true, decide_true, decide_false, Int.reduceLE, Int.reduceToNat, Int.reduceLT, Int.reduceEq, eq_self, Nat.reduceShiftRight, Nat.reduceAnd, Nat.reduceBneDiff, F]; done) | (simp only [pz, ↓reduceIte, Nat.reduceEqDiff, Nat.reduceAdd, Nat.reduceSub, Nat.reduceMul, Nat.reduceLeDiff, Nat.reduceBEq, Bool.false_eq_true, decide_true, decide_false, Int.reduceLE, Int.reduceToNat, Int.reduceLT, Int.reduceEq, eq_self, Nat.reduceShiftRight, Nat.reduceAnd, Nat.reduceBneDiff, F]; exact rfl)) (hm : gm m k = some (.buf (some (a, cap)) ety sz rows) := by simp only [pz, ↓reduceIte, Nat.reduceEqDiff, Nat.reduceAdd, Nat.reduceSub, Nat.reduceMul, Nat.reduceLeDiff, Nat.reduceBEq, Bool.false_eq_true, decide_true, decide_false, Int.reduceLE, Int.reduceToNat, Int.reduceLT, Int.reduceEq, eq_self, Nat.reduceShiftRight, Nat.reduceAnd, Nat.reduceBneDiff]; exact rfl) (ht : elemT e.P t = some sz := by first | (simp only [pz, ↓reduceIte, Nat.reduceEqDiff, Nat.reduceAdd, Nat.reduceSub, Nat.reduceMul, Nat.reduceLeDiff, Nat.reduceBEq, Bool.false_eq_true, decide_true, decide_false, Int.reduceLE, Int.reduceToNat, Int.reduceLT, Int.reduceEq, eq_self, Nat.reduceShiftRight, Nat.reduceAnd, Nat.reduceBneDiff]; done) | (simp only [pz, ↓reduceIte, Nat.reduceEqDiff, Nat.reduceAdd, Nat.reduceSub, Nat.reduceMul, Nat.reduceLeDiff, Nat.reduceBEq, Bool.false_eq_true, decide_true, decide_false, Int.reduceLE, Int.reduceToNat, Int.reduceLT, Int.reduceEq, eq_self, Nat.reduceShiftRight, Nat.reduceAnd, Nat.reduceBneDiff]; exact rfl)) : Runs e ds (n + 1) (⟨some d, .indexAddr t x i, ty, p, ed, none⟩ :: os) ⟨s, m⟩ K :=
 runs_quiet rfl rfl (quiet_subAddr (o := ⟨some d, .indexAddr t x i, ty, p, ed, none⟩) rfl hx hi hm ht ⟨by omega, by omega, by omega⟩ (by simpa only [Int.toNat_natCast, setA] using hK))
theorem gClear {e : Env} {K : St -> Prop} {ds : List (Option Nat)} {os : List Oper} {t ty cap ety sz by' l : Nat} {dd : Option Nat} {p : String} {ed : Array Edge} {x : Operand} {s s' : List (Nat × A)} {m m' : List (Nat × Bk)} {a : Option Addr} {rows : List (List C)} {z : List C} (k : Nat) (hl : l < rows.length) (hK : Runs e ds 0 os ⟨s', (k, .buf (some (a, cap)) ety sz (rows.take l ++ List.replicate (rows.length - l) z)) :: m'⟩ K)
  (hx : evA s x = .d (.one (.lit (sliced a l rows.length cap sz))) := by simp only [pz, ↓reduceIte, Nat.reduceEqDiff, Nat.reduceAdd, Nat.reduceSub, Nat.reduceMul, Nat.reduceLeDiff, Nat.reduceBEq, Bool.false_eq_true, decide_true, decide_false, Int.reduceLE, Int.reduceToNat, Int.reduceLT, Int.reduceEq, eq_self, Nat.reduceShiftRight, Nat.reduceAnd, Nat.reduceBneDiff]; exact rfl) (hm : gm m k = some (.buf (some (a, cap)) ety sz rows) := by simp only [pz, ↓reduceIte, Nat.reduceEqDiff, Nat.reduceAdd, Nat.reduceSub, Nat.reduceMul, Nat.reduceLeDiff, Nat.reduceBEq, Bool.false_eq_true, decide_true, decide_false, Int.reduceLE, Int.reduceToNat, Int.reduceLT, Int.reduceEq, eq_self, Nat.reduceShiftRight, Nat.reduceAnd, Nat.reduceBneDiff]; exact rfl) (ht : bytesT e.P t = some (ety, sz, by') := by first | (simp only [pz, ↓reduceIte, Nat.reduceEqDiff, Nat.reduceAdd, Nat.reduceSub, Nat.reduceMul, Nat.reduceLeDiff, Nat.reduceBEq, Bool.false_eq_true, decide_true, decide_false, Int.reduceLE, Int.reduceToNat, Int.reduceLT, Int.reduceEq, eq_self, Nat.reduceShiftRight, Nat.reduceAnd, Nat.reduceBneDiff]; done) | (simp only [pz, ↓reduceIte, Nat.reduceEqDiff, Nat.reduceAdd, Nat.reduceSub, Nat.reduceMul, Nat.reduceLeDiff, Nat.reduceBEq, Bool.false_eq_true, decide_true, decide_false, Int.reduceLE, Int.reduceToNat, Int.reduceLT, Int.reduceEq, eq_self, Nat.reduceShiftRight, Nat.reduceAnd, Nat.reduceBneDiff]; exact rfl)) (hz : zeroT e.P ety = some z := by first | (simp only [pz, ↓reduceIte, Nat.reduceEqDiff, Nat.reduceAdd, Nat.reduceSub, Nat.reduceMul, Nat.reduceLeDiff, Nat.reduceBEq, Bool.false_eq_true, decide_true, decide_false, Int.reduceLE, Int.reduceToNat, Int.reduceLT, Int.reduceEq, eq_self, Nat.reduceShiftRight, Nat.reduceAnd, Nat.reduceBneDiff]; done) | (simp only [pz, ↓reduceIte, Nat.reduceEqDiff, Nat.reduceAdd, Nat.reduceSub, Nat.reduceMul, Nat.reduceLeDiff, Nat.reduceBEq, Bool.false_eq_true, decide_true, decide_false, Int.reduceLE, Int.reduceToNat, Int.reduceLT, Int.reduceEq, eq_self, Nat.reduceShiftRight, Nat.reduceAnd, Nat.reduceBneDiff]; exact rfl)) (hzok : z.all okCell = true := by first | rfl | simp only [pz, ↓reduceIte, Nat.reduceEqDiff, Nat.reduceAdd, Nat.reduceSub, Nat.reduceMul, Nat.reduceLeDiff, Nat.reduceBEq, Bool.false_eq_true, decide_true, decide_false, Int.reduceLE, Int.reduceToNat, Int.reduceLT, Int.reduceEq, eq_self, Nat.reduceShiftRight, Nat.reduceAnd, Nat.reduceBneDiff])
  (hs : setA s dd (.tup []) = s' := by simp only [setA]; exact rfl) (hr : remM k m = m' := by simp only [pz, ↓reduceIte, Nat.reduceEqDiff, Nat.reduceAdd, Nat.reduceSub, Nat.reduceMul, Nat.reduceLeDiff, Nat.reduceBEq, Bool.false_eq_true, decide_true, decide_false, Int.reduceLE, Int.reduceToNat, Int.reduceLT, Int.reduceEq, eq_self, Nat.reduceShiftRight, Nat.reduceAnd, Nat.reduceBneDiff]; exact rfl) : Runs e ds 0 (⟨dd, .call ⟨.builtin .clear, #[x], #[t]⟩, ty, p, ed, none⟩ :: os) ⟨s, m⟩ K := by
 subst hs hr
 simp only [Runs] at hK ⊢
 exact runsS_step rfl (step_clear (o := ⟨dd, .call ⟨.builtin .clear, #[x], #[t]⟩, ty, p, ed, none⟩) rfl hx hm ht hz hzok hl hK)
end Go.Proofs.YtohilkmdjdfljaaGreat
namespace Go.Proofs.YtohilkmdjdfljaaGreat
open Go.RowKit
theorem con_same {e : Env} {f : FuncId} {args : List D} {x : Value} (hb : hasBody e.P f = true) (h : ∀ (w : World) (S : Nat -> Prop) (vs : List Value), DsRel w S args vs -> Calls e.P f vs.toArray w fun en w' => en = .returned x ∧ w = w') : Con e f args [.one (.lit x)] :=
 ⟨hb, fun w S vs _ _ hG hv => (h w S vs hv).mono fun en w' ⟨h1, h2⟩ => by subst h2; exact ⟨x, h1, Kept.refl .., hG, by simp [retA, ARel, DRel, Rep]⟩⟩
theorem con_when {e : Env} {f : FuncId} {args r : List D} {φ : Prop} (hb : hasBody e.P f = true) (hφ : ∀ (w : World) (S : Nat -> Prop) (vs : List Value), DsRel w S args vs -> φ) (h : φ -> Con e f args r) : Con e f args r :=
 ⟨hb, fun w S vs h1 h2 h3 h4 => (h (hφ w S vs h4)).2 w S vs h1 h2 h3 h4⟩
theorem con_cmpI1 (a b : Int) : Con e1 175 [.one (.lit (.int .i64 a)), .one (.lit (.int .i64 b))] [.one (.lit (.int .i64 (cmpInt a b)))] := by
 refine con_same (by kernel_rfl) fun w S vs h => ?_
 match vs, h with
 | [x, y], h =>
  obtain ⟨hx, hy, _⟩ := h
  have hx : x = .int .i64 a := hx
  have hy : y = .int .i64 b := hy
  subst hx hy
  exact cmpCompare a b w
theorem con_cmpS1 (a b : ByteArray) : Con e1 176 [.one (.lit (.string a)), .one (.lit (.string b))] [.one (.lit (.int .i64 (cmpStr a b)))] := by
 refine con_same (by kernel_rfl) fun w S vs h => ?_
 match vs, h with
 | [x, y], h =>
  obtain ⟨hx, hy, _⟩ := h
  have hx : x = .string a := hx
  have hy : y = .string b := hy
  subst hx hy
  exact stringsCompare a b w
set_option maxHeartbeats 4000000 in
theorem con_cmpOr1 (l : List Int) (hl : l.length <= 1048576) : Con e1 174 [.clip (l.map fun n => [.lit (.int .i64 n)])] [.one (.lit (.int .i64 (firstNZ l)))] := by
 have rb : rowsB 1 (l.map fun n => [C.lit (.int .i64 n)]) = true := rowsB_map (e := fun n => [C.lit (.int .i64 n)]) (n := 1) (fun _ => rfl) l
 refine gI (ts := [.slot 2]) 17389 Tryz.func174 ?_
 (have F := @rb; refine gG ?_; clear F)
 (have F := @rb; refine gL (ι := Nat) [2, 5, 8, 9, 14] [] (fun x => [(8, .d (.one (.lit (.int .i64 (x : Int)))))]) (fun x => []) (fun x => x <= l.length ∧ firstNZ l = firstNZ (l.drop x)) (fun x => l.length - x) (0) (⟨Nat.zero_le _, rfl⟩) (fun x hx => ?_); clear F)
 obtain ⟨hi, hf⟩ := hx
 rw [hf]
 clear hf
 by_cases hlt : x < l.length
 ·obtain ⟨n, hn⟩ : ∃ n, l[x]? = some n := ⟨_, List.getElem?_eq_getElem hlt⟩
  have q1 : ((x : Int) < (l.length : Int)) = True := eq_true (by omega)
  have q4 : IntKind.i64.wrap ((x : Int) + 1) = (x : Int) + 1 := IntWalk.i64_in _ (by omega)
  rw [firstNZ_drop hn]
  by_cases h0 : n = 0
  ·subst h0
   rw [if_pos rfl]
   (have F := ai @q1 (ai @rb @hn); refine gG ?_; clear F)
   (have F := @q4; refine gG ?_; exact ⟨x + 1, ⟨hlt, rfl⟩, gw, gw, by omega⟩)
  ·have q2 : (n = 0) = False := eq_false h0
   rw [if_neg h0]
   (have F := ai @q1 (ai @rb (ai @hn @q2)); refine gG ?_; exact gTd)
 ·obtain rfl : x = l.length := by omega
  have q1 : ((l.length : Int) < (l.length : Int)) = False := eq_false (by omega)
  rw [List.drop_length]
  simp only [firstNZ]
  (have F := @q1; refine gG ?_; exact gTd)
theorem cmpTms_nilL {b : List Tm} {k : Nat} {xs : List Tm} (h : xs.length <= k) : cmpTms (xs.drop k) b = if b = [] then 0 else -1 := by
 rw [List.drop_eq_nil_of_le h]
 cases b with
 | nil => simp [cmpTms]
 | cons x xs => simp [cmpTms]
theorem cmpTms_nilR {a : Tm} {k : Nat} {xs bs : List Tm} (ha : xs[k]? = some a) (h : bs.length <= k) : cmpTms (xs.drop k) (bs.drop k) = 1 := by
 obtain ⟨hl, hx⟩ := List.getElem?_eq_some_iff.1 ha
 rw [List.drop_eq_nil_of_le h, List.drop_eq_getElem_cons hl]
 simp [cmpTms]
set_option maxHeartbeats 4000000 in
theorem con_cmpFunc1_of (xs bs : List Tm) (hla : xs.length <= maxLen) (hlb : bs.length <= maxLen) (h : ∀ a ∈ xs, ∀ b ∈ bs, Con e1 140 [.agg (encTm a), .agg (encTm b)] [.one (.lit (.int .i64 (cmpTm a b)))]) : Con e1 177 [.one (.sl (encTms xs)), .one (.sl (encTms bs)), .one (.fn 140 [])] [.one (.lit (.int .i64 (cmpTms xs bs)))] := by
 unfold maxLen at hla hlb
 refine gI (ts := [.slot 6]) 277027520455 Tryz.func177 ?_
 (have F := @tmz; refine gG ?_; clear F)
 (have F := @tmz; refine gL (ι := Nat) [6, 7, 8, 9, 10, 13, 14, 21, 31] [] (fun x => [(13, .d (.one (.lit (.int .i64 (x : Int)))))]) (fun x => []) (fun x => x <= xs.length ∧ x <= bs.length ∧ cmpTms xs bs = cmpTms (xs.drop x) (bs.drop x)) (fun x => xs.length - x) (0) (⟨Nat.zero_le _, Nat.zero_le _, rfl⟩) (fun x hx => ?_); clear F)
 obtain ⟨hi, hj, hf⟩ := hx
 rw [hf]
 clear hf
 by_cases hlt : x < xs.length
 ·obtain ⟨a, ha⟩ : ∃ n, xs[x]? = some n := ⟨_, List.getElem?_eq_getElem hlt⟩
  have q1 : ((x : Int) < (xs.length : Int)) = True := eq_true (by omega)
  by_cases hlt2 : x < bs.length
  ·obtain ⟨b, hb⟩ : ∃ n, bs[x]? = some n := ⟨_, List.getElem?_eq_getElem hlt2⟩
   have q2 : ((x : Int) ≥ (bs.length : Int)) = False := eq_false (by omega)
   have q4 : IntKind.i64.wrap ((x : Int) + 1) = (x : Int) + 1 := IntWalk.i64_in _ (by omega)
   rw [cmpTms_step ha hb]
   simp only [firstNZ]
   (have F := ai @q1 (ai @q2 (ai @tmz (ai @ha @hb))); refine gG ?_; clear F)
   refine gB ?_
   (have F := @tmz; refine gC (h a (List.mem_of_getElem? ha) b (List.mem_of_getElem? hb)) ?_; clear F)
   (have F := @tmz; refine gR ?_; clear F)
   by_cases h0 : cmpTm a b = 0
   ·have q3 : (cmpTm a b = 0) = True := eq_true h0
    rw [if_pos h0, show (if cmpTms (xs.drop (x + 1)) (bs.drop (x + 1)) = 0 then (0 : Int) else cmpTms (xs.drop (x + 1)) (bs.drop (x + 1))) = cmpTms (xs.drop (x + 1)) (bs.drop (x + 1)) by split <;> simp_all]
    (have F := ai @tmz @q3; refine gG ?_; clear F)
    (have F := @q4; refine gG ?_; exact ⟨x + 1, ⟨hlt, hlt2, rfl⟩, gw, gw, by omega⟩)
   ·have q3 : (cmpTm a b = 0) = False := eq_false h0
    rw [if_neg h0]
    (have F := ai @tmz @q3; refine gG ?_; exact gTd)
  ·have q2 : ((x : Int) ≥ (bs.length : Int)) = True := eq_true (by omega)
   rw [cmpTms_nilR ha (by omega)]
   (have F := ai @q1 (ai @q2 (ai @tmz @ha)); refine gG ?_; exact gTd)
 ·have q1 : ((x : Int) < (xs.length : Int)) = False := eq_false (by omega)
  rw [cmpTms_nilL (by omega)]
  by_cases h2 : xs.length < bs.length
  ·have q2 : ((xs.length : Int) < (bs.length : Int)) = True := eq_true (by omega)
   rw [if_neg (by intro e; have := congrArg List.length e; simp at this; omega)]
   (have F := ai @q1 (ai @q2 @tmz); refine gG ?_; exact gTd)
  ·have q2 : ((xs.length : Int) < (bs.length : Int)) = False := eq_false (by omega)
   rw [if_pos (by apply List.drop_eq_nil_of_le; omega)]
   (have F := ai @q1 (ai @q2 @tmz); refine gG ?_; exact gTd)
theorem rel_len {w : World} {S : Nat -> Prop} {rows : List (List C)} {v : Value} (h : Rep w S (.sl rows) v) : rows.length <= maxLen := by
 simp only [Rep] at h
 obtain ⟨A, n, cap, _, h1, h2, h3, _⟩ := h
 omega
theorem con_cmpFunc1 (xs bs : List Tm) (h : ∀ a ∈ xs, ∀ b ∈ bs, Con e1 140 [.agg (encTm a), .agg (encTm b)] [.one (.lit (.int .i64 (cmpTm a b)))]) : Con e1 177 [.one (.sl (encTms xs)), .one (.sl (encTms bs)), .one (.fn 140 [])] [.one (.lit (.int .i64 (cmpTms xs bs)))] := by
 refine con_when (φ := xs.length <= maxLen ∧ bs.length <= maxLen) (by kernel_rfl) (fun w S vs hv => ?_) fun hφ => con_cmpFunc1_of xs bs hφ.1 hφ.2 h
 match vs, hv with
 | [x, y, z], hv =>
  have h1 := rel_len hv.1
  have h2 := rel_len hv.2.1
  rw [encTms_len] at h1 h2
  exact ⟨h1, h2⟩
set_option maxHeartbeats 4000000 in
theorem con_cmp1_of (a b : Tm) (h : ∀ x ∈ a.args, ∀ y ∈ b.args, Con e1 140 [.agg (encTm x), .agg (encTm y)] [.one (.lit (.int .i64 (cmpTm x y)))]) : Con e1 140 [.agg (encTm a), .agg (encTm b)] [.one (.lit (.int .i64 (cmpTm a b)))] := by
 obtain ⟨o, n, s, xs⟩ := a
 obtain ⟨o', n', s', bs⟩ := b
 simp only [Tm.args] at h
 have c1 : encTm (.mk o n s xs) = [.lit (.int .i64 o), .lit (.string n), .lit (.int .i64 s), .sl (encTms xs)] := by simp only [encTm]
 have c2 : encTm (.mk o' n' s' bs) = [.lit (.int .i64 o'), .lit (.string n'), .lit (.int .i64 s'), .sl (encTms bs)] := by simp only [encTm]
 have e3 : cmpTm (.mk o n s xs) (.mk o' n' s' bs) = if firstNZ [cmpInt o o', cmpStr n n', cmpInt s s'] = 0 then cmpTms xs bs else firstNZ [cmpInt o o', cmpStr n n', cmpInt s s'] := by
  simp only [cmpTm, firstNZ]
  by_cases h1 : cmpInt o o' = 0
  ·by_cases h2 : cmpStr n n' = 0
   ·by_cases h3 : cmpInt s s' = 0
    ·simp only [h1, h2, h3, if_true]
     split <;> simp_all
    ·simp only [h1, h2, h3, if_true, if_false]
   ·simp only [h1, h2, if_true, if_false]
  ·simp only [h1, if_false]
 have hor := con_cmpOr1 [cmpInt o o', cmpStr n n', cmpInt s s'] (by simp)
 simp only [List.map_cons, List.map_nil] at hor
 rw [e3]
 refine gI (ts := [.slot 4]) 16777279 Tryz.func140 ?_
 (have F := ai @c1 @c2; refine gG ?_; clear F)
 refine gB ?_
 (have F := ai @c1 @c2; refine gC (con_cmpI1 o o') ?_; clear F)
 (have F := ai @c1 @c2; refine gC (con_cmpS1 n n') ?_; clear F)
 (have F := ai @c1 @c2; refine gC (con_cmpI1 s s') ?_; clear F)
 (have F := ai @c1 @c2; refine gC (hor) ?_; clear F)
 (have F := ai @c1 @c2; refine gR ?_; clear F)
 by_cases h0 : firstNZ [cmpInt o o', cmpStr n n', cmpInt s s'] = 0
 ·have q3 : (firstNZ [cmpInt o o', cmpStr n n', cmpInt s s'] = 0) = True := eq_true h0
  rw [if_pos h0]
  (have F := ai @q3 (ai @c1 @c2); refine gG ?_; clear F)
  refine gB ?_
  (have F := ai @c1 @c2; refine gC (con_cmpFunc1 xs bs h) ?_; clear F)
  (have F := ai @c1 @c2; refine gR ?_; clear F)
  (have F := ai @c1 @c2; refine gG ?_; exact gTd)
 ·have q3 : (firstNZ [cmpInt o o', cmpStr n n', cmpInt s s'] = 0) = False := eq_false h0
  rw [if_neg h0]
  (have F := ai @q3 (ai @c1 @c2); refine gG ?_; exact gTd)
theorem con_cmp1_n (n : Nat) : ∀ a b : Tm, nodesRow (encTm a) < n -> Con e1 140 [.agg (encTm a), .agg (encTm b)] [.one (.lit (.int .i64 (cmpTm a b)))] := by
 induction n with
 | zero => exact fun _ _ h => by omega
 | succ n ih =>
  intro a b hn
  refine con_cmp1_of a b fun x hx y hy => ih x y ?_
  obtain ⟨op, nm, so, args⟩ := a
  simp only [encTm, nodesRow, nodesC] at hn
  simp only [Tm.args] at hx
  obtain ⟨i, hi⟩ := List.getElem?_of_mem hx
  have hi' : (encTms args)[i]? = some (encTm x) := by rw [encTms_get, hi]; rfl
  have h1 := nodes_get hi'
  omega
theorem con_cmp1 (a b : Tm) : Con e1 140 [.agg (encTm a), .agg (encTm b)] [.one (.lit (.int .i64 (cmpTm a b)))] := con_cmp1_n _ a b (Nat.lt_succ_self _)
end Go.Proofs.YtohilkmdjdfljaaGreat
namespace Go.Proofs.YtohilkmdjdfljaaGreat
open Go.RowKit
def zTm0 : Tm := .mk 0 ByteArray.empty 0 []
def ddT : Option Tm -> List Tm -> List Tm
 | _, [] => []
 | none, x :: xs => x :: ddT (some x) xs
 | some y, x :: xs => if cmpTm x y = 0 then ddT (some x) xs else x :: ddT (some x) xs
def lastO : Option Tm -> List Tm -> Option Tm
 | p, [] => p
 | _, x :: xs => lastO (some x) xs
theorem ddT_snoc : ∀ (p : Option Tm) (l : List Tm) (x : Tm), ddT p (l ++ [x]) = match lastO p l with
  | none => ddT p l ++ [x]
  | some y => if cmpTm x y = 0 then ddT p l else ddT p l ++ [x]
 | none, [], x => rfl
 | some y, [], x => by simp only [List.nil_append, ddT, lastO]
 | none, a :: l, x => by
  simp only [List.cons_append, ddT, lastO, ddT_snoc (some a) l x]
  split
  ·rfl
  ·split <;> rfl
 | some y, a :: l, x => by
  simp only [List.cons_append, ddT, lastO, ddT_snoc (some a) l x]
  split
  ·rfl
  ·split
   ·rfl
   ·split <;> rfl
theorem lastO_take : ∀ (p : Option Tm) (l : List Tm) (i : Nat) (y : Tm), l[i]? = some y -> lastO p (l.take (i + 1)) = some y
 | p, [], i, y, h => by simp at h
 | p, x :: xs, 0, y, h => by simp at h; subst h; simp [lastO]
 | p, x :: xs, i + 1, y, h => by
  simp only [List.take_succ_cons, lastO]
  exact lastO_take (some x) xs i y (by simpa using h)
theorem ddT_step {l : List Tm} {i : Nat} {x y : Tm} (hx : l[i + 1]? = some x) (hy : l[i]? = some y) : ddT none (l.take (i + 2)) = if cmpTm x y = 0 then ddT none (l.take (i + 1)) else ddT none (l.take (i + 1)) ++ [x] := by
 have e : l.take (i + 2) = l.take (i + 1) ++ [x] := by simp [List.take_add_one, hx]
 rw [e, ddT_snoc, lastO_take none l i y hy]
theorem ddT_one {l : List Tm} {x : Tm} (hx : l[0]? = some x) : ddT none (l.take 1) = [x] := by
 cases l with
 | nil => simp at hx
 | cons a l => simp at hx; subst hx; simp [ddT]
def Up (l : List Tm) : Prop := l.Pairwise fun a b => cmpTm a b <= 0
theorem ddT_up : ∀ (l : List Tm) (y : Tm), Up l -> (∀ x ∈ l, cmpTm y x <= 0) -> Asc (ddT (some y) l) ∧ (∀ z ∈ ddT (some y) l, cmpTm y z < 0) ∧ ∀ z, (z = y ∨ z ∈ ddT (some y) l) ↔ (z = y ∨ z ∈ l)
 | [], y, _, _ => ⟨List.Pairwise.nil, fun z h => by simp [ddT] at h, fun z => by simp [ddT]⟩
 | x :: xs, y, hu, hy => by
  have h1 := List.pairwise_cons.1 hu
  have hyx := hy x List.mem_cons_self
  obtain ⟨k1, k2, k3⟩ := ddT_up xs x h1.2 h1.1
  simp only [ddT]
  by_cases h0 : cmpTm x y = 0
  ·rw [if_pos h0]
   have e := cmpTm_zero h0
   subst e
   exact ⟨k1, k2, fun z => by rw [k3 z]; simp⟩
  ·rw [if_neg h0]
   have hlt : cmpTm y x < 0 := by rw [cmpTm_neg x y] at hyx ⊢; omega
   refine ⟨List.pairwise_cons.2 ⟨k2, k1⟩, fun z hz => ?_, fun z => ?_⟩
   ·rcases List.mem_cons.1 hz with rfl | hz
    ·exact hlt
    ·exact cmpTm_lt_trans hlt (k2 z hz)
   ·have := k3 z
    simp only [List.mem_cons]
    rw [this]
theorem ddT_dist {l : List Tm} (h : Up l) : ddT none l = distTm l := by
 cases l with
 | nil => rfl
 | cons x xs =>
  have h1 := List.pairwise_cons.1 h
  obtain ⟨k1, k2, k3⟩ := ddT_up xs x h1.2 h1.1
  simp only [ddT]
  refine (distTm_eq (List.pairwise_cons.2 ⟨k2, k1⟩) fun t => ?_).symm
  simp only [List.mem_cons]
  exact k3 t
def sortTm (l : List Tm) : List Tm := l.mergeSort fun a b => decide (cmpTm a b <= 0)
theorem sortTm_perm (l : List Tm) : (sortTm l).Perm l := List.mergeSort_perm l _
theorem sortTm_up (l : List Tm) : Up (sortTm l) := by
 have h := List.pairwise_mergeSort (le := fun a b => decide (cmpTm a b <= 0)) (fun a b c h1 h2 => by simp only [decide_eq_true_eq] at *; exact cmpTm_le_trans h1 h2) (fun a b => by
  simp only [Bool.or_eq_true, decide_eq_true_eq]
  have := cmpTm_neg a b
  omega) l
 exact h.imp fun h => by simpa using h
theorem up_perm : ∀ {l l' : List Tm}, Up l -> Up l' -> l.Perm l' -> l = l'
 | [], l', _, _, h => by have := h.length_eq; cases l' with | nil => rfl | cons _ _ => simp at this
 | x :: xs, [], _, _, h => by have := h.length_eq; simp at this
 | x :: xs, y :: ys, h1, h2, h => by
  have p1 := List.pairwise_cons.1 h1
  have p2 := List.pairwise_cons.1 h2
  have hx : x ∈ y :: ys := h.mem_iff.1 List.mem_cons_self
  have hy : y ∈ x :: xs := h.mem_iff.2 List.mem_cons_self
  have e : x = y := by
   rcases List.mem_cons.1 hx with e | hx
   ·exact e
   ·rcases List.mem_cons.1 hy with e | hy
    ·exact e.symm
    ·have a1 := p2.1 x hx
     have a2 := p1.1 y hy
     refine cmpTm_zero ?_
     rw [cmpTm_neg x y] at a1
     omega
  subst e
  rw [up_perm p1.2 p2.2 h.cons_inv]
theorem distTm_perm {l l' : List Tm} (h : l.Perm l') : distTm l = distTm l' := (distTm_asc l).ext (distTm_asc l') fun t => by rw [mem_distTm, mem_distTm, h.mem_iff]
mutual
theorem encTm_inj : ∀ {a b : Tm}, encTm a = encTm b -> a = b
 | .mk o n s a, .mk o' n' s' a', h => by
  simp only [encTm, List.cons.injEq, C.lit.injEq, C.sl.injEq, Value.int.injEq, Value.string.injEq, true_and, and_true] at h
  obtain ⟨rfl, rfl, rfl, h⟩ := h
  rw [encTms_inj h]
theorem encTms_inj : ∀ {a b : List Tm}, encTms a = encTms b -> a = b
 | [], [], _ => rfl
 | [], _ :: _, h => by simp [encTms] at h
 | _ :: _, [], h => by simp [encTms] at h
 | x :: xs, y :: ys, h => by
  simp only [encTms, List.cons.injEq] at h
  rw [encTm_inj h.1, encTms_inj h.2]
end
open Classical in
noncomputable def unT (r : List C) : Tm := if h : ∃ t, r = encTm t then h.choose else zTm0
theorem unT_enc (t : Tm) : unT (encTm t) = t := by
 have h : ∃ t', encTm t = encTm t' := ⟨t, rfl⟩
 unfold unT
 rw [dif_pos h]
 exact (encTm_inj h.choose_spec).symm
theorem map_unT (l : List Tm) : (encTms l).map unT = l := by
 rw [encTms_eq, List.map_map]
 conv => rhs; rw [<- List.map_id l]
 exact List.map_congr_left fun t _ => unT_enc t
theorem con_implSame (a b : Tm) : Con e0 97 [.agg (encTm a), .agg (encTm b)] [.one (.lit (.bool (decide (cmpTm a b = 0))))] := by
 refine gI (ts := [.slot 4]) 31 Tryz.func97 ?_
 (have F := @tmz; refine gG ?_; clear F)
 refine gB ?_
 (have F := @tmz; refine gC (con_1 (con_cmp1 a b)) ?_; clear F)
 (have F := @tmz; refine gR ?_; clear F)
 (have F := @tmz; refine gG ?_; exact gTd)
end Go.Proofs.YtohilkmdjdfljaaGreat
namespace Go.Proofs.YtohilkmdjdfljaaGreat
open Go.RowKit
mutual
def leftTm : Tm -> Int -> Int
 | .mk _ _ _ args, l => leftTms args (l - 1)
def leftTms : List Tm -> Int -> Int
 | [], l => l
 | t :: ts, l => if 0 <= l then leftTms ts (leftTm t l) else l
end
theorem leftTms_u : ∀ l, leftTms [] l = l := fun _ => by rw [leftTms]
mutual
theorem leftTm_spec : ∀ (t : Tm) (l : Int), 0 <= l -> (-1 <= leftTm t l ∧ leftTm t l <= l ∧ ((sizeTm t : Int) <= l -> leftTm t l = l - sizeTm t) ∧ (l < sizeTm t -> leftTm t l < 0))
 | .mk _ _ _ args, l, hl => by
  have := leftTms_spec args (l - 1) (by omega)
  simp only [leftTm, sizeTm]
  refine ⟨this.1, by omega, fun h => ?_, fun h => ?_⟩
  ·have := this.2.2.1 (by omega); omega
  ·by_cases h1 : 0 <= l - 1
   ·exact this.2.2.2 (by omega)
   ·have h2 := this.2.1; omega
theorem leftTms_spec : ∀ (ts : List Tm) (l : Int), -1 <= l -> (-1 <= leftTms ts l ∧ leftTms ts l <= l ∧ ((sizeTms ts : Int) <= l -> leftTms ts l = l - sizeTms ts) ∧ (l < sizeTms ts -> leftTms ts l < 0))
 | [], l, hl => by simp only [leftTms, sizeTms]; omega
 | t :: ts, l, hl => by
  simp only [leftTms, sizeTms]
  by_cases h0 : 0 <= l
  ·rw [if_pos h0]
   have h1 := leftTm_spec t l h0
   have h2 := leftTms_spec ts (leftTm t l) h1.1
   refine ⟨h2.1, by omega, fun h => ?_, fun h => ?_⟩
   ·have e1 := h1.2.2.1 (by omega)
    have e2 := h2.2.2.1 (by omega)
    omega
   ·by_cases h3 : (sizeTm t : Int) <= l
    ·have e1 := h1.2.2.1 h3
     exact h2.2.2.2 (by omega)
    ·have e1 := h1.2.2.2 (by omega)
     omega
  ·rw [if_neg h0]
   have := sizeTms_len ts
   refine ⟨hl, Int.le_refl _, fun h => by omega, fun h => by omega⟩
end
theorem leftTms_neg {ts : List Tm} {l : Int} (h : ¬ 0 <= l) : leftTms ts l = l := by
 cases ts with
 | nil => rfl
 | cons t ts => simp only [leftTms, if_neg h]
theorem leftTms_app : ∀ (a b : List Tm) (l : Int), leftTms (a ++ b) l = leftTms b (leftTms a l)
 | [], b, l => rfl
 | t :: ts, b, l => by
  simp only [List.cons_append, leftTms]
  by_cases h : 0 <= l
  ·rw [if_pos h, if_pos h, leftTms_app]
  ·rw [if_neg h, if_neg h, leftTms_neg h]
theorem leftTms_snoc {ts : List Tm} {i : Nat} {t : Tm} {l : Int} (h : ts[i]? = some t) (h0 : 0 <= leftTms (ts.take i) l) : leftTms (ts.take (i + 1)) l = leftTm t (leftTms (ts.take i) l) := by
 rw [take_snoc h, leftTms_app]
 simp only [leftTms, if_pos h0]
theorem leftTms_stop {ts : List Tm} {i : Nat} {l : Int} (h0 : ¬ 0 <= leftTms (ts.take i) l) : leftTms ts l = leftTms (ts.take i) l := by
 conv => lhs; rw [<- List.take_append_drop i ts]
 rw [leftTms_app, leftTms_neg h0]
theorem leftTm_eq (t : Tm) (l : Int) : leftTm t l = leftTms t.args (l - 1) := by cases t; simp only [leftTm, Tm.args]
set_option maxHeartbeats 4000000 in
set_option maxRecDepth 100000 in
theorem con_l6Left_all : ∀ (n : Nat) (t : Tm) (l : Int), sizeTm t < n -> sizeTm t <= big -> 0 <= l -> l <= 60 -> Con e0 126 [.agg (encTm t), .one (.lit (.int .i64 l))] [.one (.lit (.int .i64 (leftTm t l)))] := by
 intro n
 induction n with
 | zero => intro t l h; omega
 | succ n ih =>
  intro t l hn hb hl0 hl1
  have hsz := sizeTm_eq t
  have hal := sizeTms_len t.args
  unfold big at hb
  have hw : IntKind.i64.wrap (l - 1) = l - 1 := wrapN rfl (by omega) (by omega)
  rw [leftTm_eq]
  refine gI 65591 Tryz.func126 ?_
  (have F := ai @tmz @hw; refine gG ?_; clear F)
  (have F := @leftTms_u; refine gL (ι := Nat) [1, 5, 16] [] (fun i => [(5, A.d (.one (.lit (.int .i64 i)))), (1, A.d (.one (.lit (.int .i64 (leftTms (t.args.take i) (l - 1))))))]) (fun i => []) (fun i => i <= t.args.length) (fun i => t.args.length - i) (0) (by omega) (fun i hi => ?_); clear F)
  have hsp := leftTms_spec (t.args.take i) (l - 1) (by omega)
  by_cases hl : i < t.args.length
  rotate_left
  ·have hl' : ¬ ((i : Int) < (t.args.length : Int)) := by omega
   have e : t.args.take i = t.args := List.take_of_length_le (by omega)
   (have F := ai @hl' (ai @e @tmz); refine gG ?_; exact gT)
  have hl' : (i : Int) < (t.args.length : Int) := by omega
  by_cases h0 : 0 <= leftTms (t.args.take i) (l - 1)
  rotate_left
  ·have e := leftTms_stop h0
   (have F := ai @hl' (ai @h0 (ai @e @tmz)); refine gG ?_; exact gT)
  obtain ⟨a, ha⟩ : ∃ a, t.args[i]? = some a := ⟨_, List.getElem?_eq_getElem hl⟩
  have hm := sizeTms_mem (List.mem_of_getElem? ha)
  have hw1 := wrap1 (k := i) (by omega)
  have hs := leftTms_snoc ha h0
  (have F := ai @hl' (ai @h0 (ai @tmz @ha)); refine gG ?_; clear F)
  refine gB ?_
  (have F := ai @tmz @ha; refine gC (ih a _ (by omega) (by unfold big; omega) h0 (by omega)) ?_; clear F)
  (have F := @tmz; refine gR ?_; clear F)
  (have F := ai @hw1 (ai @hs @tmz); refine gG ?_; exact ⟨i + 1, by omega, gw, gw, by omega⟩)
theorem small_iff {t : Tm} : 0 <= leftTm t 60 ↔ sizeTm t <= 60 := by
 have := leftTm_spec t 60 (by omega)
 by_cases h : sizeTm t <= 60
 ·have := this.2.2.1 (by omega); omega
 ·have := this.2.2.2 (by omega); omega
set_option maxHeartbeats 4000000 in
set_option maxRecDepth 100000 in
theorem con_l6Small {t : Tm} (hb : sizeTm t <= big) : Con e0 81 [.agg (encTm t)] [.one (.lit (.bool (decide (sizeTm t <= 60 ∧ depthTm t <= 20))))] := by
 refine gI 7 Tryz.func81 ?_
 (have F := @tmz; refine gG ?_; clear F)
 refine gB ?_
 (have F := @tmz; refine gC (con_l6Left_all _ t 60 (Nat.lt_succ_self _) hb (by omega) (by omega)) ?_; clear F)
 by_cases h1 : sizeTm t <= 60
 rotate_left
 ·have h1' : ¬ (0 <= leftTm t 60) := fun h => h1 (small_iff.1 h)
  (have F := ai @tmz @h1'; refine gR ?_; clear F)
  (have F := @h1; refine gG ?_; exact gT)
 have h1' : (0 <= leftTm t 60) := small_iff.2 h1
 (have F := ai @tmz @h1'; refine gC (con_specDepth hb) ?_; clear F)
 by_cases h2 : depthTm t <= 20
 ·have h2' : ((depthTm t : Int) <= 20) := by omega
  (have F := ai @tmz @h2'; refine gR ?_; clear F)
  (have F := ai @h1 @h2; refine gG ?_; exact gT)
 ·have h2' : ¬ ((depthTm t : Int) <= 20) := by omega
  (have F := ai @tmz @h2'; refine gR ?_; clear F)
  (have F := ai @h1 @h2; refine gG ?_; exact gT)
section
variable {g : Sgn}
open Classical in
noncomputable def isNode (g : Sgn) (t : Tm) : Bool := decide (NodeOk g t)
theorem isNode_true {t : Tm} (h : NodeOk g t) : isNode g t = true := by simp [isNode, h]
theorem isNode_false {t : Tm} (h : ¬ NodeOk g t) : isNode g t = false := by simp [isNode, h]
theorem isNode_iff {t : Tm} : isNode g t = true ↔ NodeOk g t := by simp [isNode]
set_option maxHeartbeats 4000000 in
set_option maxRecDepth 100000 in
theorem con_l6Node (hg : SgnOk g) {t : Tm} (hok : okTm t) (hb : sizeTm t <= big) : Con e0 128 [.agg (encSgn g), .agg (encTm t)] [.one (.lit (.bool (isNode g t)))] := by
 have hno : ¬ NodeOk g t -> isNode g t = false := isNode_false
 obtain ⟨k1, k2, k3, k4⟩ := okTm_iff.1 hok
 have hsz := sizeTm_eq t
 have hal := sizeTms_len t.args
 have hn8 := hg.sorts.n8
 have hn1 := hg.sorts.n1
 have hln := hg.len
 unfold big at hb
 have hwn : IntKind.i64.wrap ((g.sorts.names.length : Int) - 1) = (g.sorts.names.length : Int) - 1 := wrapN rfl (by omega) (by omega)
 have hwo : IntKind.i64.wrap ((g.ops.length : Int) - 1) = (g.ops.length : Int) - 1 := wrapN rfl (by omega) (by omega)
 refine gI 9444733036108034605695 Tryz.func128 ?_
 by_cases h1 : t.op = -1
 ·have hV : NodeOk g t -> VarOk g t := fun h => by
   rcases h with h | ⟨o, d, h⟩
   ·exact h
   ·exact absurd h1 h.op
  (have F := ai @tmz (ai @encSgn_u @h1); refine gG ?_; clear F)
  refine gB ?_
  (have F := @tmz; refine gC (con_specName k2) ?_; clear F)
  by_cases h2 : isName t.name = true
  rotate_left
  ·have h2' : isName t.name = false := by simpa using h2
   have hf := hno fun h => h2 (hV h).2.1
   (have F := ai @tmz @h2'; refine gR ?_; clear F)
   (have F := @hf; refine gG ?_; exact gT)
  (have F := ai @tmz (ai @h2 @hwn); refine gC (con_l1In _ _ _) ?_; clear F)
  by_cases h3 : 0 <= t.sort ∧ t.sort < g.sorts.names.length
  rotate_left
  ·have h3' : decide (0 <= t.sort ∧ t.sort <= (g.sorts.names.length : Int) - 1) = false := by simp only [decide_eq_false_iff_not]; omega
   have hf := hno fun h => h3 ⟨(hV h).2.2.1, (hV h).2.2.2.1⟩
   (have F := ai @tmz @h3'; refine gR ?_; clear F)
   (have F := @hf; refine gG ?_; exact gT)
  have h3' : decide (0 <= t.sort ∧ t.sort <= (g.sorts.names.length : Int) - 1) = true := by simp only [decide_eq_true_eq]; omega
  by_cases h4 : t.args = []
  ·have hT := isNode_true (g := g) (.inl ⟨h1, h2, h3.1, h3.2, h4⟩)
   (have F := ai @tmz (ai @h3' @h4); refine gR ?_; clear F)
   (have F := @hT; refine gG ?_; exact gT)
  ·have hf := hno fun h => h4 (hV h).2.2.2.2
   have h4' : ¬ ((t.args.length : Int) = 0) := by
    intro h; apply h4; apply List.eq_nil_of_length_eq_zero; omega
   (have F := ai @tmz (ai @h3' @h4'); refine gR ?_; clear F)
   (have F := @hf; refine gG ?_; exact gT)
 (have F := ai @tmz (ai @encSgn_u @h1); refine gG ?_; clear F)
 refine gB ?_
 (have F := ai @tmz @hwo; refine gC (con_l1In _ _ _) ?_; clear F)
 by_cases h2 : 0 <= t.op ∧ t.op < g.ops.length
 rotate_left
 ·have h2' : decide (0 <= t.op ∧ t.op <= (g.ops.length : Int) - 1) = false := by simp only [decide_eq_false_iff_not]; omega
  have hf := hno fun h => by
   obtain ⟨o, d, h⟩ := h.app h1
   have := (List.getElem?_eq_some_iff.1 h.at').1
   have := h.lo
   omega
  (have F := ai @tmz @h2'; refine gR ?_; clear F)
  (have F := @hf; refine gG ?_; exact gT)
 have h2' : decide (0 <= t.op ∧ t.op <= (g.ops.length : Int) - 1) = true := by simp only [decide_eq_true_eq]; omega
 by_cases h4 : t.name = ByteArray.empty
 rotate_left
 ·have hf := hno fun h => by
   obtain ⟨o, d, h⟩ := h.app h1
   exact h4 h.nm
  (have F := ai @tmz (ai @h2' (ai @str_emp @h4)); refine gR ?_; clear F)
  (have F := @hf; refine gG ?_; exact gT)
 by_cases h5 : t.sort = 0
 rotate_left
 ·have hf := hno fun h => by
   obtain ⟨o, d, h⟩ := h.app h1
   exact h5 h.so
  (have F := ai @tmz (ai @h2' (ai @str_emp (ai @h4 @h5))); refine gR ?_; clear F)
  (have F := @hf; refine gG ?_; exact gT)
 have h0 := h2.1
 obtain ⟨o, ho⟩ : ∃ o, g.ops[t.op.toNat]? = some o := ⟨_, List.getElem?_eq_getElem (by omega)⟩
 obtain ⟨d, hd, hr0, hr1, hargs⟩ := hg.first ho
 have hgt : NodeOk g t -> AppOk g t o d := fun h => by
  obtain ⟨o', d', h⟩ := h.app h1
  have e1 := h.at'
  rw [ho] at e1
  injection e1 with e1
  subst e1
  have e2 := h.fst
  rw [hd] at e2
  injection e2 with e2
  subst e2
  exact h
 have cA := con_l4Arity hd
 rw [encOpr] at cA
 (have F := ai @tmz (ai @h2' (ai @str_emp (ai @h4 @h5))); refine gR ?_; clear F)
 (have F := ai @tmz (ai @h0 (ai @ho @encOpr_u)); refine gG ?_; clear F)
 cases ha : o.assoc with
 | false =>
  rw [ha] at cA
  refine gB ?_
  (have F := ai @tmz @ha; refine gC (cA) ?_; clear F)
  by_cases c : t.args.length = d.args.length
  ·have hT := isNode_true (g := g) (.inr ⟨o, d, h0, ho, hd, h4, h5, fun h => (by rw [ha] at h; cases h), fun _ => c⟩)
   have c' : ((t.args.length : Int) = (d.args.length : Int)) := by omega
   (have F := ai @tmz (ai @c' @ha); refine gR ?_; clear F)
   (have F := @hT; refine gG ?_; exact gT)
  ·have hf := hno fun h => c ((hgt h).nas ha)
   have c' : ¬ ((t.args.length : Int) = (d.args.length : Int)) := by omega
   (have F := ai @tmz (ai @c' @ha); refine gR ?_; clear F)
   (have F := @hf; refine gG ?_; exact gT)
 | true =>
  refine gB ?_
  (have F := ai @tmz @ha; refine gC (con_l1In _ _ _) ?_; clear F)
  by_cases c : 2 <= t.args.length ∧ t.args.length <= 7
  ·have hT := isNode_true (g := g) (.inr ⟨o, d, h0, ho, hd, h4, h5, fun _ => c, fun h => (by rw [ha] at h; cases h)⟩)
   have c' : decide ((2 : Int) <= (t.args.length : Int) ∧ (t.args.length : Int) <= 7) = true := by simp only [decide_eq_true_eq]; omega
   (have F := ai @tmz (ai @c' @ha); refine gR ?_; clear F)
   (have F := @hT; refine gG ?_; exact gT)
  ·have hf := hno fun h => c ((hgt h).asc ha)
   have c' : decide ((2 : Int) <= (t.args.length : Int) ∧ (t.args.length : Int) <= 7) = false := by simp only [decide_eq_false_iff_not]; omega
   (have F := ai @tmz (ai @c' @ha); refine gR ?_; clear F)
   (have F := @hf; refine gG ?_; exact gT)
end
end Go.Proofs.YtohilkmdjdfljaaGreat
