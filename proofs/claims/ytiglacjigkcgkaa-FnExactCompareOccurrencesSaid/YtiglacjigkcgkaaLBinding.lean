/-
  The laws' own functions at the type Binding: what they count, copy and compare (contracts, walked).
-/
import Derived.Test.YtiglacjigkcgkaaRows
import Derived.Test.YtiglacjigkcgkaaBase
import Derived.Test.YtiglacjigkcgkaaLTerm
import Derived.Deep.RegionHeld3
set_option linter.unusedSimpArgs false
set_option linter.unusedVariables false
namespace Go.Proofs.Ytiglacjigkcgkaa
open Go.RowKit
theorem okRow_Binding {r : List C} (h : okRow (fieldsOf .binding) r) : ∃ (i0 : Int) (t1 : ByteArray) (i2 : Int) (r3 : List (List C)) (i4 : Int) (t5 : ByteArray) (i6 : Int) (r7 : List (List C)), r = [.lit (.int .i64 i0), .lit (.string t1), .lit (.int .i64 i2), .sl r3, .lit (.int .i64 i4), .lit (.string t5), .lit (.int .i64 i6), .sl r7] ∧ I64 i0 ∧ t1.size ≤ maxLen ∧ I64 i2 ∧ okRows (fieldsOf .term) r3 ∧ I64 i4 ∧ t5.size ≤ maxLen ∧ I64 i6 ∧ okRows (fieldsOf .term) r7 := by
  obtain ⟨c0, c1, c2, c3, c4, c5, c6, c7, rfl⟩ := len8 h.len
  simp only [fieldsOf, termF, occF, sortsF, sigF, moduleF, algF, List.cons_append, List.nil_append, okRow, and_true] at h
  obtain ⟨h0, h1, h2, h3, h4, h5, h6, h7⟩ := h
  obtain ⟨i0, rfl, g0⟩ := okC_int h0
  obtain ⟨t1, rfl, g1⟩ := okC_str h1
  obtain ⟨i2, rfl, g2⟩ := okC_int h2
  obtain ⟨r3, rfl, g3⟩ := okC_sl h3
  obtain ⟨i4, rfl, g4⟩ := okC_int h4
  obtain ⟨t5, rfl, g5⟩ := okC_str h5
  obtain ⟨i6, rfl, g6⟩ := okC_int h6
  obtain ⟨r7, rfl, g7⟩ := okC_sl h7
  exact ⟨i0, t1, i2, r3, i4, t5, i6, r7, rfl, g0, g1, g2, g3, g4, g5, g6, g7⟩
theorem mkRow_Binding {i0 : Int} {t1 : ByteArray} {i2 : Int} {r3 : List (List C)} {i4 : Int} {t5 : ByteArray} {i6 : Int} {r7 : List (List C)} (g0 : I64 i0) (g1 : t1.size ≤ maxLen) (g2 : I64 i2) (g3 : okRows (fieldsOf .term) r3) (g4 : I64 i4) (g5 : t5.size ≤ maxLen) (g6 : I64 i6) (g7 : okRows (fieldsOf .term) r7) : okRow (fieldsOf .binding) [.lit (.int .i64 i0), .lit (.string t1), .lit (.int .i64 i2), .sl r3, .lit (.int .i64 i4), .lit (.string t5), .lit (.int .i64 i6), .sl r7] := by
  simp only [fieldsOf, termF, occF, sortsF, sigF, moduleF, algF, List.cons_append, List.nil_append, okRow, and_true]
  exact ⟨mk_int g0, mk_str g1, mk_int g2, mk_sl g3, mk_int g4, mk_str g5, mk_int g6, mk_sl g7⟩
theorem repVals_Binding {w : World} {S : Nat → Prop} {i0 : Int} {t1 : ByteArray} {i2 : Int} {r3 : List (List C)} {i4 : Int} {t5 : ByteArray} {i6 : Int} {r7 : List (List C)} {us : List Value} (h : RepVals w S [.lit (.int .i64 i0), .lit (.string t1), .lit (.int .i64 i2), .sl r3, .lit (.int .i64 i4), .lit (.string t5), .lit (.int .i64 i6), .sl r7] us) : ∃ v3 v7, us = [.int .i64 i0, .string t1, .int .i64 i2, v3, .int .i64 i4, .string t5, .int .i64 i6, v7] ∧ Rep w S (.sl r3) v3 ∧ Rep w S (.sl r7) v7 := by
  obtain ⟨u0, u1, u2, u3, u4, u5, u6, u7, rfl⟩ := len8 h.len
  simp only [RepVals, Rep.lit_iff, and_true] at h
  obtain ⟨rfl, rfl, rfl, e3, rfl, rfl, rfl, e7⟩ := h
  exact ⟨u3, u7, rfl, e3, e7⟩
theorem mkVals_Binding {w : World} {S : Nat → Prop} {i0 : Int} {t1 : ByteArray} {i2 : Int} {r3 : List (List C)} {i4 : Int} {t5 : ByteArray} {i6 : Int} {r7 : List (List C)} {v3 : Value} {v7 : Value} (e3 : Rep w S (.sl r3) v3) (e7 : Rep w S (.sl r7) v7) : RepVals w S [.lit (.int .i64 i0), .lit (.string t1), .lit (.int .i64 i2), .sl r3, .lit (.int .i64 i4), .lit (.string t5), .lit (.int .i64 i6), .sl r7] [.int .i64 i0, .string t1, .int .i64 i2, v3, .int .i64 i4, .string t5, .int .i64 i6, v7] := by
  simp only [RepVals, Rep.lit_iff, and_true, true_and]
  exact ⟨e3, e7⟩
def szBindingC (row : List C) : Prop := ∀ (S : Nat → Prop) (us : List Value) (left : Int) (w : World), okRow (fieldsOf .binding) row → RepVals w S row us → 0 ≤ left → left ≤ 1048576 →
  Calls Try.prog 56 #[.agg us.toArray, .int .i64 left] w fun e w' => e = .returned (.int .i64 (sub left (bulkRow row))) ∧ Below w.heap.size w w'
def eqBindingC (row : List C) : Prop := ∀ (S S' : Nat → Prop) (us us' : List Value) (w : World), okRow (fieldsOf .binding) row → RepVals w S row us → RepVals w S' row us' →
  Calls Try.prog 63 #[.agg us.toArray, .agg us'.toArray] w fun e w' => e = .returned (.bool true) ∧ Below w.heap.size w w'
def toBindingC (row : List C) : Prop := ∀ (S : Nat → Prop) (us : List Value) (w : World), okRow (fieldsOf .binding) row → RepVals w S row us → bulkRow row ≤ 1048576 →
  Calls Try.prog 58 #[.agg us.toArray] w fun e w' => ∃ us' : List Value, e = .returned (.agg us'.toArray) ∧ OwnVals w' row (fun x => w.heap.size ≤ x ∧ x < w'.heap.size) us' ∧ Below w.heap.size w w'
def szBindingSC (rows : List (List C)) : Prop := ∀ (S : Nat → Prop) (v : Value) (left : Int) (w : World), okRows (fieldsOf .binding) rows → Rep w S (.sl rows) v → 0 ≤ left → left ≤ 1048576 →
  Calls Try.prog 39 #[v, .int .i64 left] w fun e w' => e = .returned (.int .i64 (sub left (rows.length + bulkRows rows))) ∧ Below w.heap.size w w'
def eqBindingSC (rows : List (List C)) : Prop := ∀ (S S' : Nat → Prop) (v v' : Value) (w : World), okRows (fieldsOf .binding) rows → Rep w S (.sl rows) v → Rep w S' (.sl rows) v' →
  Calls Try.prog 49 #[v, v'] w fun e w' => e = .returned (.bool true) ∧ Below w.heap.size w w'
def toBindingSC (rows : List (List C)) : Prop := ∀ (S : Nat → Prop) (v : Value) (w : World), okRows (fieldsOf .binding) rows → Rep w S (.sl rows) v → rows.length + bulkRows rows ≤ 1048576 →
  Calls Try.prog 43 #[v] w fun e w' => ∃ v', e = .returned v' ∧ Own w' (.sl rows) (fun x => w.heap.size ≤ x ∧ x < w'.heap.size) v' ∧ Below w.heap.size w w'

set_option maxHeartbeats 1000000 in
theorem szBinding_of (row : List C) : szBindingC row := by
  intro S us left w hok hv h0 h1
  obtain ⟨i0, t1, i2, r3, i4, t5, i6, r7, rfl, g0, g1, g2, g3, g4, g5, g6, g7⟩ := okRow_Binding hok
  obtain ⟨v3, v7, rfl, e3, e7⟩ := repVals_Binding hv
  have HC0 := Lib.hid (szTerm_any [.lit (.int .i64 i0), .lit (.string t1), .lit (.int .i64 i2), .sl r3])
  have HC4 := Lib.hid (szTerm_any [.lit (.int .i64 i4), .lit (.string t5), .lit (.int .i64 i6), .sl r7])
  have HB := Lib.hid (show bulkRow [.lit (.int .i64 i0), .lit (.string t1), .lit (.int .i64 i2), .sl r3, .lit (.int .i64 i4), .lit (.string t5), .lit (.int .i64 i6), .sl r7] = (bulkRow [.lit (.int .i64 i0), .lit (.string t1), .lit (.int .i64 i2), .sl r3]) + (bulkRow [.lit (.int .i64 i4), .lit (.string t5), .lit (.int .i64 i6), .sl r7]) from by simp only [bulkRow, bulkC]; omega)
  have G0 := Lib.hid g0
  have G1 := Lib.hid g1
  have G2 := Lib.hid g2
  have G3 := Lib.hid g3
  have G4 := Lib.hid g4
  have G5 := Lib.hid g5
  have G6 := Lib.hid g6
  have G7 := Lib.hid g7
  clear g0 g1 g2 g3 g4 g5 g6 g7 hok
  have E3 := Lib.hid e3
  have E7 := Lib.hid e7
  clear hv e3 e7
  generalize hrow : bulkRow [.lit (.int .i64 i0), .lit (.string t1), .lit (.int .i64 i2), .sl r3, .lit (.int .i64 i4), .lit (.string t5), .lit (.int .i64 i6), .sl r7] = total at HB ⊢
  clear hrow
  have hbw := (Below.refl w.heap.size w).alloc (Nat.le_refl _) (.cells #[.int .i64 i0, .string t1, .int .i64 i2, v3, .int .i64 i4, .string t5, .int .i64 i6, v7] 92)
  go_enter Try.func56, Try.ntmps56
  go_wp2_with fail
  by_cases q0 : left < ((bulkRow [.lit (.int .i64 i0), .lit (.string t1), .lit (.int .i64 i2), .sl r3]) : Nat)
  · refine (HC0.out S _ _ _ (mkRow_Term G0.out G1.out G2.out G3.out) (mkVals_Term (E3.out.below hbw)) (by omega) (by omega)).mono ?_
    rw [sub_neg (by omega)]
    rintro e w1 ⟨rfl, hb1⟩
    go_wp2
    go_ret
    exact ⟨ret_int (a := -1) (sub_neg (by have := HB.out; omega)).symm, hbw.trans (hb1.mono hbw.size)⟩
  refine (HC0.out S _ _ _ (mkRow_Term G0.out G1.out G2.out G3.out) (mkVals_Term (E3.out.below hbw)) (by omega) (by omega)).mono ?_
  rw [sub_pos (by omega)]
  rintro e w1 ⟨rfl, hb1⟩
  obtain ⟨hc1, hf1⟩ := bcell hb1
  have hz1 : w.heap.size < w1.heap.size := (by have := hb1.size; (try simp at this); omega)
  replace hbw := hbw.trans (hb1.mono hbw.size)
  go_wp2_with fail
  by_cases q4 : (left - (((bulkRow [.lit (.int .i64 i0), .lit (.string t1), .lit (.int .i64 i2), .sl r3]) : Nat) : Int)) < ((bulkRow [.lit (.int .i64 i4), .lit (.string t5), .lit (.int .i64 i6), .sl r7]) : Nat)
  · refine (HC4.out S _ _ _ (mkRow_Term G4.out G5.out G6.out G7.out) (mkVals_Term (E7.out.below hbw)) (by omega) (by omega)).mono ?_
    rw [sub_neg (by omega)]
    rintro e w2 ⟨rfl, hb2⟩
    go_wp2
    go_ret
    exact ⟨ret_int (a := -1) (sub_neg (by have := HB.out; omega)).symm, hbw.trans (hb2.mono hbw.size)⟩
  refine (HC4.out S _ _ _ (mkRow_Term G4.out G5.out G6.out G7.out) (mkVals_Term (E7.out.below hbw)) (by omega) (by omega)).mono ?_
  rw [sub_pos (by omega)]
  rintro e w2 ⟨rfl, hb2⟩
  obtain ⟨hc2, hf2⟩ := bcell hb2
  have hz2 : w.heap.size < w2.heap.size := (by have := hb2.size; (try simp at this); omega)
  replace hbw := hbw.trans (hb2.mono hbw.size)
  go_wp2
  go_ret
  exact ⟨ret_int (by have := HB.out; rw [sub_pos (by omega)]; omega), hbw⟩

set_option maxHeartbeats 1000000 in
theorem eqBinding_of (row : List C) : eqBindingC row := by
  intro S S' us us' w hok hv hv'
  obtain ⟨i0, t1, i2, r3, i4, t5, i6, r7, rfl, g0, g1, g2, g3, g4, g5, g6, g7⟩ := okRow_Binding hok
  obtain ⟨v3, v7, rfl, e3, e7⟩ := repVals_Binding hv
  obtain ⟨x3, x7, rfl, d3, d7⟩ := repVals_Binding hv'
  have HC0 := Lib.hid (eqTerm_any [.lit (.int .i64 i0), .lit (.string t1), .lit (.int .i64 i2), .sl r3])
  have HC4 := Lib.hid (eqTerm_any [.lit (.int .i64 i4), .lit (.string t5), .lit (.int .i64 i6), .sl r7])
  have G0 := Lib.hid g0
  have G1 := Lib.hid g1
  have G2 := Lib.hid g2
  have G3 := Lib.hid g3
  have G4 := Lib.hid g4
  have G5 := Lib.hid g5
  have G6 := Lib.hid g6
  have G7 := Lib.hid g7
  clear g0 g1 g2 g3 g4 g5 g6 g7 hok
  have E3 := Lib.hid e3
  have D3 := Lib.hid d3
  have E7 := Lib.hid e7
  have D7 := Lib.hid d7
  clear hv hv' e3 d3 e7 d7
  have hbw := ((Below.refl w.heap.size w).alloc (Nat.le_refl _) (.cells #[.int .i64 i0, .string t1, .int .i64 i2, v3, .int .i64 i4, .string t5, .int .i64 i6, v7] 94)).alloc (by simp) (.cells #[.int .i64 i0, .string t1, .int .i64 i2, x3, .int .i64 i4, .string t5, .int .i64 i6, x7] 94)
  go_enter Try.func63, Try.ntmps63
  go_wp2_with fail
  refine (HC0.out S S' _ _ _ (mkRow_Term G0.out G1.out G2.out G3.out) (mkVals_Term (E3.out.below hbw)) (mkVals_Term (D3.out.below hbw))).mono ?_
  rintro e w1 ⟨rfl, hb1⟩
  obtain ⟨hc1, hf1⟩ := bcell hb1
  have hz1 : w.heap.size + 1 < w1.heap.size := (by have := hb1.size; (try simp at this); omega)
  have ha1 : w.heap.size < w1.heap.size := by omega
  replace hbw := hbw.trans (hb1.mono hbw.size)
  go_wp2_with fail
  refine (HC4.out S S' _ _ _ (mkRow_Term G4.out G5.out G6.out G7.out) (mkVals_Term (E7.out.below hbw)) (mkVals_Term (D7.out.below hbw))).mono ?_
  rintro e w2 ⟨rfl, hb2⟩
  obtain ⟨hc2, hf2⟩ := bcell hb2
  have hz2 : w.heap.size + 1 < w2.heap.size := (by have := hb2.size; (try simp at this); omega)
  have ha2 : w.heap.size < w2.heap.size := by omega
  replace hbw := hbw.trans (hb2.mono hbw.size)
  go_wp2
  go_ret
  exact ⟨rfl, hbw⟩

set_option maxHeartbeats 2000000 in
theorem toBinding_of (row : List C) : toBindingC row := by
  intro S us w hok hv hlen
  obtain ⟨i0, t1, i2, r3, i4, t5, i6, r7, rfl, g0, g1, g2, g3, g4, g5, g6, g7⟩ := okRow_Binding hok
  obtain ⟨v3, v7, rfl, e3, e7⟩ := repVals_Binding hv
  have HC0 := Lib.hid (toTerm_any [.lit (.int .i64 i0), .lit (.string t1), .lit (.int .i64 i2), .sl r3])
  have HC4 := Lib.hid (toTerm_any [.lit (.int .i64 i4), .lit (.string t5), .lit (.int .i64 i6), .sl r7])
  have G0 := Lib.hid g0
  have G1 := Lib.hid g1
  have G2 := Lib.hid g2
  have G3 := Lib.hid g3
  have G4 := Lib.hid g4
  have G5 := Lib.hid g5
  have G6 := Lib.hid g6
  have G7 := Lib.hid g7
  clear g0 g1 g2 g3 g4 g5 g6 g7 hok
  have E3 := Lib.hid e3
  have E7 := Lib.hid e7
  clear hv e3 e7
  have hl0 : (bulkRow [.lit (.int .i64 i0), .lit (.string t1), .lit (.int .i64 i2), .sl r3]) ≤ 1048576 := by
    have e : (bulkRow [.lit (.int .i64 i0), .lit (.string t1), .lit (.int .i64 i2), .sl r3]) ≤ bulkRow [.lit (.int .i64 i0), .lit (.string t1), .lit (.int .i64 i2), .sl r3, .lit (.int .i64 i4), .lit (.string t5), .lit (.int .i64 i6), .sl r7] := by simp only [bulkRow, bulkC]; omega
    exact Nat.le_trans e hlen
  have hl4 : (bulkRow [.lit (.int .i64 i4), .lit (.string t5), .lit (.int .i64 i6), .sl r7]) ≤ 1048576 := by
    have e : (bulkRow [.lit (.int .i64 i4), .lit (.string t5), .lit (.int .i64 i6), .sl r7]) ≤ bulkRow [.lit (.int .i64 i0), .lit (.string t1), .lit (.int .i64 i2), .sl r3, .lit (.int .i64 i4), .lit (.string t5), .lit (.int .i64 i6), .sl r7] := by simp only [bulkRow, bulkC]; omega
    exact Nat.le_trans e hlen
  clear hlen
  go_enter Try.func58, Try.ntmps58
  go_wp2_with fail
  refine (HC0.out S _ _ (mkRow_Term G0.out G1.out G2.out G3.out) (by exact mkVals_Term (E3.out.below (by repeat (first | refine Below.alloc ?_ (by simp; try omega) _ | exact Below.refl _ _)))) hl0).mono ?_
  rintro e w1 ⟨ys0, rfl, hown0, hb1⟩
  obtain ⟨y3, rfl, f3⟩ := repVals_Term (OwnVals.rep _ _ (fun _ => True) _ (fun _ _ => trivial) hown0)
  obtain ⟨A3, n3, cap3, rfl, _, _, _⟩ := f3.form
  clear f3
  have hz1 := hb1.size
  simp at hz1 hown0
  have HOWN0 := Lib.hid hown0
  clear hown0
  have hbw1 : Below w.heap.size w w1 := Below.trans (by repeat (first | refine Below.alloc ?_ (by simp; try omega) _ | exact Below.refl _ _)) (hb1.mono (by simp; try omega))
  obtain ⟨hc1, hf1⟩ := bcell hb1
  have ha1 : w.heap.size < w1.heap.size := by omega
  have hbb1 : w.heap.size + 1 < w1.heap.size := by omega
  have hcc1 : w.heap.size + 1 + 1 < w1.heap.size := by omega
  go_wp2_with fail
  refine (HC4.out S _ _ (mkRow_Term G4.out G5.out G6.out G7.out) (by exact mkVals_Term (E7.out.below (by repeat (first | refine Below.setCell ?_ (by simp; try omega) _ | exact hbw1)))) hl4).mono ?_
  rintro e w2 ⟨ys4, rfl, hown4, hb2⟩
  obtain ⟨y7, rfl, f7⟩ := repVals_Term (OwnVals.rep _ _ (fun _ => True) _ (fun _ _ => trivial) hown4)
  obtain ⟨A7, n7, cap7, rfl, _, _, _⟩ := f7.form
  clear f7
  have hz2 := hb2.size
  simp at hz2 hown4
  have HOWN4 := Lib.hid hown4
  clear hown4
  have hbw2 : Below w.heap.size w w2 := Below.trans (by repeat (first | refine Below.setCell ?_ (by simp; try omega) _ | exact hbw1)) (hb2.mono (by simp; try omega))
  obtain ⟨hc2, hf2⟩ := bcell hb2
  have ha2 : w.heap.size < w2.heap.size := by omega
  have hbb2 : w.heap.size + 1 < w2.heap.size := by omega
  have hcc2 : w.heap.size + 1 + 1 < w2.heap.size := by omega
  go_wp2
  refine bodyPost_ret (v := .agg #[.int .i64 i0, .string t1, .int .i64 i2, .slice A3 n3 cap3, .int .i64 i4, .string t5, .int .i64 i6, .slice A7 n7 cap7]) (by simp [results, Try.results58, go_sem, hc1, ha1, hbb1, hcc1, hc2, ha2, hbb2, hcc2]) rfl ⟨[.int .i64 i0, .string t1, .int .i64 i2, .slice A3 n3 cap3, .int .i64 i4, .string t5, .int .i64 i6, .slice A7 n7 cap7], rfl, ?_, (by repeat (first | refine Below.setCell ?_ (by simp; try omega) _ | exact hbw2))⟩
  simp
  exact (OwnVals.append (cs := [.lit (.int .i64 i0), .lit (.string t1), .lit (.int .i64 i2), .sl r3]) (ds := [.lit (.int .i64 i4), .lit (.string t5), .lit (.int .i64 i6), .sl r7]) (us := [.int .i64 i0, .string t1, .int .i64 i2, .slice A3 n3 cap3]) (vs := [.int .i64 i4, .string t5, .int .i64 i6, .slice A7 n7 cap7]) (fun x => w.heap.size + 1 + 1 + 1 ≤ x ∧ x < w1.heap.size) (fun x => w1.heap.size ≤ x ∧ x < w2.heap.size) (HOWN0.out.same (by repeat (first | refine Same.trans ?_ (Same.setCell _ _ _ _ (by simp; try omega)) | refine Same.trans ?_ ((Same.below hb2).mono (fun x hx => by simp at hx ⊢; omega)) | exact Same.refl _ _))) (OwnVals.append (cs := [.lit (.int .i64 i4), .lit (.string t5), .lit (.int .i64 i6), .sl r7]) (ds := []) (us := [.int .i64 i4, .string t5, .int .i64 i6, .slice A7 n7 cap7]) (vs := []) (fun x => w1.heap.size ≤ x ∧ x < w2.heap.size) (fun x => w2.heap.size ≤ x ∧ x < w2.heap.size) (HOWN4.out.same (by repeat (first | refine Same.trans ?_ (Same.setCell _ _ _ _ (by simp; try omega)) | exact Same.refl _ _))) OwnVals.nil (fun x hx => ⟨by omega, by omega⟩) (fun x hx => ⟨by omega, by omega⟩) (fun x hx hy => by omega)) (fun x hx => ⟨by omega, by omega⟩) (fun x hx => ⟨by omega, by omega⟩) (fun x hx hy => by omega))
theorem szBinding_any (row : List C) : szBindingC row := szBinding_of row
theorem eqBinding_any (row : List C) : eqBindingC row := eqBinding_of row
theorem toBinding_any (row : List C) : toBindingC row := toBinding_of row

set_option maxHeartbeats 1000000 in
theorem szBindingS_of (rows : List (List C)) (h : ∀ (i : Nat) r, rows[i]? = some r → szBindingC r) : szBindingSC rows := by
  intro S v left w hok hv h0 h1
  obtain ⟨A, m, cap, rfl, hm, hmc, hcm⟩ := hv.form
  have H := Lib.hid h
  have HV := Lib.hid hv
  have HM := Lib.hid hm
  have HOK := Lib.hid hok
  clear h hv hm hok
  unfold maxLen at hcm
  by_cases hlt : left - m < 0
  · rw [sub_neg (by have := HM.out; omega)]
    go_enter Try.func39, Try.ntmps39
    go_wp2
    go_ret
    exact ⟨rfl, Below.refl _ _⟩
  · go_enter Try.func39, Try.ntmps39
    go_wp2
    go_loopw [1, 5] (fun l i wr => ∃ k : Nat, k ≤ m ∧ i = .int .i64 k ∧ l = .int .i64 (left - m - (bulkRows (rows.take k) : Int)) ∧ 0 ≤ left - m - (bulkRows (rows.take k) : Int) ∧ Below w.heap.size w wr) (fun _ i _ => m - (intOf i).toNat)
    case atStart => exact ⟨0, Nat.zero_le _, rfl, by simp [bulkRows], by simp [bulkRows]; omega, Below.refl _ _⟩
    case round =>
      obtain ⟨k, hk, rfl, rfl, hl0, hb⟩ := hrel
      by_cases hkm : k < m
      · obtain ⟨b, off, r, rfl, hS, hbz, hget, hokr, hrow⟩ := (HV.out.below hb).get HOK.out hkm
        obtain ⟨u0, u1, u2, u3, u4, u5, u6, u7, c0, c1, c2, c3, c4, c5, c6, c7, hvals⟩ := hrow.vals8 hokr.len
        have HT := H.out k r hget
        have HVALS := Lib.hid hvals
        have HOKR := Lib.hid hokr
        have HBT := Lib.hid (bulk_take hget)
        have hle := bulk_take_le rows (k+1)
        clear hvals hokr hrow hget
        simp only [fieldsOf, termF, occF, sortsF, sigF, moduleF, algF, List.cons_append, List.nil_append, List.length_cons, List.length_nil, Nat.reduceAdd] at c0 c1 c2 c3 c4 c5 c6 c7
        by_cases h2 : left - m - (bulkRows (rows.take k) : Int) < bulkRow r
        · go_wp2_with fail
          refine (HT S _ _ _ HOKR.out HVALS.out (by omega) (by omega)).mono ?_
          rw [sub_neg h2]
          rintro e w' ⟨rfl, hb2⟩
          go_wp2
          go_ret
          exact ⟨ret_int (a := -1) (sub_neg (by have := HBT.out; have := HM.out; omega)).symm, hb.trans (hb2.mono hb.size)⟩
        · go_wp2_with fail
          refine (HT S _ _ _ HOKR.out HVALS.out (by omega) (by omega)).mono ?_
          rw [sub_pos (by omega)]
          rintro e w' ⟨rfl, hb2⟩
          go_wp2
          go_roundw
          case rel => exact ⟨k + 1, by omega, by go_num, by have := HBT.out; congr 1; omega, by have := HBT.out; omega, hb.trans (hb2.mono hb.size)⟩
          case measure => simp [intOf]; omega
      · go_wp2
        go_ret
        have e : k = m := by omega
        subst e
        have : rows.take k = rows := List.take_of_length_le (by have := HM.out; omega)
        rw [this] at hl0 ⊢
        exact ⟨ret_int (by have := HM.out; rw [sub_pos (by omega)]; omega), hb⟩

set_option maxHeartbeats 1000000 in
theorem eqBindingS_of (rows : List (List C)) (h : ∀ (i : Nat) r, rows[i]? = some r → eqBindingC r) : eqBindingSC rows := by
  intro S S' v v' w hok hv hv'
  obtain ⟨A, m, cap, rfl, hm, hmc, hcm⟩ := hv.form
  obtain ⟨A', m', cap', rfl, hm', hmc', hcm'⟩ := hv'.form
  obtain rfl : m = m' := by omega
  have H := Lib.hid h
  have HV := Lib.hid hv
  have HV' := Lib.hid hv'
  have HM := Lib.hid hm
  have HOK := Lib.hid hok
  clear h hv hm hok hm' hv'
  unfold maxLen at hcm hcm'
  go_enter Try.func49, Try.ntmps49
  go_wp2
  go_loopw [5] (fun i wr => ∃ k : Nat, k ≤ m ∧ i = .int .i64 k ∧ Below w.heap.size w wr) (fun i _ => m - (intOf i).toNat)
  case atStart => exact ⟨0, Nat.zero_le _, rfl, Below.refl _ _⟩
  case round =>
    obtain ⟨k, hk, rfl, hb⟩ := hrel
    by_cases hkm : k < m
    · obtain ⟨b, off, r, rfl, hS, hbz, hget, hokr, hrow⟩ := (HV.out.below hb).get HOK.out hkm
      obtain ⟨b', off', r', rfl, hS', hbz', hget', hokr', hrow'⟩ := (HV'.out.below hb).get HOK.out hkm
      obtain rfl : r = r' := by rw [hget] at hget'; exact Option.some.inj hget'
      obtain ⟨u0, u1, u2, u3, u4, u5, u6, u7, c0, c1, c2, c3, c4, c5, c6, c7, hvals⟩ := hrow.vals8 hokr.len
      obtain ⟨x0, x1, x2, x3, x4, x5, x6, x7, d0, d1, d2, d3, d4, d5, d6, d7, hvals'⟩ := hrow'.vals8 hokr.len
      have HT := H.out k r hget
      have HVALS := Lib.hid hvals
      have HVALS' := Lib.hid hvals'
      have HOKR := Lib.hid hokr
      clear hvals hvals' hokr hokr' hrow hrow' hget hget'
      simp only [fieldsOf, termF, occF, sortsF, sigF, moduleF, algF, List.cons_append, List.nil_append, List.length_cons, List.length_nil, Nat.reduceAdd] at c0 c1 c2 c3 c4 c5 c6 c7 d0 d1 d2 d3 d4 d5 d6 d7
      have k0 : (0 : Int) ≤ (k : Int) := by omega
      have k1 : (k : Int) < (m : Int) := by omega
      go_wp2_with fail
      go_region_held3 (fun w' => ∀ b o, b < wr.heap.size → w'.cell? ⟨b, o, none⟩ = wr.cell? ⟨b, o, none⟩) (first | go_keep | exact fun b o h => hb2.cell (p := ⟨b, o, none⟩) h) (first | (go_at_call 63; refine (HT S S' _ _ _ HOKR.out (HVALS.out.below (Below.refl _ _).drew) (HVALS'.out.below (Below.refl _ _).drew)).mono ?_; rintro e w' ⟨rfl, hb2⟩))
      go_wp2
      go_roundw
      case rel => exact ⟨k + 1, by omega, by go_num, hb.trans ((Below.refl _ _).drew.trans (hb2.mono hb.size))⟩
      case measure => simp [intOf]; omega
    · go_wp2
      go_ret
      exact ⟨rfl, hb⟩
theorem info_Binding : (Try.prog.info? 94).map (fun i => (i.zero, i.size, i.bytes)) = some (some (.agg #[.int .i64 0, .string .empty, .int .i64 0, .slice none 0 0, .int .i64 0, .string .empty, .int .i64 0, .slice none 0 0]), 8, 112) := by kernel_rfl
set_option maxHeartbeats 1000000 in
theorem toBindingS_of (rows : List (List C)) (h : ∀ (i : Nat) r, rows[i]? = some r → toBindingC r) : toBindingSC rows := by
  intro S v w hok hv hlen
  obtain ⟨A, m, cap, rfl, hm, hmc, hcm⟩ := hv.form
  obtain ⟨i0, hi, hz0, hz1, hz2⟩ := info_parts info_Binding
  have H := Lib.hid h
  have HV := Lib.hid hv
  have HM := Lib.hid hm
  have HOK := Lib.hid hok
  have hml : m ≤ 1048576 := by omega
  clear h hv hm hok
  unfold maxLen at hcm
  have hmk := run_make (P := Try.prog) w 55 94 i0 _ Try.underlying55 hi hz0 .i64 .i64 (m : Int) (m : Int) (by omega) (by omega) (by rw [hz2]; omega) (by omega)
  go_enter Try.func43, Try.ntmps43
  go_wp2
  clear hmk
  go_loopw [4] (fun i wr => ∃ k : Nat, k ≤ m ∧ i = .int .i64 k ∧ Filling w w.heap.size 94 m 8 rows k wr) (fun i _ => m - (intOf i).toNat)
  case atStart => exact ⟨0, Nat.zero_le _, rfl, Filling.start (size_madeCells _ _)⟩
  case round =>
    obtain ⟨k, hk, rfl, hfill⟩ := hrel
    have hb := hfill.1
    by_cases hkm : k < m
    · obtain ⟨b, off, r, rfl, hS, hbz, hget, hokr, hrow⟩ := (HV.out.below hb).get HOK.out hkm
      obtain ⟨u0, u1, u2, u3, u4, u5, u6, u7, c0, c1, c2, c3, c4, c5, c6, c7, hvals⟩ := hrow.vals8 hokr.len
      have HT := H.out k r hget
      have HVALS := Lib.hid hvals
      have HOKR := Lib.hid hokr
      have HGET := Lib.hid hget
      have HF := Lib.hid hfill
      have hbg := bulk_get hget
      clear hvals hokr hrow hget hfill
      simp only [fieldsOf, termF, occF, sortsF, sigF, moduleF, algF, List.cons_append, List.nil_append, List.length_cons, List.length_nil, Nat.reduceAdd] at c0 c1 c2 c3 c4 c5 c6 c7
      go_wp2_with fail
      refine (HT S _ _ HOKR.out HVALS.out (by omega)).mono ?_
      rintro e w2 ⟨us, rfl, hown, hb2⟩
      have hone := HOKR.out.one (OwnVals.rep _ _ (fun _ => True) _ (fun _ _ => trivial) hown)
      obtain ⟨y0, y1, y2, y3, y4, y5, y6, y7, rfl⟩ := len8 (hown.len.trans HOKR.out.len)
      have HOWN := Lib.hid hown
      have HONE := Lib.hid hone
      obtain ⟨cur, hcur, hcs⟩ := HF.out.row hb2
      have HCUR := Lib.hid hcur
      have HCS := Lib.hid hcs
      clear hown hone hcur hcs
      go_wp2_with (refine wpList_store_put rfl 94 _ _ rfl w.heap.size (k * 8) rfl [y0, y1, y2, y3, y4, y5, y6, y7] rfl i0 hi hz1 94 cur HCUR.out (by have := HCS.out; simp only [List.length_cons, List.length_nil]; omega) HONE.out ?_; intro w3 hput)
      go_roundw
      case rel => exact ⟨k + 1, by omega, by go_num, HF.out.step (fs := fieldsOf .binding) HOK.out HGET.out hb2 HOWN.out hput⟩
      case measure => simp [intOf]; omega
    · go_wp2
      go_ret
      have e : k = m := by omega
      subst e
      exact ⟨_, rfl, hfill.done HM.out (by unfold maxLen; omega)⟩
theorem szBindingS_any (rows : List (List C)) : szBindingSC rows := szBindingS_of rows (fun _ r _ => szBinding_any r)
theorem eqBindingS_any (rows : List (List C)) : eqBindingSC rows := eqBindingS_of rows (fun _ r _ => eqBinding_any r)
theorem toBindingS_any (rows : List (List C)) : toBindingSC rows := toBindingS_of rows (fun _ r _ => toBinding_any r)
end Go.Proofs.Ytiglacjigkcgkaa
