/-
  The laws' own functions at the type Occurrence: what they count, copy and compare (contracts, walked).
-/
import Derived.Test.YtiglacjigkcgkaaRows
import Derived.Test.YtiglacjigkcgkaaBase
import Derived.Test.YtiglacjigkcgkaaLInt
import Derived.Test.YtiglacjigkcgkaaLTerm
import Derived.Test.YtiglacjigkcgkaaLBinding
import Derived.Deep.RegionHeld3
set_option linter.unusedSimpArgs false
set_option linter.unusedVariables false
namespace Go.Proofs.Ytiglacjigkcgkaa
open Go.RowKit
theorem okRow_Occurrence {r : List C} (h : okRow (fieldsOf .occ) r) : ∃ (r0 : List (List C)) (r1 : List (List C)) (r2 : List (List C)) (r3 : List (List C)), r = [.sl r0, .sl r1, .sl r2, .sl r3] ∧ okRows (fieldsOf .int) r0 ∧ okRows (fieldsOf .term) r1 ∧ okRows (fieldsOf .term) r2 ∧ okRows (fieldsOf .binding) r3 := by
  obtain ⟨c0, c1, c2, c3, rfl⟩ := len4 h.len
  simp only [fieldsOf, termF, occF, sortsF, sigF, moduleF, algF, List.cons_append, List.nil_append, okRow, and_true] at h
  obtain ⟨h0, h1, h2, h3⟩ := h
  obtain ⟨r0, rfl, g0⟩ := okC_sl h0
  obtain ⟨r1, rfl, g1⟩ := okC_sl h1
  obtain ⟨r2, rfl, g2⟩ := okC_sl h2
  obtain ⟨r3, rfl, g3⟩ := okC_sl h3
  exact ⟨r0, r1, r2, r3, rfl, g0, g1, g2, g3⟩
theorem mkRow_Occurrence {r0 : List (List C)} {r1 : List (List C)} {r2 : List (List C)} {r3 : List (List C)} (g0 : okRows (fieldsOf .int) r0) (g1 : okRows (fieldsOf .term) r1) (g2 : okRows (fieldsOf .term) r2) (g3 : okRows (fieldsOf .binding) r3) : okRow (fieldsOf .occ) [.sl r0, .sl r1, .sl r2, .sl r3] := by
  simp only [fieldsOf, termF, occF, sortsF, sigF, moduleF, algF, List.cons_append, List.nil_append, okRow, and_true]
  exact ⟨mk_sl g0, mk_sl g1, mk_sl g2, mk_sl g3⟩
theorem repVals_Occurrence {w : World} {S : Nat → Prop} {r0 : List (List C)} {r1 : List (List C)} {r2 : List (List C)} {r3 : List (List C)} {us : List Value} (h : RepVals w S [.sl r0, .sl r1, .sl r2, .sl r3] us) : ∃ v0 v1 v2 v3, us = [v0, v1, v2, v3] ∧ Rep w S (.sl r0) v0 ∧ Rep w S (.sl r1) v1 ∧ Rep w S (.sl r2) v2 ∧ Rep w S (.sl r3) v3 := by
  obtain ⟨u0, u1, u2, u3, rfl⟩ := len4 h.len
  simp only [RepVals, Rep.lit_iff, and_true] at h
  obtain ⟨e0, e1, e2, e3⟩ := h
  exact ⟨u0, u1, u2, u3, rfl, e0, e1, e2, e3⟩
theorem mkVals_Occurrence {w : World} {S : Nat → Prop} {r0 : List (List C)} {r1 : List (List C)} {r2 : List (List C)} {r3 : List (List C)} {v0 : Value} {v1 : Value} {v2 : Value} {v3 : Value} (e0 : Rep w S (.sl r0) v0) (e1 : Rep w S (.sl r1) v1) (e2 : Rep w S (.sl r2) v2) (e3 : Rep w S (.sl r3) v3) : RepVals w S [.sl r0, .sl r1, .sl r2, .sl r3] [v0, v1, v2, v3] := by
  simp only [RepVals, Rep.lit_iff, and_true, true_and]
  exact ⟨e0, e1, e2, e3⟩
def szOccurrenceC (row : List C) : Prop := ∀ (S : Nat → Prop) (us : List Value) (left : Int) (w : World), okRow (fieldsOf .occ) row → RepVals w S row us → 0 ≤ left → left ≤ 1048576 →
  Calls Try.prog 21 #[.agg us.toArray, .int .i64 left] w fun e w' => e = .returned (.int .i64 (sub left (bulkRow row))) ∧ Below w.heap.size w w'
def eqOccurrenceC (row : List C) : Prop := ∀ (S S' : Nat → Prop) (us us' : List Value) (w : World), okRow (fieldsOf .occ) row → RepVals w S row us → RepVals w S' row us' →
  Calls Try.prog 25 #[.agg us.toArray, .agg us'.toArray] w fun e w' => e = .returned (.bool true) ∧ Below w.heap.size w w'
def toOccurrenceC (row : List C) : Prop := ∀ (S : Nat → Prop) (us : List Value) (w : World), okRow (fieldsOf .occ) row → RepVals w S row us → bulkRow row ≤ 1048576 →
  Calls Try.prog 23 #[.agg us.toArray] w fun e w' => ∃ us' : List Value, e = .returned (.agg us'.toArray) ∧ OwnVals w' row (fun x => w.heap.size ≤ x ∧ x < w'.heap.size) us' ∧ Below w.heap.size w w'

set_option maxHeartbeats 1000000 in
theorem szOccurrence_of (row : List C) : szOccurrenceC row := by
  intro S us left w hok hv h0 h1
  obtain ⟨r0, r1, r2, r3, rfl, g0, g1, g2, g3⟩ := okRow_Occurrence hok
  obtain ⟨v0, v1, v2, v3, rfl, e0, e1, e2, e3⟩ := repVals_Occurrence hv
  have HC0 := Lib.hid (szIntS_any r0)
  have HC1 := Lib.hid (szTermS_any r1)
  have HC2 := Lib.hid (szTermS_any r2)
  have HC3 := Lib.hid (szBindingS_any r3)
  have HB := Lib.hid (show bulkRow [.sl r0, .sl r1, .sl r2, .sl r3] = (r0.length + bulkRows r0) + (r1.length + bulkRows r1) + (r2.length + bulkRows r2) + (r3.length + bulkRows r3) from by simp only [bulkRow, bulkC]; omega)
  have G0 := Lib.hid g0
  have G1 := Lib.hid g1
  have G2 := Lib.hid g2
  have G3 := Lib.hid g3
  clear g0 g1 g2 g3 hok
  have E0 := Lib.hid e0
  have E1 := Lib.hid e1
  have E2 := Lib.hid e2
  have E3 := Lib.hid e3
  clear hv e0 e1 e2 e3
  generalize hrow : bulkRow [.sl r0, .sl r1, .sl r2, .sl r3] = total at HB ⊢
  clear hrow
  have hbw := (Below.refl w.heap.size w).alloc (Nat.le_refl _) (.cells #[v0, v1, v2, v3] 52)
  go_enter Try.func21, Try.ntmps21
  go_wp2_with fail
  by_cases q0 : left < ((r0.length + bulkRows r0) : Nat)
  · refine (HC0.out S _ _ _ G0.out (E0.out.below hbw) (by omega) (by omega)).mono ?_
    rw [sub_neg (by omega)]
    rintro e w1 ⟨rfl, hb1⟩
    go_wp2
    go_ret
    exact ⟨ret_int (a := -1) (sub_neg (by have := HB.out; omega)).symm, hbw.trans (hb1.mono hbw.size)⟩
  refine (HC0.out S _ _ _ G0.out (E0.out.below hbw) (by omega) (by omega)).mono ?_
  rw [sub_pos (by omega)]
  rintro e w1 ⟨rfl, hb1⟩
  obtain ⟨hc1, hf1⟩ := bcell hb1
  have hz1 : w.heap.size < w1.heap.size := (by have := hb1.size; (try simp at this); omega)
  replace hbw := hbw.trans (hb1.mono hbw.size)
  go_wp2_with fail
  by_cases q1 : (left - (((r0.length + bulkRows r0) : Nat) : Int)) < ((r1.length + bulkRows r1) : Nat)
  · refine (HC1.out S _ _ _ G1.out (E1.out.below hbw) (by omega) (by omega)).mono ?_
    rw [sub_neg (by omega)]
    rintro e w2 ⟨rfl, hb2⟩
    go_wp2
    go_ret
    exact ⟨ret_int (a := -1) (sub_neg (by have := HB.out; omega)).symm, hbw.trans (hb2.mono hbw.size)⟩
  refine (HC1.out S _ _ _ G1.out (E1.out.below hbw) (by omega) (by omega)).mono ?_
  rw [sub_pos (by omega)]
  rintro e w2 ⟨rfl, hb2⟩
  obtain ⟨hc2, hf2⟩ := bcell hb2
  have hz2 : w.heap.size < w2.heap.size := (by have := hb2.size; (try simp at this); omega)
  replace hbw := hbw.trans (hb2.mono hbw.size)
  go_wp2_with fail
  by_cases q2 : ((left - (((r0.length + bulkRows r0) : Nat) : Int)) - (((r1.length + bulkRows r1) : Nat) : Int)) < ((r2.length + bulkRows r2) : Nat)
  · refine (HC2.out S _ _ _ G2.out (E2.out.below hbw) (by omega) (by omega)).mono ?_
    rw [sub_neg (by omega)]
    rintro e w3 ⟨rfl, hb3⟩
    go_wp2
    go_ret
    exact ⟨ret_int (a := -1) (sub_neg (by have := HB.out; omega)).symm, hbw.trans (hb3.mono hbw.size)⟩
  refine (HC2.out S _ _ _ G2.out (E2.out.below hbw) (by omega) (by omega)).mono ?_
  rw [sub_pos (by omega)]
  rintro e w3 ⟨rfl, hb3⟩
  obtain ⟨hc3, hf3⟩ := bcell hb3
  have hz3 : w.heap.size < w3.heap.size := (by have := hb3.size; (try simp at this); omega)
  replace hbw := hbw.trans (hb3.mono hbw.size)
  go_wp2_with fail
  by_cases q3 : (((left - (((r0.length + bulkRows r0) : Nat) : Int)) - (((r1.length + bulkRows r1) : Nat) : Int)) - (((r2.length + bulkRows r2) : Nat) : Int)) < ((r3.length + bulkRows r3) : Nat)
  · refine (HC3.out S _ _ _ G3.out (E3.out.below hbw) (by omega) (by omega)).mono ?_
    rw [sub_neg (by omega)]
    rintro e w4 ⟨rfl, hb4⟩
    go_wp2
    go_ret
    exact ⟨ret_int (a := -1) (sub_neg (by have := HB.out; omega)).symm, hbw.trans (hb4.mono hbw.size)⟩
  refine (HC3.out S _ _ _ G3.out (E3.out.below hbw) (by omega) (by omega)).mono ?_
  rw [sub_pos (by omega)]
  rintro e w4 ⟨rfl, hb4⟩
  obtain ⟨hc4, hf4⟩ := bcell hb4
  have hz4 : w.heap.size < w4.heap.size := (by have := hb4.size; (try simp at this); omega)
  replace hbw := hbw.trans (hb4.mono hbw.size)
  go_wp2
  go_ret
  exact ⟨ret_int (by have := HB.out; rw [sub_pos (by omega)]; omega), hbw⟩

set_option maxHeartbeats 1000000 in
theorem eqOccurrence_of (row : List C) : eqOccurrenceC row := by
  intro S S' us us' w hok hv hv'
  obtain ⟨r0, r1, r2, r3, rfl, g0, g1, g2, g3⟩ := okRow_Occurrence hok
  obtain ⟨v0, v1, v2, v3, rfl, e0, e1, e2, e3⟩ := repVals_Occurrence hv
  obtain ⟨x0, x1, x2, x3, rfl, d0, d1, d2, d3⟩ := repVals_Occurrence hv'
  have HC0 := Lib.hid (eqIntS_any r0)
  have HC1 := Lib.hid (eqTermS_any r1)
  have HC2 := Lib.hid (eqTermS_any r2)
  have HC3 := Lib.hid (eqBindingS_any r3)
  have G0 := Lib.hid g0
  have G1 := Lib.hid g1
  have G2 := Lib.hid g2
  have G3 := Lib.hid g3
  clear g0 g1 g2 g3 hok
  have E0 := Lib.hid e0
  have D0 := Lib.hid d0
  have E1 := Lib.hid e1
  have D1 := Lib.hid d1
  have E2 := Lib.hid e2
  have D2 := Lib.hid d2
  have E3 := Lib.hid e3
  have D3 := Lib.hid d3
  clear hv hv' e0 d0 e1 d1 e2 d2 e3 d3
  have hbw := ((Below.refl w.heap.size w).alloc (Nat.le_refl _) (.cells #[v0, v1, v2, v3] 57)).alloc (by simp) (.cells #[x0, x1, x2, x3] 57)
  go_enter Try.func25, Try.ntmps25
  go_wp2_with fail
  refine (HC0.out S S' _ _ _ G0.out (E0.out.below hbw) (D0.out.below hbw)).mono ?_
  rintro e w1 ⟨rfl, hb1⟩
  obtain ⟨hc1, hf1⟩ := bcell hb1
  have hz1 : w.heap.size + 1 < w1.heap.size := (by have := hb1.size; (try simp at this); omega)
  have ha1 : w.heap.size < w1.heap.size := by omega
  replace hbw := hbw.trans (hb1.mono hbw.size)
  go_wp2_with fail
  refine (HC1.out S S' _ _ _ G1.out (E1.out.below hbw) (D1.out.below hbw)).mono ?_
  rintro e w2 ⟨rfl, hb2⟩
  obtain ⟨hc2, hf2⟩ := bcell hb2
  have hz2 : w.heap.size + 1 < w2.heap.size := (by have := hb2.size; (try simp at this); omega)
  have ha2 : w.heap.size < w2.heap.size := by omega
  replace hbw := hbw.trans (hb2.mono hbw.size)
  go_wp2_with fail
  refine (HC2.out S S' _ _ _ G2.out (E2.out.below hbw) (D2.out.below hbw)).mono ?_
  rintro e w3 ⟨rfl, hb3⟩
  obtain ⟨hc3, hf3⟩ := bcell hb3
  have hz3 : w.heap.size + 1 < w3.heap.size := (by have := hb3.size; (try simp at this); omega)
  have ha3 : w.heap.size < w3.heap.size := by omega
  replace hbw := hbw.trans (hb3.mono hbw.size)
  go_wp2_with fail
  refine (HC3.out S S' _ _ _ G3.out (E3.out.below hbw) (D3.out.below hbw)).mono ?_
  rintro e w4 ⟨rfl, hb4⟩
  obtain ⟨hc4, hf4⟩ := bcell hb4
  have hz4 : w.heap.size + 1 < w4.heap.size := (by have := hb4.size; (try simp at this); omega)
  have ha4 : w.heap.size < w4.heap.size := by omega
  replace hbw := hbw.trans (hb4.mono hbw.size)
  go_wp2
  go_ret
  exact ⟨rfl, hbw⟩

set_option maxHeartbeats 2000000 in
theorem toOccurrence_of (row : List C) : toOccurrenceC row := by
  intro S us w hok hv hlen
  obtain ⟨r0, r1, r2, r3, rfl, g0, g1, g2, g3⟩ := okRow_Occurrence hok
  obtain ⟨v0, v1, v2, v3, rfl, e0, e1, e2, e3⟩ := repVals_Occurrence hv
  have HC0 := Lib.hid (toIntS_any r0)
  have HC1 := Lib.hid (toTermS_any r1)
  have HC2 := Lib.hid (toTermS_any r2)
  have HC3 := Lib.hid (toBindingS_any r3)
  have G0 := Lib.hid g0
  have G1 := Lib.hid g1
  have G2 := Lib.hid g2
  have G3 := Lib.hid g3
  clear g0 g1 g2 g3 hok
  have E0 := Lib.hid e0
  have E1 := Lib.hid e1
  have E2 := Lib.hid e2
  have E3 := Lib.hid e3
  clear hv e0 e1 e2 e3
  have hl0 : (r0.length + bulkRows r0) ≤ 1048576 := by
    have e : (r0.length + bulkRows r0) ≤ bulkRow [.sl r0, .sl r1, .sl r2, .sl r3] := by simp only [bulkRow, bulkC]; omega
    exact Nat.le_trans e hlen
  have hl1 : (r1.length + bulkRows r1) ≤ 1048576 := by
    have e : (r1.length + bulkRows r1) ≤ bulkRow [.sl r0, .sl r1, .sl r2, .sl r3] := by simp only [bulkRow, bulkC]; omega
    exact Nat.le_trans e hlen
  have hl2 : (r2.length + bulkRows r2) ≤ 1048576 := by
    have e : (r2.length + bulkRows r2) ≤ bulkRow [.sl r0, .sl r1, .sl r2, .sl r3] := by simp only [bulkRow, bulkC]; omega
    exact Nat.le_trans e hlen
  have hl3 : (r3.length + bulkRows r3) ≤ 1048576 := by
    have e : (r3.length + bulkRows r3) ≤ bulkRow [.sl r0, .sl r1, .sl r2, .sl r3] := by simp only [bulkRow, bulkC]; omega
    exact Nat.le_trans e hlen
  clear hlen
  go_enter Try.func23, Try.ntmps23
  go_wp2_with fail
  refine (HC0.out S _ _ G0.out (by exact E0.out.below (by repeat (first | refine Below.alloc ?_ (by simp; try omega) _ | exact Below.refl _ _))) hl0).mono ?_
  rintro e w1 ⟨y0, rfl, hown0, hb1⟩
  obtain ⟨A0, n0, cap0, rfl, _, _, _⟩ := (Own.rep _ _ _ hown0).form
  have hz1 := hb1.size
  simp at hz1 hown0
  have HOWN0 := Lib.hid hown0
  clear hown0
  have hbw1 : Below w.heap.size w w1 := Below.trans (by repeat (first | refine Below.alloc ?_ (by simp; try omega) _ | exact Below.refl _ _)) (hb1.mono (by simp; try omega))
  obtain ⟨hc1, hf1⟩ := bcell hb1
  have ha1 : w.heap.size < w1.heap.size := by omega
  have hbb1 : w.heap.size + 1 < w1.heap.size := by omega
  have hcc1 : w.heap.size + 1 + 1 < w1.heap.size := by omega
  go_wp2_with fail
  refine (HC1.out S _ _ G1.out (by exact E1.out.below (by repeat (first | refine Below.setCell ?_ (by simp; try omega) _ | exact hbw1))) hl1).mono ?_
  rintro e w2 ⟨y1, rfl, hown1, hb2⟩
  obtain ⟨A1, n1, cap1, rfl, _, _, _⟩ := (Own.rep _ _ _ hown1).form
  have hz2 := hb2.size
  simp at hz2 hown1
  have HOWN1 := Lib.hid hown1
  clear hown1
  have hbw2 : Below w.heap.size w w2 := Below.trans (by repeat (first | refine Below.setCell ?_ (by simp; try omega) _ | exact hbw1)) (hb2.mono (by simp; try omega))
  obtain ⟨hc2, hf2⟩ := bcell hb2
  have ha2 : w.heap.size < w2.heap.size := by omega
  have hbb2 : w.heap.size + 1 < w2.heap.size := by omega
  have hcc2 : w.heap.size + 1 + 1 < w2.heap.size := by omega
  go_wp2_with fail
  refine (HC2.out S _ _ G2.out (by exact E2.out.below (by repeat (first | refine Below.setCell ?_ (by simp; try omega) _ | exact hbw2))) hl2).mono ?_
  rintro e w3 ⟨y2, rfl, hown2, hb3⟩
  obtain ⟨A2, n2, cap2, rfl, _, _, _⟩ := (Own.rep _ _ _ hown2).form
  have hz3 := hb3.size
  simp at hz3 hown2
  have HOWN2 := Lib.hid hown2
  clear hown2
  have hbw3 : Below w.heap.size w w3 := Below.trans (by repeat (first | refine Below.setCell ?_ (by simp; try omega) _ | exact hbw2)) (hb3.mono (by simp; try omega))
  obtain ⟨hc3, hf3⟩ := bcell hb3
  have ha3 : w.heap.size < w3.heap.size := by omega
  have hbb3 : w.heap.size + 1 < w3.heap.size := by omega
  have hcc3 : w.heap.size + 1 + 1 < w3.heap.size := by omega
  go_wp2_with fail
  refine (HC3.out S _ _ G3.out (by exact E3.out.below (by repeat (first | refine Below.setCell ?_ (by simp; try omega) _ | exact hbw3))) hl3).mono ?_
  rintro e w4 ⟨y3, rfl, hown3, hb4⟩
  obtain ⟨A3, n3, cap3, rfl, _, _, _⟩ := (Own.rep _ _ _ hown3).form
  have hz4 := hb4.size
  simp at hz4 hown3
  have HOWN3 := Lib.hid hown3
  clear hown3
  have hbw4 : Below w.heap.size w w4 := Below.trans (by repeat (first | refine Below.setCell ?_ (by simp; try omega) _ | exact hbw3)) (hb4.mono (by simp; try omega))
  obtain ⟨hc4, hf4⟩ := bcell hb4
  have ha4 : w.heap.size < w4.heap.size := by omega
  have hbb4 : w.heap.size + 1 < w4.heap.size := by omega
  have hcc4 : w.heap.size + 1 + 1 < w4.heap.size := by omega
  go_wp2
  refine bodyPost_ret (v := .agg #[.slice A0 n0 cap0, .slice A1 n1 cap1, .slice A2 n2 cap2, .slice A3 n3 cap3]) (by simp [results, Try.results23, go_sem, hc1, ha1, hbb1, hcc1, hc2, ha2, hbb2, hcc2, hc3, ha3, hbb3, hcc3, hc4, ha4, hbb4, hcc4]) rfl ⟨[.slice A0 n0 cap0, .slice A1 n1 cap1, .slice A2 n2 cap2, .slice A3 n3 cap3], rfl, ?_, (by repeat (first | refine Below.setCell ?_ (by simp; try omega) _ | exact hbw4))⟩
  simp
  exact (OwnVals.cons (fun x => w.heap.size + 1 + 1 + 1 ≤ x ∧ x < w1.heap.size) (fun x => w1.heap.size ≤ x ∧ x < w4.heap.size) (HOWN0.out.same (by repeat (first | refine Same.trans ?_ (Same.setCell _ _ _ _ (by simp; try omega)) | refine Same.trans ?_ ((Same.below hb2).mono (fun x hx => by simp at hx ⊢; omega)) | refine Same.trans ?_ ((Same.below hb3).mono (fun x hx => by simp at hx ⊢; omega)) | refine Same.trans ?_ ((Same.below hb4).mono (fun x hx => by simp at hx ⊢; omega)) | exact Same.refl _ _))) (OwnVals.cons (fun x => w1.heap.size ≤ x ∧ x < w2.heap.size) (fun x => w2.heap.size ≤ x ∧ x < w4.heap.size) (HOWN1.out.same (by repeat (first | refine Same.trans ?_ (Same.setCell _ _ _ _ (by simp; try omega)) | refine Same.trans ?_ ((Same.below hb3).mono (fun x hx => by simp at hx ⊢; omega)) | refine Same.trans ?_ ((Same.below hb4).mono (fun x hx => by simp at hx ⊢; omega)) | exact Same.refl _ _))) (OwnVals.cons (fun x => w2.heap.size ≤ x ∧ x < w3.heap.size) (fun x => w3.heap.size ≤ x ∧ x < w4.heap.size) (HOWN2.out.same (by repeat (first | refine Same.trans ?_ (Same.setCell _ _ _ _ (by simp; try omega)) | refine Same.trans ?_ ((Same.below hb4).mono (fun x hx => by simp at hx ⊢; omega)) | exact Same.refl _ _))) (OwnVals.cons (fun x => w3.heap.size ≤ x ∧ x < w4.heap.size) (fun x => w4.heap.size ≤ x ∧ x < w4.heap.size) (HOWN3.out.same (by repeat (first | refine Same.trans ?_ (Same.setCell _ _ _ _ (by simp; try omega)) | exact Same.refl _ _))) OwnVals.nil (fun x hx => ⟨by omega, by omega⟩) (fun x hx => ⟨by omega, by omega⟩) (fun x hx hy => by omega)) (fun x hx => ⟨by omega, by omega⟩) (fun x hx => ⟨by omega, by omega⟩) (fun x hx hy => by omega)) (fun x hx => ⟨by omega, by omega⟩) (fun x hx => ⟨by omega, by omega⟩) (fun x hx hy => by omega)) (fun x hx => ⟨by omega, by omega⟩) (fun x hx => ⟨by omega, by omega⟩) (fun x hx hy => by omega))
theorem szOccurrence_any (row : List C) : szOccurrenceC row := szOccurrence_of row
theorem eqOccurrence_any (row : List C) : eqOccurrenceC row := eqOccurrence_of row
theorem toOccurrence_any (row : List C) : toOccurrenceC row := toOccurrence_of row
end Go.Proofs.Ytiglacjigkcgkaa
