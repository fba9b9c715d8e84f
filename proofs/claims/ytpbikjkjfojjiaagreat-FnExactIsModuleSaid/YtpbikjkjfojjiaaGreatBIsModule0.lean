/-
  Part 0 of a proof: LModule, QcModule.
-/
import Derived.Test.YtpbikjkjfojjiaaGreatBIsEquation0
import Derived.Test.YtpbikjkjfojjiaaGreatBIsEquation1
import Derived.Test.YtpbikjkjfojjiaaGreatBIsEquation2
import Derived.Test.YtpbikjkjfojjiaaGreatBIsEquation3
import Derived.Test.YtpbikjkjfojjiaaGreatBIsEquation4
import Derived.Test.YtpbikjkjfojjiaaGreatRows
import Derived.Deep.RegionHeld3
set_option linter.unusedSimpArgs false
set_option linter.unusedVariables false
namespace Go.Proofs.YtpbikjkjfojjiaaGreat
open Go.RowKit
theorem okRow_Module {r : List C} (h : okRow (moduleF) r) : ∃ (r0 : List (List C)) (r1 : List (List C)) (r2 : List (List C)) (r3 : List (List C)) (r4 : List (List C)), r = [.sl r0, .sl r1, .sl r2, .sl r3, .sl r4] ∧ okRows (fieldsOf .str) r0 ∧ okRows (fieldsOf .sub) r1 ∧ okRows (fieldsOf .op) r2 ∧ okRows (fieldsOf .eqn) r3 ∧ okRows (fieldsOf .eqn) r4 := by
  obtain ⟨c0, c1, c2, c3, c4, rfl⟩ := len5 h.len
  simp only [fieldsOf, termF, occF, sortsF, sigF, moduleF, algF, List.cons_append, List.nil_append, okRow, and_true] at h
  obtain ⟨h0, h1, h2, h3, h4⟩ := h
  obtain ⟨r0, rfl, g0⟩ := okC_sl h0
  obtain ⟨r1, rfl, g1⟩ := okC_sl h1
  obtain ⟨r2, rfl, g2⟩ := okC_sl h2
  obtain ⟨r3, rfl, g3⟩ := okC_sl h3
  obtain ⟨r4, rfl, g4⟩ := okC_sl h4
  exact ⟨r0, r1, r2, r3, r4, rfl, g0, g1, g2, g3, g4⟩
theorem mkRow_Module {r0 : List (List C)} {r1 : List (List C)} {r2 : List (List C)} {r3 : List (List C)} {r4 : List (List C)} (g0 : okRows (fieldsOf .str) r0) (g1 : okRows (fieldsOf .sub) r1) (g2 : okRows (fieldsOf .op) r2) (g3 : okRows (fieldsOf .eqn) r3) (g4 : okRows (fieldsOf .eqn) r4) : okRow (moduleF) [.sl r0, .sl r1, .sl r2, .sl r3, .sl r4] := by
  simp only [fieldsOf, termF, occF, sortsF, sigF, moduleF, algF, List.cons_append, List.nil_append, okRow, and_true]
  exact ⟨mk_sl g0, mk_sl g1, mk_sl g2, mk_sl g3, mk_sl g4⟩
theorem repVals_Module {w : World} {S : Nat → Prop} {r0 : List (List C)} {r1 : List (List C)} {r2 : List (List C)} {r3 : List (List C)} {r4 : List (List C)} {us : List Value} (h : RepVals w S [.sl r0, .sl r1, .sl r2, .sl r3, .sl r4] us) : ∃ v0 v1 v2 v3 v4, us = [v0, v1, v2, v3, v4] ∧ Rep w S (.sl r0) v0 ∧ Rep w S (.sl r1) v1 ∧ Rep w S (.sl r2) v2 ∧ Rep w S (.sl r3) v3 ∧ Rep w S (.sl r4) v4 := by
  obtain ⟨u0, u1, u2, u3, u4, rfl⟩ := len5 h.len
  simp only [RepVals, Rep.lit_iff, and_true] at h
  obtain ⟨e0, e1, e2, e3, e4⟩ := h
  exact ⟨u0, u1, u2, u3, u4, rfl, e0, e1, e2, e3, e4⟩
theorem mkVals_Module {w : World} {S : Nat → Prop} {r0 : List (List C)} {r1 : List (List C)} {r2 : List (List C)} {r3 : List (List C)} {r4 : List (List C)} {v0 : Value} {v1 : Value} {v2 : Value} {v3 : Value} {v4 : Value} (e0 : Rep w S (.sl r0) v0) (e1 : Rep w S (.sl r1) v1) (e2 : Rep w S (.sl r2) v2) (e3 : Rep w S (.sl r3) v3) (e4 : Rep w S (.sl r4) v4) : RepVals w S [.sl r0, .sl r1, .sl r2, .sl r3, .sl r4] [v0, v1, v2, v3, v4] := by
  simp only [RepVals, Rep.lit_iff, and_true, true_and]
  exact ⟨e0, e1, e2, e3, e4⟩
def szModuleC (row : List C) : Prop := ∀ (S : Nat → Prop) (us : List Value) (left : Int) (w : World), okRow (moduleF) row → RepVals w S row us → 0 ≤ left → left ≤ 1048576 →
  Calls Tryz.prog 17 #[.agg us.toArray, .int .i64 left] w fun e w' => e = .returned (.int .i64 (sub left (bulkRow row))) ∧ Below w.heap.size w w'
def eqModuleC (row : List C) : Prop := ∀ (S S' : Nat → Prop) (us us' : List Value) (w : World), okRow (moduleF) row → RepVals w S row us → RepVals w S' row us' →
  Calls Tryz.prog 21 #[.agg us.toArray, .agg us'.toArray] w fun e w' => e = .returned (.bool true) ∧ Below w.heap.size w w'
def toModuleC (row : List C) : Prop := ∀ (S : Nat → Prop) (us : List Value) (w : World), okRow (moduleF) row → RepVals w S row us → bulkRow row ≤ 1048576 →
  Calls Tryz.prog 19 #[.agg us.toArray] w fun e w' => ∃ us' : List Value, e = .returned (.agg us'.toArray) ∧ OwnVals w' row (fun x => w.heap.size ≤ x ∧ x < w'.heap.size) us' ∧ Below w.heap.size w w'

set_option maxHeartbeats 1000000 in
theorem szModule_of (row : List C) : szModuleC row := by
  intro S us left w hok hv h0 h1
  obtain ⟨r0, r1, r2, r3, r4, rfl, g0, g1, g2, g3, g4⟩ := okRow_Module hok
  obtain ⟨v0, v1, v2, v3, v4, rfl, e0, e1, e2, e3, e4⟩ := repVals_Module hv
  have HC0 := Lib.hid (szSignature_any [.sl r0, .sl r1, .sl r2])
  have HC3 := Lib.hid (szEquationS_any r3)
  have HC4 := Lib.hid (szEquationS_any r4)
  have HB := Lib.hid (show bulkRow [.sl r0, .sl r1, .sl r2, .sl r3, .sl r4] = (bulkRow [.sl r0, .sl r1, .sl r2]) + (r3.length + bulkRows r3) + (r4.length + bulkRows r4) from by simp only [bulkRow, bulkC]; omega)
  have G0 := Lib.hid g0
  have G1 := Lib.hid g1
  have G2 := Lib.hid g2
  have G3 := Lib.hid g3
  have G4 := Lib.hid g4
  clear g0 g1 g2 g3 g4 hok
  have E0 := Lib.hid e0
  have E1 := Lib.hid e1
  have E2 := Lib.hid e2
  have E3 := Lib.hid e3
  have E4 := Lib.hid e4
  clear hv e0 e1 e2 e3 e4
  generalize hrow : bulkRow [.sl r0, .sl r1, .sl r2, .sl r3, .sl r4] = total at HB ⊢
  clear hrow
  have hbw := (Below.refl w.heap.size w).alloc (Nat.le_refl _) (.cells #[v0, v1, v2, v3, v4] 57)
  go_enter Tryz.func17, Tryz.ntmps17
  go_wp2_with fail
  by_cases q0 : left < ((bulkRow [.sl r0, .sl r1, .sl r2]) : Nat)
  · refine (HC0.out S _ _ _ (mkRow_Signature G0.out G1.out G2.out) (mkVals_Signature (E0.out.below hbw) (E1.out.below hbw) (E2.out.below hbw)) (by omega) (by omega)).mono ?_
    rw [sub_neg (by omega)]
    rintro e w1 ⟨rfl, hb1⟩
    go_wp2
    go_ret
    exact ⟨ret_int (a := -1) (sub_neg (by have := HB.out; omega)).symm, hbw.trans (hb1.mono hbw.size)⟩
  refine (HC0.out S _ _ _ (mkRow_Signature G0.out G1.out G2.out) (mkVals_Signature (E0.out.below hbw) (E1.out.below hbw) (E2.out.below hbw)) (by omega) (by omega)).mono ?_
  rw [sub_pos (by omega)]
  rintro e w1 ⟨rfl, hb1⟩
  obtain ⟨hc1, hf1⟩ := bcell hb1
  have hz1 : w.heap.size < w1.heap.size := (by have := hb1.size; (try simp at this); omega)
  replace hbw := hbw.trans (hb1.mono hbw.size)
  go_wp2_with fail
  by_cases q3 : (left - (((bulkRow [.sl r0, .sl r1, .sl r2]) : Nat) : Int)) < ((r3.length + bulkRows r3) : Nat)
  · refine (HC3.out S _ _ _ G3.out (E3.out.below hbw) (by omega) (by omega)).mono ?_
    rw [sub_neg (by omega)]
    rintro e w2 ⟨rfl, hb2⟩
    go_wp2
    go_ret
    exact ⟨ret_int (a := -1) (sub_neg (by have := HB.out; omega)).symm, hbw.trans (hb2.mono hbw.size)⟩
  refine (HC3.out S _ _ _ G3.out (E3.out.below hbw) (by omega) (by omega)).mono ?_
  rw [sub_pos (by omega)]
  rintro e w2 ⟨rfl, hb2⟩
  obtain ⟨hc2, hf2⟩ := bcell hb2
  have hz2 : w.heap.size < w2.heap.size := (by have := hb2.size; (try simp at this); omega)
  replace hbw := hbw.trans (hb2.mono hbw.size)
  go_wp2_with fail
  by_cases q4 : ((left - (((bulkRow [.sl r0, .sl r1, .sl r2]) : Nat) : Int)) - (((r3.length + bulkRows r3) : Nat) : Int)) < ((r4.length + bulkRows r4) : Nat)
  · refine (HC4.out S _ _ _ G4.out (E4.out.below hbw) (by omega) (by omega)).mono ?_
    rw [sub_neg (by omega)]
    rintro e w3 ⟨rfl, hb3⟩
    go_wp2
    go_ret
    exact ⟨ret_int (a := -1) (sub_neg (by have := HB.out; omega)).symm, hbw.trans (hb3.mono hbw.size)⟩
  refine (HC4.out S _ _ _ G4.out (E4.out.below hbw) (by omega) (by omega)).mono ?_
  rw [sub_pos (by omega)]
  rintro e w3 ⟨rfl, hb3⟩
  obtain ⟨hc3, hf3⟩ := bcell hb3
  have hz3 : w.heap.size < w3.heap.size := (by have := hb3.size; (try simp at this); omega)
  replace hbw := hbw.trans (hb3.mono hbw.size)
  go_wp2
  go_ret
  exact ⟨ret_int (by have := HB.out; rw [sub_pos (by omega)]; omega), hbw⟩

set_option maxHeartbeats 1000000 in
theorem eqModule_of (row : List C) : eqModuleC row := by
  intro S S' us us' w hok hv hv'
  obtain ⟨r0, r1, r2, r3, r4, rfl, g0, g1, g2, g3, g4⟩ := okRow_Module hok
  obtain ⟨v0, v1, v2, v3, v4, rfl, e0, e1, e2, e3, e4⟩ := repVals_Module hv
  obtain ⟨x0, x1, x2, x3, x4, rfl, d0, d1, d2, d3, d4⟩ := repVals_Module hv'
  have HC0 := Lib.hid (eqSignature_any [.sl r0, .sl r1, .sl r2])
  have HC3 := Lib.hid (eqEquationS_any r3)
  have HC4 := Lib.hid (eqEquationS_any r4)
  have G0 := Lib.hid g0
  have G1 := Lib.hid g1
  have G2 := Lib.hid g2
  have G3 := Lib.hid g3
  have G4 := Lib.hid g4
  clear g0 g1 g2 g3 g4 hok
  have E0 := Lib.hid e0
  have D0 := Lib.hid d0
  have E1 := Lib.hid e1
  have D1 := Lib.hid d1
  have E2 := Lib.hid e2
  have D2 := Lib.hid d2
  have E3 := Lib.hid e3
  have D3 := Lib.hid d3
  have E4 := Lib.hid e4
  have D4 := Lib.hid d4
  clear hv hv' e0 d0 e1 d1 e2 d2 e3 d3 e4 d4
  have hbw := ((Below.refl w.heap.size w).alloc (Nat.le_refl _) (.cells #[v0, v1, v2, v3, v4] 62)).alloc (by simp) (.cells #[x0, x1, x2, x3, x4] 62)
  go_enter Tryz.func21, Tryz.ntmps21
  go_wp2_with fail
  refine (HC0.out S S' _ _ _ (mkRow_Signature G0.out G1.out G2.out) (mkVals_Signature (E0.out.below hbw) (E1.out.below hbw) (E2.out.below hbw)) (mkVals_Signature (D0.out.below hbw) (D1.out.below hbw) (D2.out.below hbw))).mono ?_
  rintro e w1 ⟨rfl, hb1⟩
  obtain ⟨hc1, hf1⟩ := bcell hb1
  have hz1 : w.heap.size + 1 < w1.heap.size := (by have := hb1.size; (try simp at this); omega)
  have ha1 : w.heap.size < w1.heap.size := by omega
  replace hbw := hbw.trans (hb1.mono hbw.size)
  go_wp2_with fail
  refine (HC3.out S S' _ _ _ G3.out (E3.out.below hbw) (D3.out.below hbw)).mono ?_
  rintro e w2 ⟨rfl, hb2⟩
  obtain ⟨hc2, hf2⟩ := bcell hb2
  have hz2 : w.heap.size + 1 < w2.heap.size := (by have := hb2.size; (try simp at this); omega)
  have ha2 : w.heap.size < w2.heap.size := by omega
  replace hbw := hbw.trans (hb2.mono hbw.size)
  go_wp2_with fail
  refine (HC4.out S S' _ _ _ G4.out (E4.out.below hbw) (D4.out.below hbw)).mono ?_
  rintro e w3 ⟨rfl, hb3⟩
  obtain ⟨hc3, hf3⟩ := bcell hb3
  have hz3 : w.heap.size + 1 < w3.heap.size := (by have := hb3.size; (try simp at this); omega)
  have ha3 : w.heap.size < w3.heap.size := by omega
  replace hbw := hbw.trans (hb3.mono hbw.size)
  go_wp2
  go_ret
  exact ⟨rfl, hbw⟩

set_option maxHeartbeats 2000000 in
theorem toModule_of (row : List C) : toModuleC row := by
  intro S us w hok hv hlen
  obtain ⟨r0, r1, r2, r3, r4, rfl, g0, g1, g2, g3, g4⟩ := okRow_Module hok
  obtain ⟨v0, v1, v2, v3, v4, rfl, e0, e1, e2, e3, e4⟩ := repVals_Module hv
  have HC0 := Lib.hid (toSignature_any [.sl r0, .sl r1, .sl r2])
  have HC3 := Lib.hid (toEquationS_any r3)
  have HC4 := Lib.hid (toEquationS_any r4)
  have G0 := Lib.hid g0
  have G1 := Lib.hid g1
  have G2 := Lib.hid g2
  have G3 := Lib.hid g3
  have G4 := Lib.hid g4
  clear g0 g1 g2 g3 g4 hok
  have E0 := Lib.hid e0
  have E1 := Lib.hid e1
  have E2 := Lib.hid e2
  have E3 := Lib.hid e3
  have E4 := Lib.hid e4
  clear hv e0 e1 e2 e3 e4
  have hl0 : (bulkRow [.sl r0, .sl r1, .sl r2]) ≤ 1048576 := by
    have e : (bulkRow [.sl r0, .sl r1, .sl r2]) ≤ bulkRow [.sl r0, .sl r1, .sl r2, .sl r3, .sl r4] := by simp only [bulkRow, bulkC]; omega
    exact Nat.le_trans e hlen
  have hl3 : (r3.length + bulkRows r3) ≤ 1048576 := by
    have e : (r3.length + bulkRows r3) ≤ bulkRow [.sl r0, .sl r1, .sl r2, .sl r3, .sl r4] := by simp only [bulkRow, bulkC]; omega
    exact Nat.le_trans e hlen
  have hl4 : (r4.length + bulkRows r4) ≤ 1048576 := by
    have e : (r4.length + bulkRows r4) ≤ bulkRow [.sl r0, .sl r1, .sl r2, .sl r3, .sl r4] := by simp only [bulkRow, bulkC]; omega
    exact Nat.le_trans e hlen
  clear hlen
  go_enter Tryz.func19, Tryz.ntmps19
  go_wp2_with fail
  refine (HC0.out S _ _ (mkRow_Signature G0.out G1.out G2.out) (by exact mkVals_Signature (E0.out.below (by repeat (first | refine Below.alloc ?_ (by simp; try omega) _ | exact Below.refl _ _))) (E1.out.below (by repeat (first | refine Below.alloc ?_ (by simp; try omega) _ | exact Below.refl _ _))) (E2.out.below (by repeat (first | refine Below.alloc ?_ (by simp; try omega) _ | exact Below.refl _ _)))) hl0).mono ?_
  rintro e w1 ⟨ys0, rfl, hown0, hb1⟩
  obtain ⟨y0, y1, y2, rfl, f0, f1, f2⟩ := repVals_Signature (OwnVals.rep _ _ (fun _ => True) _ (fun _ _ => trivial) hown0)
  obtain ⟨A0, n0, cap0, rfl, _, _, _⟩ := f0.form
  clear f0
  obtain ⟨A1, n1, cap1, rfl, _, _, _⟩ := f1.form
  clear f1
  obtain ⟨A2, n2, cap2, rfl, _, _, _⟩ := f2.form
  clear f2
  have hz1 := hb1.size
  simp at hz1 hown0
  have HOWN0 := Lib.hid hown0
  clear hown0
  have hbw1 : Below w.heap.size w w1 := Below.trans (by repeat (first | refine Below.alloc ?_ (by simp; try omega) _ | exact Below.refl _ _)) (hb1.mono (by simp; try omega))
  obtain ⟨hc1, hf1⟩ := bcell hb1
  have ha1 : w.heap.size < w1.heap.size := by omega
  have hbb1 : w.heap.size + 1 < w1.heap.size := by omega
  have hcc1 : w.heap.size + 1 + 1 < w1.heap.size := by omega
  go_wp2_with fail
  refine (HC3.out S _ _ G3.out (by exact E3.out.below (by repeat (first | refine Below.setCell ?_ (by simp; try omega) _ | exact hbw1))) hl3).mono ?_
  rintro e w2 ⟨y3, rfl, hown3, hb2⟩
  obtain ⟨A3, n3, cap3, rfl, _, _, _⟩ := (Own.rep _ _ _ hown3).form
  have hz2 := hb2.size
  simp at hz2 hown3
  have HOWN3 := Lib.hid hown3
  clear hown3
  have hbw2 : Below w.heap.size w w2 := Below.trans (by repeat (first | refine Below.setCell ?_ (by simp; try omega) _ | exact hbw1)) (hb2.mono (by simp; try omega))
  obtain ⟨hc2, hf2⟩ := bcell hb2
  have ha2 : w.heap.size < w2.heap.size := by omega
  have hbb2 : w.heap.size + 1 < w2.heap.size := by omega
  have hcc2 : w.heap.size + 1 + 1 < w2.heap.size := by omega
  go_wp2_with fail
  refine (HC4.out S _ _ G4.out (by exact E4.out.below (by repeat (first | refine Below.setCell ?_ (by simp; try omega) _ | exact hbw2))) hl4).mono ?_
  rintro e w3 ⟨y4, rfl, hown4, hb3⟩
  obtain ⟨A4, n4, cap4, rfl, _, _, _⟩ := (Own.rep _ _ _ hown4).form
  have hz3 := hb3.size
  simp at hz3 hown4
  have HOWN4 := Lib.hid hown4
  clear hown4
  have hbw3 : Below w.heap.size w w3 := Below.trans (by repeat (first | refine Below.setCell ?_ (by simp; try omega) _ | exact hbw2)) (hb3.mono (by simp; try omega))
  obtain ⟨hc3, hf3⟩ := bcell hb3
  have ha3 : w.heap.size < w3.heap.size := by omega
  have hbb3 : w.heap.size + 1 < w3.heap.size := by omega
  have hcc3 : w.heap.size + 1 + 1 < w3.heap.size := by omega
  go_wp2
  refine bodyPost_ret (v := .agg #[.slice A0 n0 cap0, .slice A1 n1 cap1, .slice A2 n2 cap2, .slice A3 n3 cap3, .slice A4 n4 cap4]) (by simp [results, Tryz.results19, go_sem, hc1, ha1, hbb1, hcc1, hc2, ha2, hbb2, hcc2, hc3, ha3, hbb3, hcc3]) rfl ⟨[.slice A0 n0 cap0, .slice A1 n1 cap1, .slice A2 n2 cap2, .slice A3 n3 cap3, .slice A4 n4 cap4], rfl, ?_, (by repeat (first | refine Below.setCell ?_ (by simp; try omega) _ | exact hbw3))⟩
  simp
  exact (OwnVals.append (cs := [.sl r0, .sl r1, .sl r2]) (ds := [.sl r3, .sl r4]) (us := [.slice A0 n0 cap0, .slice A1 n1 cap1, .slice A2 n2 cap2]) (vs := [.slice A3 n3 cap3, .slice A4 n4 cap4]) (fun x => w.heap.size + 1 + 1 + 1 ≤ x ∧ x < w1.heap.size) (fun x => w1.heap.size ≤ x ∧ x < w3.heap.size) (HOWN0.out.same (by repeat (first | refine Same.trans ?_ (Same.setCell _ _ _ _ (by simp; try omega)) | refine Same.trans ?_ ((Same.below hb2).mono (fun x hx => by simp at hx ⊢; omega)) | refine Same.trans ?_ ((Same.below hb3).mono (fun x hx => by simp at hx ⊢; omega)) | exact Same.refl _ _))) (OwnVals.cons (fun x => w1.heap.size ≤ x ∧ x < w2.heap.size) (fun x => w2.heap.size ≤ x ∧ x < w3.heap.size) (HOWN3.out.same (by repeat (first | refine Same.trans ?_ (Same.setCell _ _ _ _ (by simp; try omega)) | refine Same.trans ?_ ((Same.below hb3).mono (fun x hx => by simp at hx ⊢; omega)) | exact Same.refl _ _))) (OwnVals.cons (fun x => w2.heap.size ≤ x ∧ x < w3.heap.size) (fun x => w3.heap.size ≤ x ∧ x < w3.heap.size) (HOWN4.out.same (by repeat (first | refine Same.trans ?_ (Same.setCell _ _ _ _ (by simp; try omega)) | exact Same.refl _ _))) OwnVals.nil (fun x hx => ⟨by omega, by omega⟩) (fun x hx => ⟨by omega, by omega⟩) (fun x hx hy => by omega)) (fun x hx => ⟨by omega, by omega⟩) (fun x hx => ⟨by omega, by omega⟩) (fun x hx hy => by omega)) (fun x hx => ⟨by omega, by omega⟩) (fun x hx => ⟨by omega, by omega⟩) (fun x hx hy => by omega))
theorem szModule_any (row : List C) : szModuleC row := szModule_of row
theorem eqModule_any (row : List C) : eqModuleC row := eqModule_of row
theorem toModule_any (row : List C) : toModuleC row := toModule_of row
end Go.Proofs.YtpbikjkjfojjiaaGreat

namespace Go.Proofs.YtpbikjkjfojjiaaGreat
open Go.RowKit

theorem con_szModule {row : List C} (hok : okRow (moduleF) row) {left : Int} (h0 : 0 ≤ left) (h1 : left ≤ 1048576) : Con e0 17 [.agg row, .one (.lit (.int .i64 left))] [.one (.lit (.int .i64 (sub left (bulkRow row))))] := by
  refine con_below e0_ok (by kernel_rfl) fun w S vs h => ?_
  match vs, h with
  | [v, u], h =>
    obtain ⟨⟨us, rfl, hu⟩, h2, _⟩ := h
    have h2 : u = .int .i64 left := by simpa [DRel, Rep] using h2
    subst h2
    exact (szModule_any row S us left w hok hu h0 h1).mono fun e w' ⟨h1, h2⟩ => ⟨_, h1, h2, by simp [retA, ARel, DRel, Rep]⟩
theorem con_toModule {row : List C} (hok : okRow (moduleF) row) (hb : bulkRow row ≤ 1048576) : Con e0 19 [.agg row] [.agg row] := by
  refine con_below e0_ok (by kernel_rfl) fun w S vs h => ?_
  match vs, h with
  | [v], h =>
    obtain ⟨⟨us, rfl, hu⟩, _⟩ := h
    exact (toModule_any row S us w hok hu hb).mono fun e w' ⟨us', h1, h2, h3⟩ => ⟨_, h1, h3, us', rfl, OwnVals.rep row _ _ us' (fun x hx => .inr hx) h2⟩
theorem con_eqModule {row : List C} (hok : okRow (moduleF) row) : Con e0 21 [.agg row, .agg row] [.one (.lit (.bool true))] := by
  refine con_below e0_ok (by kernel_rfl) fun w S vs h => ?_
  match vs, h with
  | [v, u], h =>
    obtain ⟨⟨us, rfl, hu⟩, ⟨us', rfl, hu'⟩, _⟩ := h
    exact (eqModule_any row S S us us' w hok hu hu').mono fun e w' ⟨h1, h2⟩ => ⟨_, h1, h2, by simp [retA, ARel, DRel, Rep]⟩
end Go.Proofs.YtpbikjkjfojjiaaGreat

