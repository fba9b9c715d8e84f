/-
  The laws' own functions at the type Sorts: what they count, copy and compare (contracts, walked).
-/
import Derived.Test.YtlhbdhdaecchoaaRows
import Derived.Test.YtlhbdhdaecchoaaBase
import Derived.Test.YtlhbdhdaecchoaaLString
import Derived.Test.YtlhbdhdaecchoaaLSub
import Derived.Deep.RegionHeld3
set_option linter.unusedSimpArgs false
set_option linter.unusedVariables false
namespace Go.Proofs.Ytlhbdhdaecchoaa
open Go.RowKit
theorem okRow_Sorts {r : List C} (h : okRow (sortsF) r) : ∃ (r0 : List (List C)) (r1 : List (List C)), r = [.sl r0, .sl r1] ∧ okRows (fieldsOf .str) r0 ∧ okRows (fieldsOf .sub) r1 := by
  obtain ⟨c0, c1, rfl⟩ := len2 h.len
  simp only [fieldsOf, termF, occF, sortsF, sigF, moduleF, algF, List.cons_append, List.nil_append, okRow, and_true] at h
  obtain ⟨h0, h1⟩ := h
  obtain ⟨r0, rfl, g0⟩ := okC_sl h0
  obtain ⟨r1, rfl, g1⟩ := okC_sl h1
  exact ⟨r0, r1, rfl, g0, g1⟩
theorem mkRow_Sorts {r0 : List (List C)} {r1 : List (List C)} (g0 : okRows (fieldsOf .str) r0) (g1 : okRows (fieldsOf .sub) r1) : okRow (sortsF) [.sl r0, .sl r1] := by
  simp only [fieldsOf, termF, occF, sortsF, sigF, moduleF, algF, List.cons_append, List.nil_append, okRow, and_true]
  exact ⟨mk_sl g0, mk_sl g1⟩
theorem repVals_Sorts {w : World} {S : Nat → Prop} {r0 : List (List C)} {r1 : List (List C)} {us : List Value} (h : RepVals w S [.sl r0, .sl r1] us) : ∃ v0 v1, us = [v0, v1] ∧ Rep w S (.sl r0) v0 ∧ Rep w S (.sl r1) v1 := by
  obtain ⟨u0, u1, rfl⟩ := len2 h.len
  simp only [RepVals, Rep.lit_iff, and_true] at h
  obtain ⟨e0, e1⟩ := h
  exact ⟨u0, u1, rfl, e0, e1⟩
theorem mkVals_Sorts {w : World} {S : Nat → Prop} {r0 : List (List C)} {r1 : List (List C)} {v0 : Value} {v1 : Value} (e0 : Rep w S (.sl r0) v0) (e1 : Rep w S (.sl r1) v1) : RepVals w S [.sl r0, .sl r1] [v0, v1] := by
  simp only [RepVals, Rep.lit_iff, and_true, true_and]
  exact ⟨e0, e1⟩
def szSortsC (row : List C) : Prop := ∀ (S : Nat → Prop) (us : List Value) (left : Int) (w : World), okRow (sortsF) row → RepVals w S row us → 0 ≤ left → left ≤ 1048576 →
  Calls Try.prog 21 #[.agg us.toArray, .int .i64 left] w fun e w' => e = .returned (.int .i64 (sub left (bulkRow row))) ∧ Below w.heap.size w w'
def eqSortsC (row : List C) : Prop := ∀ (S S' : Nat → Prop) (us us' : List Value) (w : World), okRow (sortsF) row → RepVals w S row us → RepVals w S' row us' →
  Calls Try.prog 32 #[.agg us.toArray, .agg us'.toArray] w fun e w' => e = .returned (.bool true) ∧ Below w.heap.size w w'
def toSortsC (row : List C) : Prop := ∀ (S : Nat → Prop) (us : List Value) (w : World), okRow (sortsF) row → RepVals w S row us → bulkRow row ≤ 1048576 →
  Calls Try.prog 28 #[.agg us.toArray] w fun e w' => ∃ us' : List Value, e = .returned (.agg us'.toArray) ∧ OwnVals w' row (fun x => w.heap.size ≤ x ∧ x < w'.heap.size) us' ∧ Below w.heap.size w w'

set_option maxHeartbeats 1000000 in
theorem szSorts_of (row : List C) : szSortsC row := by
  intro S us left w hok hv h0 h1
  obtain ⟨r0, r1, rfl, g0, g1⟩ := okRow_Sorts hok
  obtain ⟨v0, v1, rfl, e0, e1⟩ := repVals_Sorts hv
  have HC0 := Lib.hid (szStringS_any r0)
  have HC1 := Lib.hid (szSubS_any r1)
  have HB := Lib.hid (show bulkRow [.sl r0, .sl r1] = (r0.length + bulkRows r0) + (r1.length + bulkRows r1) from by simp only [bulkRow, bulkC]; omega)
  have G0 := Lib.hid g0
  have G1 := Lib.hid g1
  clear g0 g1 hok
  have E0 := Lib.hid e0
  have E1 := Lib.hid e1
  clear hv e0 e1
  generalize hrow : bulkRow [.sl r0, .sl r1] = total at HB ⊢
  clear hrow
  have hbw := (Below.refl w.heap.size w).alloc (Nat.le_refl _) (.cells #[v0, v1] 25)
  go_enter Try.func21, Try.ntmps21
  go_wp2_with fail
  by_cases q0 : left < ((r0.length + bulkRows r0) : Nat)
  · refine (HC0.out S _ _ _ G0.out (E0.out.below hbw) (by omega) (by omega)).mono ?_
    rw [sub_neg (by omega)]
    rintro e w1 ⟨rfl, hb1⟩
    go_wp2
    go_ret
    exact ⟨ret_int (a := -1) (sub_neg (by have := HB.out; omega)).symm, hbw.trans (hb1.mono hbw.size)⟩
  refine (HC0.out S _ _ _ G0.out (E0.out.below hbw) (by omega) (by omega)).mono ?_
  rw [sub_pos (by omega)]
  rintro e w1 ⟨rfl, hb1⟩
  obtain ⟨hc1, hf1⟩ := bcell hb1
  have hz1 : w.heap.size < w1.heap.size := (by have := hb1.size; (try simp at this); omega)
  replace hbw := hbw.trans (hb1.mono hbw.size)
  go_wp2_with fail
  by_cases q1 : (left - (((r0.length + bulkRows r0) : Nat) : Int)) < ((r1.length + bulkRows r1) : Nat)
  · refine (HC1.out S _ _ _ G1.out (E1.out.below hbw) (by omega) (by omega)).mono ?_
    rw [sub_neg (by omega)]
    rintro e w2 ⟨rfl, hb2⟩
    go_wp2
    go_ret
    exact ⟨ret_int (a := -1) (sub_neg (by have := HB.out; omega)).symm, hbw.trans (hb2.mono hbw.size)⟩
  refine (HC1.out S _ _ _ G1.out (E1.out.below hbw) (by omega) (by omega)).mono ?_
  rw [sub_pos (by omega)]
  rintro e w2 ⟨rfl, hb2⟩
  obtain ⟨hc2, hf2⟩ := bcell hb2
  have hz2 : w.heap.size < w2.heap.size := (by have := hb2.size; (try simp at this); omega)
  replace hbw := hbw.trans (hb2.mono hbw.size)
  go_wp2
  go_ret
  exact ⟨ret_int (by have := HB.out; rw [sub_pos (by omega)]; omega), hbw⟩

set_option maxHeartbeats 1000000 in
theorem eqSorts_of (row : List C) : eqSortsC row := by
  intro S S' us us' w hok hv hv'
  obtain ⟨r0, r1, rfl, g0, g1⟩ := okRow_Sorts hok
  obtain ⟨v0, v1, rfl, e0, e1⟩ := repVals_Sorts hv
  obtain ⟨x0, x1, rfl, d0, d1⟩ := repVals_Sorts hv'
  have HC0 := Lib.hid (eqStringS_any r0)
  have HC1 := Lib.hid (eqSubS_any r1)
  have G0 := Lib.hid g0
  have G1 := Lib.hid g1
  clear g0 g1 hok
  have E0 := Lib.hid e0
  have D0 := Lib.hid d0
  have E1 := Lib.hid e1
  have D1 := Lib.hid d1
  clear hv hv' e0 d0 e1 d1
  have hbw := ((Below.refl w.heap.size w).alloc (Nat.le_refl _) (.cells #[v0, v1] 37)).alloc (by simp) (.cells #[x0, x1] 37)
  go_enter Try.func32, Try.ntmps32
  go_wp2_with fail
  refine (HC0.out S S' _ _ _ G0.out (E0.out.below hbw) (D0.out.below hbw)).mono ?_
  rintro e w1 ⟨rfl, hb1⟩
  obtain ⟨hc1, hf1⟩ := bcell hb1
  have hz1 : w.heap.size + 1 < w1.heap.size := (by have := hb1.size; (try simp at this); omega)
  have ha1 : w.heap.size < w1.heap.size := by omega
  replace hbw := hbw.trans (hb1.mono hbw.size)
  go_wp2_with fail
  refine (HC1.out S S' _ _ _ G1.out (E1.out.below hbw) (D1.out.below hbw)).mono ?_
  rintro e w2 ⟨rfl, hb2⟩
  obtain ⟨hc2, hf2⟩ := bcell hb2
  have hz2 : w.heap.size + 1 < w2.heap.size := (by have := hb2.size; (try simp at this); omega)
  have ha2 : w.heap.size < w2.heap.size := by omega
  replace hbw := hbw.trans (hb2.mono hbw.size)
  go_wp2
  go_ret
  exact ⟨rfl, hbw⟩

set_option maxHeartbeats 2000000 in
theorem toSorts_of (row : List C) : toSortsC row := by
  intro S us w hok hv hlen
  obtain ⟨r0, r1, rfl, g0, g1⟩ := okRow_Sorts hok
  obtain ⟨v0, v1, rfl, e0, e1⟩ := repVals_Sorts hv
  have HC0 := Lib.hid (toStringS_any r0)
  have HC1 := Lib.hid (toSubS_any r1)
  have G0 := Lib.hid g0
  have G1 := Lib.hid g1
  clear g0 g1 hok
  have E0 := Lib.hid e0
  have E1 := Lib.hid e1
  clear hv e0 e1
  have hl0 : (r0.length + bulkRows r0) ≤ 1048576 := by
    have e : (r0.length + bulkRows r0) ≤ bulkRow [.sl r0, .sl r1] := by simp only [bulkRow, bulkC]; omega
    exact Nat.le_trans e hlen
  have hl1 : (r1.length + bulkRows r1) ≤ 1048576 := by
    have e : (r1.length + bulkRows r1) ≤ bulkRow [.sl r0, .sl r1] := by simp only [bulkRow, bulkC]; omega
    exact Nat.le_trans e hlen
  clear hlen
  go_enter Try.func28, Try.ntmps28
  go_wp2_with fail
  refine (HC0.out S _ _ G0.out (by exact E0.out.below (by repeat (first | refine Below.alloc ?_ (by simp; try omega) _ | exact Below.refl _ _))) hl0).mono ?_
  rintro e w1 ⟨y0, rfl, hown0, hb1⟩
  obtain ⟨A0, n0, cap0, rfl, _, _, _⟩ := (Own.rep _ _ _ hown0).form
  have hz1 := hb1.size
  simp at hz1 hown0
  have HOWN0 := Lib.hid hown0
  clear hown0
  have hbw1 : Below w.heap.size w w1 := Below.trans (by repeat (first | refine Below.alloc ?_ (by simp; try omega) _ | exact Below.refl _ _)) (hb1.mono (by simp; try omega))
  obtain ⟨hc1, hf1⟩ := bcell hb1
  have ha1 : w.heap.size < w1.heap.size := by omega
  have hbb1 : w.heap.size + 1 < w1.heap.size := by omega
  have hcc1 : w.heap.size + 1 + 1 < w1.heap.size := by omega
  go_wp2_with fail
  refine (HC1.out S _ _ G1.out (by exact E1.out.below (by repeat (first | refine Below.setCell ?_ (by simp; try omega) _ | exact hbw1))) hl1).mono ?_
  rintro e w2 ⟨y1, rfl, hown1, hb2⟩
  obtain ⟨A1, n1, cap1, rfl, _, _, _⟩ := (Own.rep _ _ _ hown1).form
  have hz2 := hb2.size
  simp at hz2 hown1
  have HOWN1 := Lib.hid hown1
  clear hown1
  have hbw2 : Below w.heap.size w w2 := Below.trans (by repeat (first | refine Below.setCell ?_ (by simp; try omega) _ | exact hbw1)) (hb2.mono (by simp; try omega))
  obtain ⟨hc2, hf2⟩ := bcell hb2
  have ha2 : w.heap.size < w2.heap.size := by omega
  have hbb2 : w.heap.size + 1 < w2.heap.size := by omega
  have hcc2 : w.heap.size + 1 + 1 < w2.heap.size := by omega
  go_wp2
  refine bodyPost_ret (v := .agg #[.slice A0 n0 cap0, .slice A1 n1 cap1]) (by simp [results, Try.results28, go_sem, hc1, ha1, hbb1, hcc1, hc2, ha2, hbb2, hcc2]) rfl ⟨[.slice A0 n0 cap0, .slice A1 n1 cap1], rfl, ?_, (by repeat (first | refine Below.setCell ?_ (by simp; try omega) _ | exact hbw2))⟩
  simp
  exact (OwnVals.cons (fun x => w.heap.size + 1 + 1 + 1 ≤ x ∧ x < w1.heap.size) (fun x => w1.heap.size ≤ x ∧ x < w2.heap.size) (HOWN0.out.same (by repeat (first | refine Same.trans ?_ (Same.setCell _ _ _ _ (by simp; try omega)) | refine Same.trans ?_ ((Same.below hb2).mono (fun x hx => by simp at hx ⊢; omega)) | exact Same.refl _ _))) (OwnVals.cons (fun x => w1.heap.size ≤ x ∧ x < w2.heap.size) (fun x => w2.heap.size ≤ x ∧ x < w2.heap.size) (HOWN1.out.same (by repeat (first | refine Same.trans ?_ (Same.setCell _ _ _ _ (by simp; try omega)) | exact Same.refl _ _))) OwnVals.nil (fun x hx => ⟨by omega, by omega⟩) (fun x hx => ⟨by omega, by omega⟩) (fun x hx hy => by omega)) (fun x hx => ⟨by omega, by omega⟩) (fun x hx => ⟨by omega, by omega⟩) (fun x hx hy => by omega))
theorem szSorts_any (row : List C) : szSortsC row := szSorts_of row
theorem eqSorts_any (row : List C) : eqSortsC row := eqSorts_of row
theorem toSorts_any (row : List C) : toSortsC row := toSorts_of row
end Go.Proofs.Ytlhbdhdaecchoaa
