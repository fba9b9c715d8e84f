/-
  The laws' own functions at the type Algebra: what they count, copy and compare (contracts, walked).
-/
import Derived.Test.YtlhbdhdaecchoaaRows
import Derived.Test.YtlhbdhdaecchoaaBase
import Derived.Test.YtlhbdhdaecchoaaLInts
import Derived.Deep.RegionHeld3
set_option linter.unusedSimpArgs false
set_option linter.unusedVariables false
namespace Go.Proofs.Ytlhbdhdaecchoaa
open Go.RowKit
theorem okRow_Algebra {r : List C} (h : okRow (algF) r) : ∃ (i0 : Int) (r1 : List (List C)), r = [.lit (.int .i64 i0), .sl r1] ∧ I64 i0 ∧ okRows (fieldsOf .ints) r1 := by
  obtain ⟨c0, c1, rfl⟩ := len2 h.len
  simp only [fieldsOf, termF, occF, sortsF, sigF, moduleF, algF, List.cons_append, List.nil_append, okRow, and_true] at h
  obtain ⟨h0, h1⟩ := h
  obtain ⟨i0, rfl, g0⟩ := okC_int h0
  obtain ⟨r1, rfl, g1⟩ := okC_sl h1
  exact ⟨i0, r1, rfl, g0, g1⟩
theorem mkRow_Algebra {i0 : Int} {r1 : List (List C)} (g0 : I64 i0) (g1 : okRows (fieldsOf .ints) r1) : okRow (algF) [.lit (.int .i64 i0), .sl r1] := by
  simp only [fieldsOf, termF, occF, sortsF, sigF, moduleF, algF, List.cons_append, List.nil_append, okRow, and_true]
  exact ⟨mk_int g0, mk_sl g1⟩
theorem repVals_Algebra {w : World} {S : Nat → Prop} {i0 : Int} {r1 : List (List C)} {us : List Value} (h : RepVals w S [.lit (.int .i64 i0), .sl r1] us) : ∃ v1, us = [.int .i64 i0, v1] ∧ Rep w S (.sl r1) v1 := by
  obtain ⟨u0, u1, rfl⟩ := len2 h.len
  simp only [RepVals, Rep.lit_iff, and_true] at h
  obtain ⟨rfl, e1⟩ := h
  exact ⟨u1, rfl, e1⟩
theorem mkVals_Algebra {w : World} {S : Nat → Prop} {i0 : Int} {r1 : List (List C)} {v1 : Value} (e1 : Rep w S (.sl r1) v1) : RepVals w S [.lit (.int .i64 i0), .sl r1] [.int .i64 i0, v1] := by
  simp only [RepVals, Rep.lit_iff, and_true, true_and]
  exact e1
def szAlgebraC (row : List C) : Prop := ∀ (S : Nat → Prop) (us : List Value) (left : Int) (w : World), okRow (algF) row → RepVals w S row us → 0 ≤ left → left ≤ 1048576 →
  Calls Try.prog 7 #[.agg us.toArray, .int .i64 left] w fun e w' => e = .returned (.int .i64 (sub left (bulkRow row))) ∧ Below w.heap.size w w'
def eqAlgebraC (row : List C) : Prop := ∀ (S S' : Nat → Prop) (us us' : List Value) (w : World), okRow (algF) row → RepVals w S row us → RepVals w S' row us' →
  Calls Try.prog 13 #[.agg us.toArray, .agg us'.toArray] w fun e w' => e = .returned (.bool true) ∧ Below w.heap.size w w'
def toAlgebraC (row : List C) : Prop := ∀ (S : Nat → Prop) (us : List Value) (w : World), okRow (algF) row → RepVals w S row us → bulkRow row ≤ 1048576 →
  Calls Try.prog 10 #[.agg us.toArray] w fun e w' => ∃ us' : List Value, e = .returned (.agg us'.toArray) ∧ OwnVals w' row (fun x => w.heap.size ≤ x ∧ x < w'.heap.size) us' ∧ Below w.heap.size w w'

set_option maxHeartbeats 1000000 in
theorem szAlgebra_of (row : List C) : szAlgebraC row := by
  intro S us left w hok hv h0 h1
  obtain ⟨i0, r1, rfl, g0, g1⟩ := okRow_Algebra hok
  obtain ⟨v1, rfl, e1⟩ := repVals_Algebra hv
  have HC1 := Lib.hid (szIntsS_any r1)
  have HB := Lib.hid (show bulkRow [.lit (.int .i64 i0), .sl r1] = (r1.length + bulkRows r1) from by simp only [bulkRow, bulkC]; omega)
  have G0 := Lib.hid g0
  have G1 := Lib.hid g1
  clear g0 g1 hok
  have E1 := Lib.hid e1
  clear hv e1
  generalize hrow : bulkRow [.lit (.int .i64 i0), .sl r1] = total at HB ⊢
  clear hrow
  have hbw := (Below.refl w.heap.size w).alloc (Nat.le_refl _) (.cells #[.int .i64 i0, v1] 31)
  go_enter Try.func7, Try.ntmps7
  go_wp2_with fail
  by_cases q1 : left < ((r1.length + bulkRows r1) : Nat)
  · refine (HC1.out S _ _ _ G1.out (E1.out.below hbw) (by omega) (by omega)).mono ?_
    rw [sub_neg (by omega)]
    rintro e w1 ⟨rfl, hb1⟩
    go_wp2
    go_ret
    exact ⟨ret_int (a := -1) (sub_neg (by have := HB.out; omega)).symm, hbw.trans (hb1.mono hbw.size)⟩
  refine (HC1.out S _ _ _ G1.out (E1.out.below hbw) (by omega) (by omega)).mono ?_
  rw [sub_pos (by omega)]
  rintro e w1 ⟨rfl, hb1⟩
  obtain ⟨hc1, hf1⟩ := bcell hb1
  have hz1 : w.heap.size < w1.heap.size := (by have := hb1.size; (try simp at this); omega)
  replace hbw := hbw.trans (hb1.mono hbw.size)
  go_wp2
  go_ret
  exact ⟨ret_int (by have := HB.out; rw [sub_pos (by omega)]; omega), hbw⟩

set_option maxHeartbeats 1000000 in
theorem eqAlgebra_of (row : List C) : eqAlgebraC row := by
  intro S S' us us' w hok hv hv'
  obtain ⟨i0, r1, rfl, g0, g1⟩ := okRow_Algebra hok
  obtain ⟨v1, rfl, e1⟩ := repVals_Algebra hv
  obtain ⟨x1, rfl, d1⟩ := repVals_Algebra hv'
  have HC1 := Lib.hid (eqIntsS_any r1)
  have G0 := Lib.hid g0
  have G1 := Lib.hid g1
  clear g0 g1 hok
  have E1 := Lib.hid e1
  have D1 := Lib.hid d1
  clear hv hv' e1 d1
  have hbw := ((Below.refl w.heap.size w).alloc (Nat.le_refl _) (.cells #[.int .i64 i0, v1] 42)).alloc (by simp) (.cells #[.int .i64 i0, x1] 42)
  go_enter Try.func13, Try.ntmps13
  go_wp2_with fail
  refine (HC1.out S S' _ _ _ G1.out (E1.out.below hbw) (D1.out.below hbw)).mono ?_
  rintro e w1 ⟨rfl, hb1⟩
  obtain ⟨hc1, hf1⟩ := bcell hb1
  have hz1 : w.heap.size + 1 < w1.heap.size := (by have := hb1.size; (try simp at this); omega)
  have ha1 : w.heap.size < w1.heap.size := by omega
  replace hbw := hbw.trans (hb1.mono hbw.size)
  go_wp2
  go_ret
  exact ⟨rfl, hbw⟩

set_option maxHeartbeats 2000000 in
theorem toAlgebra_of (row : List C) : toAlgebraC row := by
  intro S us w hok hv hlen
  obtain ⟨i0, r1, rfl, g0, g1⟩ := okRow_Algebra hok
  obtain ⟨v1, rfl, e1⟩ := repVals_Algebra hv
  have HC1 := Lib.hid (toIntsS_any r1)
  have G0 := Lib.hid g0
  have G1 := Lib.hid g1
  clear g0 g1 hok
  have E1 := Lib.hid e1
  clear hv e1
  have hl1 : (r1.length + bulkRows r1) ≤ 1048576 := by
    have e : (r1.length + bulkRows r1) ≤ bulkRow [.lit (.int .i64 i0), .sl r1] := by simp only [bulkRow, bulkC]; omega
    exact Nat.le_trans e hlen
  clear hlen
  go_enter Try.func10, Try.ntmps10
  go_wp2_with fail
  refine (HC1.out S _ _ G1.out (by exact E1.out.below (by repeat (first | refine Below.alloc ?_ (by simp; try omega) _ | exact Below.refl _ _))) hl1).mono ?_
  rintro e w1 ⟨y1, rfl, hown1, hb1⟩
  obtain ⟨A1, n1, cap1, rfl, _, _, _⟩ := (Own.rep _ _ _ hown1).form
  have hz1 := hb1.size
  simp at hz1 hown1
  have HOWN1 := Lib.hid hown1
  clear hown1
  have hbw1 : Below w.heap.size w w1 := Below.trans (by repeat (first | refine Below.alloc ?_ (by simp; try omega) _ | exact Below.refl _ _)) (hb1.mono (by simp; try omega))
  obtain ⟨hc1, hf1⟩ := bcell hb1
  have ha1 : w.heap.size < w1.heap.size := by omega
  have hbb1 : w.heap.size + 1 < w1.heap.size := by omega
  have hcc1 : w.heap.size + 1 + 1 < w1.heap.size := by omega
  go_wp2
  refine bodyPost_ret (v := .agg #[.int .i64 i0, .slice A1 n1 cap1]) (by simp [results, Try.results10, go_sem, hc1, ha1, hbb1, hcc1]) rfl ⟨[.int .i64 i0, .slice A1 n1 cap1], rfl, ?_, (by repeat (first | refine Below.setCell ?_ (by simp; try omega) _ | exact hbw1))⟩
  simp
  exact (OwnVals.lit (OwnVals.cons (fun x => w.heap.size + 1 + 1 + 1 ≤ x ∧ x < w1.heap.size) (fun x => w1.heap.size ≤ x ∧ x < w1.heap.size) (HOWN1.out.same (by repeat (first | refine Same.trans ?_ (Same.setCell _ _ _ _ (by simp; try omega)) | exact Same.refl _ _))) OwnVals.nil (fun x hx => ⟨by omega, by omega⟩) (fun x hx => ⟨by omega, by omega⟩) (fun x hx hy => by omega)))
theorem szAlgebra_any (row : List C) : szAlgebraC row := szAlgebra_of row
theorem eqAlgebra_any (row : List C) : eqAlgebraC row := eqAlgebra_of row
theorem toAlgebra_any (row : List C) : toAlgebraC row := toAlgebra_of row
end Go.Proofs.Ytlhbdhdaecchoaa
