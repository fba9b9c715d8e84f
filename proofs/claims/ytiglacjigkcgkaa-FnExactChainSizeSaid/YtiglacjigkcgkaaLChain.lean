/-
  The laws' own functions at the type Link and Chain: what they count, copy and compare (contracts, walked).
-/
import Derived.Test.YtiglacjigkcgkaaRows
import Derived.Test.YtiglacjigkcgkaaBase
import Derived.Test.YtiglacjigkcgkaaLOccurrence
import Derived.Deep.RegionHeld3
set_option linter.unusedSimpArgs false
set_option linter.unusedVariables false
namespace Go.Proofs.Ytiglacjigkcgkaa
open Go.RowKit
theorem okRow_Link {r : List C} (h : okRow (fieldsOf .link) r) : ∃ (i0 : Int) (r1 : List (List C)) (r2 : List (List C)) (r3 : List (List C)) (r4 : List (List C)) (r5 : List (List C)), r = [.lit (.int .i64 i0), .sl r1, .sl r2, .sl r3, .sl r4, .sl r5] ∧ I64 i0 ∧ okRows (fieldsOf .int) r1 ∧ okRows (fieldsOf .term) r2 ∧ okRows (fieldsOf .term) r3 ∧ okRows (fieldsOf .binding) r4 ∧ okRows (fieldsOf .chain) r5 := by
  obtain ⟨c0, c1, c2, c3, c4, c5, rfl⟩ := len6 h.len
  simp only [fieldsOf, termF, occF, sortsF, sigF, moduleF, algF, List.cons_append, List.nil_append, okRow, and_true] at h
  obtain ⟨h0, h1, h2, h3, h4, h5⟩ := h
  obtain ⟨i0, rfl, g0⟩ := okC_int h0
  obtain ⟨r1, rfl, g1⟩ := okC_sl h1
  obtain ⟨r2, rfl, g2⟩ := okC_sl h2
  obtain ⟨r3, rfl, g3⟩ := okC_sl h3
  obtain ⟨r4, rfl, g4⟩ := okC_sl h4
  obtain ⟨r5, rfl, g5⟩ := okC_sl h5
  exact ⟨i0, r1, r2, r3, r4, r5, rfl, g0, g1, g2, g3, g4, g5⟩
theorem mkRow_Link {i0 : Int} {r1 : List (List C)} {r2 : List (List C)} {r3 : List (List C)} {r4 : List (List C)} {r5 : List (List C)} (g0 : I64 i0) (g1 : okRows (fieldsOf .int) r1) (g2 : okRows (fieldsOf .term) r2) (g3 : okRows (fieldsOf .term) r3) (g4 : okRows (fieldsOf .binding) r4) (g5 : okRows (fieldsOf .chain) r5) : okRow (fieldsOf .link) [.lit (.int .i64 i0), .sl r1, .sl r2, .sl r3, .sl r4, .sl r5] := by
  simp only [fieldsOf, termF, occF, sortsF, sigF, moduleF, algF, List.cons_append, List.nil_append, okRow, and_true]
  exact ⟨mk_int g0, mk_sl g1, mk_sl g2, mk_sl g3, mk_sl g4, mk_sl g5⟩
theorem repVals_Link {w : World} {S : Nat → Prop} {i0 : Int} {r1 : List (List C)} {r2 : List (List C)} {r3 : List (List C)} {r4 : List (List C)} {r5 : List (List C)} {us : List Value} (h : RepVals w S [.lit (.int .i64 i0), .sl r1, .sl r2, .sl r3, .sl r4, .sl r5] us) : ∃ v1 v2 v3 v4 v5, us = [.int .i64 i0, v1, v2, v3, v4, v5] ∧ Rep w S (.sl r1) v1 ∧ Rep w S (.sl r2) v2 ∧ Rep w S (.sl r3) v3 ∧ Rep w S (.sl r4) v4 ∧ Rep w S (.sl r5) v5 := by
  obtain ⟨u0, u1, u2, u3, u4, u5, rfl⟩ := len6 h.len
  simp only [RepVals, Rep.lit_iff, and_true] at h
  obtain ⟨rfl, e1, e2, e3, e4, e5⟩ := h
  exact ⟨u1, u2, u3, u4, u5, rfl, e1, e2, e3, e4, e5⟩
theorem mkVals_Link {w : World} {S : Nat → Prop} {i0 : Int} {r1 : List (List C)} {r2 : List (List C)} {r3 : List (List C)} {r4 : List (List C)} {r5 : List (List C)} {v1 : Value} {v2 : Value} {v3 : Value} {v4 : Value} {v5 : Value} (e1 : Rep w S (.sl r1) v1) (e2 : Rep w S (.sl r2) v2) (e3 : Rep w S (.sl r3) v3) (e4 : Rep w S (.sl r4) v4) (e5 : Rep w S (.sl r5) v5) : RepVals w S [.lit (.int .i64 i0), .sl r1, .sl r2, .sl r3, .sl r4, .sl r5] [.int .i64 i0, v1, v2, v3, v4, v5] := by
  simp only [RepVals, Rep.lit_iff, and_true, true_and]
  exact ⟨e1, e2, e3, e4, e5⟩
def szLinkC (row : List C) : Prop := ∀ (S : Nat → Prop) (us : List Value) (left : Int) (w : World), okRow (fieldsOf .link) row → RepVals w S row us → 0 ≤ left → left ≤ 1048576 →
  Calls Try.prog 53 #[.agg us.toArray, .int .i64 left] w fun e w' => e = .returned (.int .i64 (sub left (bulkRow row))) ∧ Below w.heap.size w w'
def eqLinkC (row : List C) : Prop := ∀ (S S' : Nat → Prop) (us us' : List Value) (w : World), okRow (fieldsOf .link) row → RepVals w S row us → RepVals w S' row us' →
  Calls Try.prog 55 #[.agg us.toArray, .agg us'.toArray] w fun e w' => e = .returned (.bool true) ∧ Below w.heap.size w w'
def toLinkC (row : List C) : Prop := ∀ (S : Nat → Prop) (us : List Value) (w : World), okRow (fieldsOf .link) row → RepVals w S row us → bulkRow row ≤ 1048576 →
  Calls Try.prog 54 #[.agg us.toArray] w fun e w' => ∃ us' : List Value, e = .returned (.agg us'.toArray) ∧ OwnVals w' row (fun x => w.heap.size ≤ x ∧ x < w'.heap.size) us' ∧ Below w.heap.size w w'
def szLinkSC (rows : List (List C)) : Prop := ∀ (S : Nat → Prop) (v : Value) (left : Int) (w : World), okRows (fieldsOf .link) rows → Rep w S (.sl rows) v → 0 ≤ left → left ≤ 1048576 →
  Calls Try.prog 34 #[v, .int .i64 left] w fun e w' => e = .returned (.int .i64 (sub left (rows.length + bulkRows rows))) ∧ Below w.heap.size w w'
def eqLinkSC (rows : List (List C)) : Prop := ∀ (S S' : Nat → Prop) (v v' : Value) (w : World), okRows (fieldsOf .link) rows → Rep w S (.sl rows) v → Rep w S' (.sl rows) v' →
  Calls Try.prog 37 #[v, v'] w fun e w' => e = .returned (.bool true) ∧ Below w.heap.size w w'
def toLinkSC (rows : List (List C)) : Prop := ∀ (S : Nat → Prop) (v : Value) (w : World), okRows (fieldsOf .link) rows → Rep w S (.sl rows) v → rows.length + bulkRows rows ≤ 1048576 →
  Calls Try.prog 36 #[v] w fun e w' => ∃ v', e = .returned v' ∧ Own w' (.sl rows) (fun x => w.heap.size ≤ x ∧ x < w'.heap.size) v' ∧ Below w.heap.size w w'
theorem okRow_Chain {r : List C} (h : okRow (fieldsOf .chain) r) : ∃ (i0 : Int) (t1 : ByteArray) (i2 : Int) (r3 : List (List C)) (i4 : Int) (t5 : ByteArray) (i6 : Int) (r7 : List (List C)) (r8 : List (List C)), r = [.lit (.int .i64 i0), .lit (.string t1), .lit (.int .i64 i2), .sl r3, .lit (.int .i64 i4), .lit (.string t5), .lit (.int .i64 i6), .sl r7, .sl r8] ∧ I64 i0 ∧ t1.size ≤ maxLen ∧ I64 i2 ∧ okRows (fieldsOf .term) r3 ∧ I64 i4 ∧ t5.size ≤ maxLen ∧ I64 i6 ∧ okRows (fieldsOf .term) r7 ∧ okRows (fieldsOf .link) r8 := by
  obtain ⟨c0, c1, c2, c3, c4, c5, c6, c7, c8, rfl⟩ := len9 h.len
  simp only [fieldsOf, termF, occF, sortsF, sigF, moduleF, algF, List.cons_append, List.nil_append, okRow, and_true] at h
  obtain ⟨h0, h1, h2, h3, h4, h5, h6, h7, h8⟩ := h
  obtain ⟨i0, rfl, g0⟩ := okC_int h0
  obtain ⟨t1, rfl, g1⟩ := okC_str h1
  obtain ⟨i2, rfl, g2⟩ := okC_int h2
  obtain ⟨r3, rfl, g3⟩ := okC_sl h3
  obtain ⟨i4, rfl, g4⟩ := okC_int h4
  obtain ⟨t5, rfl, g5⟩ := okC_str h5
  obtain ⟨i6, rfl, g6⟩ := okC_int h6
  obtain ⟨r7, rfl, g7⟩ := okC_sl h7
  obtain ⟨r8, rfl, g8⟩ := okC_sl h8
  exact ⟨i0, t1, i2, r3, i4, t5, i6, r7, r8, rfl, g0, g1, g2, g3, g4, g5, g6, g7, g8⟩
theorem mkRow_Chain {i0 : Int} {t1 : ByteArray} {i2 : Int} {r3 : List (List C)} {i4 : Int} {t5 : ByteArray} {i6 : Int} {r7 : List (List C)} {r8 : List (List C)} (g0 : I64 i0) (g1 : t1.size ≤ maxLen) (g2 : I64 i2) (g3 : okRows (fieldsOf .term) r3) (g4 : I64 i4) (g5 : t5.size ≤ maxLen) (g6 : I64 i6) (g7 : okRows (fieldsOf .term) r7) (g8 : okRows (fieldsOf .link) r8) : okRow (fieldsOf .chain) [.lit (.int .i64 i0), .lit (.string t1), .lit (.int .i64 i2), .sl r3, .lit (.int .i64 i4), .lit (.string t5), .lit (.int .i64 i6), .sl r7, .sl r8] := by
  simp only [fieldsOf, termF, occF, sortsF, sigF, moduleF, algF, List.cons_append, List.nil_append, okRow, and_true]
  exact ⟨mk_int g0, mk_str g1, mk_int g2, mk_sl g3, mk_int g4, mk_str g5, mk_int g6, mk_sl g7, mk_sl g8⟩
theorem repVals_Chain {w : World} {S : Nat → Prop} {i0 : Int} {t1 : ByteArray} {i2 : Int} {r3 : List (List C)} {i4 : Int} {t5 : ByteArray} {i6 : Int} {r7 : List (List C)} {r8 : List (List C)} {us : List Value} (h : RepVals w S [.lit (.int .i64 i0), .lit (.string t1), .lit (.int .i64 i2), .sl r3, .lit (.int .i64 i4), .lit (.string t5), .lit (.int .i64 i6), .sl r7, .sl r8] us) : ∃ v3 v7 v8, us = [.int .i64 i0, .string t1, .int .i64 i2, v3, .int .i64 i4, .string t5, .int .i64 i6, v7, v8] ∧ Rep w S (.sl r3) v3 ∧ Rep w S (.sl r7) v7 ∧ Rep w S (.sl r8) v8 := by
  obtain ⟨u0, u1, u2, u3, u4, u5, u6, u7, u8, rfl⟩ := len9 h.len
  simp only [RepVals, Rep.lit_iff, and_true] at h
  obtain ⟨rfl, rfl, rfl, e3, rfl, rfl, rfl, e7, e8⟩ := h
  exact ⟨u3, u7, u8, rfl, e3, e7, e8⟩
theorem mkVals_Chain {w : World} {S : Nat → Prop} {i0 : Int} {t1 : ByteArray} {i2 : Int} {r3 : List (List C)} {i4 : Int} {t5 : ByteArray} {i6 : Int} {r7 : List (List C)} {r8 : List (List C)} {v3 : Value} {v7 : Value} {v8 : Value} (e3 : Rep w S (.sl r3) v3) (e7 : Rep w S (.sl r7) v7) (e8 : Rep w S (.sl r8) v8) : RepVals w S [.lit (.int .i64 i0), .lit (.string t1), .lit (.int .i64 i2), .sl r3, .lit (.int .i64 i4), .lit (.string t5), .lit (.int .i64 i6), .sl r7, .sl r8] [.int .i64 i0, .string t1, .int .i64 i2, v3, .int .i64 i4, .string t5, .int .i64 i6, v7, v8] := by
  simp only [RepVals, Rep.lit_iff, and_true, true_and]
  exact ⟨e3, e7, e8⟩
def szChainC (row : List C) : Prop := ∀ (S : Nat → Prop) (us : List Value) (left : Int) (w : World), okRow (fieldsOf .chain) row → RepVals w S row us → 0 ≤ left → left ≤ 1048576 →
  Calls Try.prog 16 #[.agg us.toArray, .int .i64 left] w fun e w' => e = .returned (.int .i64 (sub left (bulkRow row))) ∧ Below w.heap.size w w'
def eqChainC (row : List C) : Prop := ∀ (S S' : Nat → Prop) (us us' : List Value) (w : World), okRow (fieldsOf .chain) row → RepVals w S row us → RepVals w S' row us' →
  Calls Try.prog 20 #[.agg us.toArray, .agg us'.toArray] w fun e w' => e = .returned (.bool true) ∧ Below w.heap.size w w'
def toChainC (row : List C) : Prop := ∀ (S : Nat → Prop) (us : List Value) (w : World), okRow (fieldsOf .chain) row → RepVals w S row us → bulkRow row ≤ 1048576 →
  Calls Try.prog 18 #[.agg us.toArray] w fun e w' => ∃ us' : List Value, e = .returned (.agg us'.toArray) ∧ OwnVals w' row (fun x => w.heap.size ≤ x ∧ x < w'.heap.size) us' ∧ Below w.heap.size w w'
def szChainSC (rows : List (List C)) : Prop := ∀ (S : Nat → Prop) (v : Value) (left : Int) (w : World), okRows (fieldsOf .chain) rows → Rep w S (.sl rows) v → 0 ≤ left → left ≤ 1048576 →
  Calls Try.prog 64 #[v, .int .i64 left] w fun e w' => e = .returned (.int .i64 (sub left (rows.length + bulkRows rows))) ∧ Below w.heap.size w w'
def eqChainSC (rows : List (List C)) : Prop := ∀ (S S' : Nat → Prop) (v v' : Value) (w : World), okRows (fieldsOf .chain) rows → Rep w S (.sl rows) v → Rep w S' (.sl rows) v' →
  Calls Try.prog 66 #[v, v'] w fun e w' => e = .returned (.bool true) ∧ Below w.heap.size w w'
def toChainSC (rows : List (List C)) : Prop := ∀ (S : Nat → Prop) (v : Value) (w : World), okRows (fieldsOf .chain) rows → Rep w S (.sl rows) v → rows.length + bulkRows rows ≤ 1048576 →
  Calls Try.prog 65 #[v] w fun e w' => ∃ v', e = .returned v' ∧ Own w' (.sl rows) (fun x => w.heap.size ≤ x ∧ x < w'.heap.size) v' ∧ Below w.heap.size w w'

set_option maxHeartbeats 1000000 in
theorem szLink_of (row : List C) (h : ∀ (rows : List (List C)), nodesRows rows < nodesRow row → szChainSC rows) : szLinkC row := by
  intro S us left w hok hv h0 h1
  obtain ⟨i0, r1, r2, r3, r4, r5, rfl, g0, g1, g2, g3, g4, g5⟩ := okRow_Link hok
  obtain ⟨v1, v2, v3, v4, v5, rfl, e1, e2, e3, e4, e5⟩ := repVals_Link hv
  have HC1 := Lib.hid (szOccurrence_any [.sl r1, .sl r2, .sl r3, .sl r4])
  have HC5 := Lib.hid (h r5 (by simp [nodesRow, nodesC]; omega))
  clear h
  have HB := Lib.hid (show bulkRow [.lit (.int .i64 i0), .sl r1, .sl r2, .sl r3, .sl r4, .sl r5] = (bulkRow [.sl r1, .sl r2, .sl r3, .sl r4]) + (r5.length + bulkRows r5) from by simp only [bulkRow, bulkC]; omega)
  have G0 := Lib.hid g0
  have G1 := Lib.hid g1
  have G2 := Lib.hid g2
  have G3 := Lib.hid g3
  have G4 := Lib.hid g4
  have G5 := Lib.hid g5
  clear g0 g1 g2 g3 g4 g5 hok
  have E1 := Lib.hid e1
  have E2 := Lib.hid e2
  have E3 := Lib.hid e3
  have E4 := Lib.hid e4
  have E5 := Lib.hid e5
  clear hv e1 e2 e3 e4 e5
  generalize hrow : bulkRow [.lit (.int .i64 i0), .sl r1, .sl r2, .sl r3, .sl r4, .sl r5] = total at HB ⊢
  clear hrow
  have hbw := (Below.refl w.heap.size w).alloc (Nat.le_refl _) (.cells #[.int .i64 i0, v1, v2, v3, v4, v5] 87)
  go_enter Try.func53, Try.ntmps53
  go_wp2_with fail
  by_cases q1 : left < ((bulkRow [.sl r1, .sl r2, .sl r3, .sl r4]) : Nat)
  · refine (HC1.out S _ _ _ (mkRow_Occurrence G1.out G2.out G3.out G4.out) (mkVals_Occurrence (E1.out.below hbw) (E2.out.below hbw) (E3.out.below hbw) (E4.out.below hbw)) (by omega) (by omega)).mono ?_
    rw [sub_neg (by omega)]
    rintro e w1 ⟨rfl, hb1⟩
    go_wp2
    go_ret
    exact ⟨ret_int (a := -1) (sub_neg (by have := HB.out; omega)).symm, hbw.trans (hb1.mono hbw.size)⟩
  refine (HC1.out S _ _ _ (mkRow_Occurrence G1.out G2.out G3.out G4.out) (mkVals_Occurrence (E1.out.below hbw) (E2.out.below hbw) (E3.out.below hbw) (E4.out.below hbw)) (by omega) (by omega)).mono ?_
  rw [sub_pos (by omega)]
  rintro e w1 ⟨rfl, hb1⟩
  obtain ⟨hc1, hf1⟩ := bcell hb1
  have hz1 : w.heap.size < w1.heap.size := (by have := hb1.size; (try simp at this); omega)
  replace hbw := hbw.trans (hb1.mono hbw.size)
  go_wp2_with fail
  by_cases q5 : (left - (((bulkRow [.sl r1, .sl r2, .sl r3, .sl r4]) : Nat) : Int)) < ((r5.length + bulkRows r5) : Nat)
  · refine (HC5.out S _ _ _ G5.out (E5.out.below hbw) (by omega) (by omega)).mono ?_
    rw [sub_neg (by omega)]
    rintro e w2 ⟨rfl, hb2⟩
    go_wp2
    go_ret
    exact ⟨ret_int (a := -1) (sub_neg (by have := HB.out; omega)).symm, hbw.trans (hb2.mono hbw.size)⟩
  refine (HC5.out S _ _ _ G5.out (E5.out.below hbw) (by omega) (by omega)).mono ?_
  rw [sub_pos (by omega)]
  rintro e w2 ⟨rfl, hb2⟩
  obtain ⟨hc2, hf2⟩ := bcell hb2
  have hz2 : w.heap.size < w2.heap.size := (by have := hb2.size; (try simp at this); omega)
  replace hbw := hbw.trans (hb2.mono hbw.size)
  go_wp2
  go_ret
  exact ⟨ret_int (by have := HB.out; rw [sub_pos (by omega)]; omega), hbw⟩

set_option maxHeartbeats 1000000 in
theorem eqLink_of (row : List C) (h : ∀ (rows : List (List C)), nodesRows rows < nodesRow row → eqChainSC rows) : eqLinkC row := by
  intro S S' us us' w hok hv hv'
  obtain ⟨i0, r1, r2, r3, r4, r5, rfl, g0, g1, g2, g3, g4, g5⟩ := okRow_Link hok
  obtain ⟨v1, v2, v3, v4, v5, rfl, e1, e2, e3, e4, e5⟩ := repVals_Link hv
  obtain ⟨x1, x2, x3, x4, x5, rfl, d1, d2, d3, d4, d5⟩ := repVals_Link hv'
  have HC1 := Lib.hid (eqOccurrence_any [.sl r1, .sl r2, .sl r3, .sl r4])
  have HC5 := Lib.hid (h r5 (by simp [nodesRow, nodesC]; omega))
  clear h
  have G0 := Lib.hid g0
  have G1 := Lib.hid g1
  have G2 := Lib.hid g2
  have G3 := Lib.hid g3
  have G4 := Lib.hid g4
  have G5 := Lib.hid g5
  clear g0 g1 g2 g3 g4 g5 hok
  have E1 := Lib.hid e1
  have D1 := Lib.hid d1
  have E2 := Lib.hid e2
  have D2 := Lib.hid d2
  have E3 := Lib.hid e3
  have D3 := Lib.hid d3
  have E4 := Lib.hid e4
  have D4 := Lib.hid d4
  have E5 := Lib.hid e5
  have D5 := Lib.hid d5
  clear hv hv' e1 d1 e2 d2 e3 d3 e4 d4 e5 d5
  have hbw := ((Below.refl w.heap.size w).alloc (Nat.le_refl _) (.cells #[.int .i64 i0, v1, v2, v3, v4, v5] 70)).alloc (by simp) (.cells #[.int .i64 i0, x1, x2, x3, x4, x5] 70)
  go_enter Try.func55, Try.ntmps55
  go_wp2_with fail
  refine (HC1.out S S' _ _ _ (mkRow_Occurrence G1.out G2.out G3.out G4.out) (mkVals_Occurrence (E1.out.below hbw) (E2.out.below hbw) (E3.out.below hbw) (E4.out.below hbw)) (mkVals_Occurrence (D1.out.below hbw) (D2.out.below hbw) (D3.out.below hbw) (D4.out.below hbw))).mono ?_
  rintro e w1 ⟨rfl, hb1⟩
  obtain ⟨hc1, hf1⟩ := bcell hb1
  have hz1 : w.heap.size + 1 < w1.heap.size := (by have := hb1.size; (try simp at this); omega)
  have ha1 : w.heap.size < w1.heap.size := by omega
  replace hbw := hbw.trans (hb1.mono hbw.size)
  go_wp2_with fail
  refine (HC5.out S S' _ _ _ G5.out (E5.out.below hbw) (D5.out.below hbw)).mono ?_
  rintro e w2 ⟨rfl, hb2⟩
  obtain ⟨hc2, hf2⟩ := bcell hb2
  have hz2 : w.heap.size + 1 < w2.heap.size := (by have := hb2.size; (try simp at this); omega)
  have ha2 : w.heap.size < w2.heap.size := by omega
  replace hbw := hbw.trans (hb2.mono hbw.size)
  go_wp2
  go_ret
  exact ⟨rfl, hbw⟩

set_option maxHeartbeats 2000000 in
theorem toLink_of (row : List C) (h : ∀ (rows : List (List C)), nodesRows rows < nodesRow row → toChainSC rows) : toLinkC row := by
  intro S us w hok hv hlen
  obtain ⟨i0, r1, r2, r3, r4, r5, rfl, g0, g1, g2, g3, g4, g5⟩ := okRow_Link hok
  obtain ⟨v1, v2, v3, v4, v5, rfl, e1, e2, e3, e4, e5⟩ := repVals_Link hv
  have HC1 := Lib.hid (toOccurrence_any [.sl r1, .sl r2, .sl r3, .sl r4])
  have HC5 := Lib.hid (h r5 (by simp [nodesRow, nodesC]; omega))
  clear h
  have G0 := Lib.hid g0
  have G1 := Lib.hid g1
  have G2 := Lib.hid g2
  have G3 := Lib.hid g3
  have G4 := Lib.hid g4
  have G5 := Lib.hid g5
  clear g0 g1 g2 g3 g4 g5 hok
  have E1 := Lib.hid e1
  have E2 := Lib.hid e2
  have E3 := Lib.hid e3
  have E4 := Lib.hid e4
  have E5 := Lib.hid e5
  clear hv e1 e2 e3 e4 e5
  have hl1 : (bulkRow [.sl r1, .sl r2, .sl r3, .sl r4]) ≤ 1048576 := by
    have e : (bulkRow [.sl r1, .sl r2, .sl r3, .sl r4]) ≤ bulkRow [.lit (.int .i64 i0), .sl r1, .sl r2, .sl r3, .sl r4, .sl r5] := by simp only [bulkRow, bulkC]; omega
    exact Nat.le_trans e hlen
  have hl5 : (r5.length + bulkRows r5) ≤ 1048576 := by
    have e : (r5.length + bulkRows r5) ≤ bulkRow [.lit (.int .i64 i0), .sl r1, .sl r2, .sl r3, .sl r4, .sl r5] := by simp only [bulkRow, bulkC]; omega
    exact Nat.le_trans e hlen
  clear hlen
  go_enter Try.func54, Try.ntmps54
  go_wp2_with fail
  refine (HC1.out S _ _ (mkRow_Occurrence G1.out G2.out G3.out G4.out) (by exact mkVals_Occurrence (E1.out.below (by repeat (first | refine Below.alloc ?_ (by simp; try omega) _ | exact Below.refl _ _))) (E2.out.below (by repeat (first | refine Below.alloc ?_ (by simp; try omega) _ | exact Below.refl _ _))) (E3.out.below (by repeat (first | refine Below.alloc ?_ (by simp; try omega) _ | exact Below.refl _ _))) (E4.out.below (by repeat (first | refine Below.alloc ?_ (by simp; try omega) _ | exact Below.refl _ _)))) hl1).mono ?_
  rintro e w1 ⟨ys1, rfl, hown1, hb1⟩
  obtain ⟨y1, y2, y3, y4, rfl, f1, f2, f3, f4⟩ := repVals_Occurrence (OwnVals.rep _ _ (fun _ => True) _ (fun _ _ => trivial) hown1)
  obtain ⟨A1, n1, cap1, rfl, _, _, _⟩ := f1.form
  clear f1
  obtain ⟨A2, n2, cap2, rfl, _, _, _⟩ := f2.form
  clear f2
  obtain ⟨A3, n3, cap3, rfl, _, _, _⟩ := f3.form
  clear f3
  obtain ⟨A4, n4, cap4, rfl, _, _, _⟩ := f4.form
  clear f4
  have hz1 := hb1.size
  simp at hz1 hown1
  have HOWN1 := Lib.hid hown1
  clear hown1
  have hbw1 : Below w.heap.size w w1 := Below.trans (by repeat (first | refine Below.alloc ?_ (by simp; try omega) _ | exact Below.refl _ _)) (hb1.mono (by simp; try omega))
  obtain ⟨hc1, hf1⟩ := bcell hb1
  have ha1 : w.heap.size < w1.heap.size := by omega
  have hbb1 : w.heap.size + 1 < w1.heap.size := by omega
  have hcc1 : w.heap.size + 1 + 1 < w1.heap.size := by omega
  go_wp2_with fail
  refine (HC5.out S _ _ G5.out (by exact E5.out.below (by repeat (first | refine Below.setCell ?_ (by simp; try omega) _ | exact hbw1))) hl5).mono ?_
  rintro e w2 ⟨y5, rfl, hown5, hb2⟩
  obtain ⟨A5, n5, cap5, rfl, _, _, _⟩ := (Own.rep _ _ _ hown5).form
  have hz2 := hb2.size
  simp at hz2 hown5
  have HOWN5 := Lib.hid hown5
  clear hown5
  have hbw2 : Below w.heap.size w w2 := Below.trans (by repeat (first | refine Below.setCell ?_ (by simp; try omega) _ | exact hbw1)) (hb2.mono (by simp; try omega))
  obtain ⟨hc2, hf2⟩ := bcell hb2
  have ha2 : w.heap.size < w2.heap.size := by omega
  have hbb2 : w.heap.size + 1 < w2.heap.size := by omega
  have hcc2 : w.heap.size + 1 + 1 < w2.heap.size := by omega
  go_wp2
  refine bodyPost_ret (v := .agg #[.int .i64 i0, .slice A1 n1 cap1, .slice A2 n2 cap2, .slice A3 n3 cap3, .slice A4 n4 cap4, .slice A5 n5 cap5]) (by simp [results, Try.results54, go_sem, hc1, ha1, hbb1, hcc1, hc2, ha2, hbb2, hcc2]) rfl ⟨[.int .i64 i0, .slice A1 n1 cap1, .slice A2 n2 cap2, .slice A3 n3 cap3, .slice A4 n4 cap4, .slice A5 n5 cap5], rfl, ?_, (by repeat (first | refine Below.setCell ?_ (by simp; try omega) _ | exact hbw2))⟩
  simp
  exact (OwnVals.lit (OwnVals.append (cs := [.sl r1, .sl r2, .sl r3, .sl r4]) (ds := [.sl r5]) (us := [.slice A1 n1 cap1, .slice A2 n2 cap2, .slice A3 n3 cap3, .slice A4 n4 cap4]) (vs := [.slice A5 n5 cap5]) (fun x => w.heap.size + 1 + 1 + 1 ≤ x ∧ x < w1.heap.size) (fun x => w1.heap.size ≤ x ∧ x < w2.heap.size) (HOWN1.out.same (by repeat (first | refine Same.trans ?_ (Same.setCell _ _ _ _ (by simp; try omega)) | refine Same.trans ?_ ((Same.below hb2).mono (fun x hx => by simp at hx ⊢; omega)) | exact Same.refl _ _))) (OwnVals.cons (fun x => w1.heap.size ≤ x ∧ x < w2.heap.size) (fun x => w2.heap.size ≤ x ∧ x < w2.heap.size) (HOWN5.out.same (by repeat (first | refine Same.trans ?_ (Same.setCell _ _ _ _ (by simp; try omega)) | exact Same.refl _ _))) OwnVals.nil (fun x hx => ⟨by omega, by omega⟩) (fun x hx => ⟨by omega, by omega⟩) (fun x hx hy => by omega)) (fun x hx => ⟨by omega, by omega⟩) (fun x hx => ⟨by omega, by omega⟩) (fun x hx hy => by omega)))

set_option maxHeartbeats 1000000 in
theorem szChain_of (row : List C) (h : ∀ (rows : List (List C)), nodesRows rows < nodesRow row → szLinkSC rows) : szChainC row := by
  intro S us left w hok hv h0 h1
  obtain ⟨i0, t1, i2, r3, i4, t5, i6, r7, r8, rfl, g0, g1, g2, g3, g4, g5, g6, g7, g8⟩ := okRow_Chain hok
  obtain ⟨v3, v7, v8, rfl, e3, e7, e8⟩ := repVals_Chain hv
  have HC0 := Lib.hid (szTerm_any [.lit (.int .i64 i0), .lit (.string t1), .lit (.int .i64 i2), .sl r3])
  have HC4 := Lib.hid (szTerm_any [.lit (.int .i64 i4), .lit (.string t5), .lit (.int .i64 i6), .sl r7])
  have HC8 := Lib.hid (h r8 (by simp [nodesRow, nodesC]; omega))
  clear h
  have HB := Lib.hid (show bulkRow [.lit (.int .i64 i0), .lit (.string t1), .lit (.int .i64 i2), .sl r3, .lit (.int .i64 i4), .lit (.string t5), .lit (.int .i64 i6), .sl r7, .sl r8] = (bulkRow [.lit (.int .i64 i0), .lit (.string t1), .lit (.int .i64 i2), .sl r3]) + (bulkRow [.lit (.int .i64 i4), .lit (.string t5), .lit (.int .i64 i6), .sl r7]) + (r8.length + bulkRows r8) from by simp only [bulkRow, bulkC]; omega)
  have G0 := Lib.hid g0
  have G1 := Lib.hid g1
  have G2 := Lib.hid g2
  have G3 := Lib.hid g3
  have G4 := Lib.hid g4
  have G5 := Lib.hid g5
  have G6 := Lib.hid g6
  have G7 := Lib.hid g7
  have G8 := Lib.hid g8
  clear g0 g1 g2 g3 g4 g5 g6 g7 g8 hok
  have E3 := Lib.hid e3
  have E7 := Lib.hid e7
  have E8 := Lib.hid e8
  clear hv e3 e7 e8
  generalize hrow : bulkRow [.lit (.int .i64 i0), .lit (.string t1), .lit (.int .i64 i2), .sl r3, .lit (.int .i64 i4), .lit (.string t5), .lit (.int .i64 i6), .sl r7, .sl r8] = total at HB ⊢
  clear hrow
  have hbw := (Below.refl w.heap.size w).alloc (Nat.le_refl _) (.cells #[.int .i64 i0, .string t1, .int .i64 i2, v3, .int .i64 i4, .string t5, .int .i64 i6, v7, v8] 41)
  go_enter Try.func16, Try.ntmps16
  go_wp2_with fail
  by_cases q0 : left < ((bulkRow [.lit (.int .i64 i0), .lit (.string t1), .lit (.int .i64 i2), .sl r3]) : Nat)
  · refine (HC0.out S _ _ _ (mkRow_Term G0.out G1.out G2.out G3.out) (mkVals_Term (E3.out.below hbw)) (by omega) (by omega)).mono ?_
    rw [sub_neg (by omega)]
    rintro e w1 ⟨rfl, hb1⟩
    go_wp2
    go_ret
    exact ⟨ret_int (a := -1) (sub_neg (by have := HB.out; omega)).symm, hbw.trans (hb1.mono hbw.size)⟩
  refine (HC0.out S _ _ _ (mkRow_Term G0.out G1.out G2.out G3.out) (mkVals_Term (E3.out.below hbw)) (by omega) (by omega)).mono ?_
  rw [sub_pos (by omega)]
  rintro e w1 ⟨rfl, hb1⟩
  obtain ⟨hc1, hf1⟩ := bcell hb1
  have hz1 : w.heap.size < w1.heap.size := (by have := hb1.size; (try simp at this); omega)
  replace hbw := hbw.trans (hb1.mono hbw.size)
  go_wp2_with fail
  by_cases q4 : (left - (((bulkRow [.lit (.int .i64 i0), .lit (.string t1), .lit (.int .i64 i2), .sl r3]) : Nat) : Int)) < ((bulkRow [.lit (.int .i64 i4), .lit (.string t5), .lit (.int .i64 i6), .sl r7]) : Nat)
  · refine (HC4.out S _ _ _ (mkRow_Term G4.out G5.out G6.out G7.out) (mkVals_Term (E7.out.below hbw)) (by omega) (by omega)).mono ?_
    rw [sub_neg (by omega)]
    rintro e w2 ⟨rfl, hb2⟩
    go_wp2
    go_ret
    exact ⟨ret_int (a := -1) (sub_neg (by have := HB.out; omega)).symm, hbw.trans (hb2.mono hbw.size)⟩
  refine (HC4.out S _ _ _ (mkRow_Term G4.out G5.out G6.out G7.out) (mkVals_Term (E7.out.below hbw)) (by omega) (by omega)).mono ?_
  rw [sub_pos (by omega)]
  rintro e w2 ⟨rfl, hb2⟩
  obtain ⟨hc2, hf2⟩ := bcell hb2
  have hz2 : w.heap.size < w2.heap.size := (by have := hb2.size; (try simp at this); omega)
  replace hbw := hbw.trans (hb2.mono hbw.size)
  go_wp2_with fail
  by_cases q8 : ((left - (((bulkRow [.lit (.int .i64 i0), .lit (.string t1), .lit (.int .i64 i2), .sl r3]) : Nat) : Int)) - (((bulkRow [.lit (.int .i64 i4), .lit (.string t5), .lit (.int .i64 i6), .sl r7]) : Nat) : Int)) < ((r8.length + bulkRows r8) : Nat)
  · refine (HC8.out S _ _ _ G8.out (E8.out.below hbw) (by omega) (by omega)).mono ?_
    rw [sub_neg (by omega)]
    rintro e w3 ⟨rfl, hb3⟩
    go_wp2
    go_ret
    exact ⟨ret_int (a := -1) (sub_neg (by have := HB.out; omega)).symm, hbw.trans (hb3.mono hbw.size)⟩
  refine (HC8.out S _ _ _ G8.out (E8.out.below hbw) (by omega) (by omega)).mono ?_
  rw [sub_pos (by omega)]
  rintro e w3 ⟨rfl, hb3⟩
  obtain ⟨hc3, hf3⟩ := bcell hb3
  have hz3 : w.heap.size < w3.heap.size := (by have := hb3.size; (try simp at this); omega)
  replace hbw := hbw.trans (hb3.mono hbw.size)
  go_wp2
  go_ret
  exact ⟨ret_int (by have := HB.out; rw [sub_pos (by omega)]; omega), hbw⟩

set_option maxHeartbeats 1000000 in
theorem eqChain_of (row : List C) (h : ∀ (rows : List (List C)), nodesRows rows < nodesRow row → eqLinkSC rows) : eqChainC row := by
  intro S S' us us' w hok hv hv'
  obtain ⟨i0, t1, i2, r3, i4, t5, i6, r7, r8, rfl, g0, g1, g2, g3, g4, g5, g6, g7, g8⟩ := okRow_Chain hok
  obtain ⟨v3, v7, v8, rfl, e3, e7, e8⟩ := repVals_Chain hv
  obtain ⟨x3, x7, x8, rfl, d3, d7, d8⟩ := repVals_Chain hv'
  have HC0 := Lib.hid (eqTerm_any [.lit (.int .i64 i0), .lit (.string t1), .lit (.int .i64 i2), .sl r3])
  have HC4 := Lib.hid (eqTerm_any [.lit (.int .i64 i4), .lit (.string t5), .lit (.int .i64 i6), .sl r7])
  have HC8 := Lib.hid (h r8 (by simp [nodesRow, nodesC]; omega))
  clear h
  have G0 := Lib.hid g0
  have G1 := Lib.hid g1
  have G2 := Lib.hid g2
  have G3 := Lib.hid g3
  have G4 := Lib.hid g4
  have G5 := Lib.hid g5
  have G6 := Lib.hid g6
  have G7 := Lib.hid g7
  have G8 := Lib.hid g8
  clear g0 g1 g2 g3 g4 g5 g6 g7 g8 hok
  have E3 := Lib.hid e3
  have D3 := Lib.hid d3
  have E7 := Lib.hid e7
  have D7 := Lib.hid d7
  have E8 := Lib.hid e8
  have D8 := Lib.hid d8
  clear hv hv' e3 d3 e7 d7 e8 d8
  have hbw := ((Below.refl w.heap.size w).alloc (Nat.le_refl _) (.cells #[.int .i64 i0, .string t1, .int .i64 i2, v3, .int .i64 i4, .string t5, .int .i64 i6, v7, v8] 46)).alloc (by simp) (.cells #[.int .i64 i0, .string t1, .int .i64 i2, x3, .int .i64 i4, .string t5, .int .i64 i6, x7, x8] 46)
  go_enter Try.func20, Try.ntmps20
  go_wp2_with fail
  refine (HC0.out S S' _ _ _ (mkRow_Term G0.out G1.out G2.out G3.out) (mkVals_Term (E3.out.below hbw)) (mkVals_Term (D3.out.below hbw))).mono ?_
  rintro e w1 ⟨rfl, hb1⟩
  obtain ⟨hc1, hf1⟩ := bcell hb1
  have hz1 : w.heap.size + 1 < w1.heap.size := (by have := hb1.size; (try simp at this); omega)
  have ha1 : w.heap.size < w1.heap.size := by omega
  replace hbw := hbw.trans (hb1.mono hbw.size)
  go_wp2_with fail
  refine (HC4.out S S' _ _ _ (mkRow_Term G4.out G5.out G6.out G7.out) (mkVals_Term (E7.out.below hbw)) (mkVals_Term (D7.out.below hbw))).mono ?_
  rintro e w2 ⟨rfl, hb2⟩
  obtain ⟨hc2, hf2⟩ := bcell hb2
  have hz2 : w.heap.size + 1 < w2.heap.size := (by have := hb2.size; (try simp at this); omega)
  have ha2 : w.heap.size < w2.heap.size := by omega
  replace hbw := hbw.trans (hb2.mono hbw.size)
  go_wp2_with fail
  refine (HC8.out S S' _ _ _ G8.out (E8.out.below hbw) (D8.out.below hbw)).mono ?_
  rintro e w3 ⟨rfl, hb3⟩
  obtain ⟨hc3, hf3⟩ := bcell hb3
  have hz3 : w.heap.size + 1 < w3.heap.size := (by have := hb3.size; (try simp at this); omega)
  have ha3 : w.heap.size < w3.heap.size := by omega
  replace hbw := hbw.trans (hb3.mono hbw.size)
  go_wp2
  go_ret
  exact ⟨rfl, hbw⟩

set_option maxHeartbeats 2000000 in
theorem toChain_of (row : List C) (h : ∀ (rows : List (List C)), nodesRows rows < nodesRow row → toLinkSC rows) : toChainC row := by
  intro S us w hok hv hlen
  obtain ⟨i0, t1, i2, r3, i4, t5, i6, r7, r8, rfl, g0, g1, g2, g3, g4, g5, g6, g7, g8⟩ := okRow_Chain hok
  obtain ⟨v3, v7, v8, rfl, e3, e7, e8⟩ := repVals_Chain hv
  have HC0 := Lib.hid (toTerm_any [.lit (.int .i64 i0), .lit (.string t1), .lit (.int .i64 i2), .sl r3])
  have HC4 := Lib.hid (toTerm_any [.lit (.int .i64 i4), .lit (.string t5), .lit (.int .i64 i6), .sl r7])
  have HC8 := Lib.hid (h r8 (by simp [nodesRow, nodesC]; omega))
  clear h
  have G0 := Lib.hid g0
  have G1 := Lib.hid g1
  have G2 := Lib.hid g2
  have G3 := Lib.hid g3
  have G4 := Lib.hid g4
  have G5 := Lib.hid g5
  have G6 := Lib.hid g6
  have G7 := Lib.hid g7
  have G8 := Lib.hid g8
  clear g0 g1 g2 g3 g4 g5 g6 g7 g8 hok
  have E3 := Lib.hid e3
  have E7 := Lib.hid e7
  have E8 := Lib.hid e8
  clear hv e3 e7 e8
  have hl0 : (bulkRow [.lit (.int .i64 i0), .lit (.string t1), .lit (.int .i64 i2), .sl r3]) ≤ 1048576 := by
    have e : (bulkRow [.lit (.int .i64 i0), .lit (.string t1), .lit (.int .i64 i2), .sl r3]) ≤ bulkRow [.lit (.int .i64 i0), .lit (.string t1), .lit (.int .i64 i2), .sl r3, .lit (.int .i64 i4), .lit (.string t5), .lit (.int .i64 i6), .sl r7, .sl r8] := by simp only [bulkRow, bulkC]; omega
    exact Nat.le_trans e hlen
  have hl4 : (bulkRow [.lit (.int .i64 i4), .lit (.string t5), .lit (.int .i64 i6), .sl r7]) ≤ 1048576 := by
    have e : (bulkRow [.lit (.int .i64 i4), .lit (.string t5), .lit (.int .i64 i6), .sl r7]) ≤ bulkRow [.lit (.int .i64 i0), .lit (.string t1), .lit (.int .i64 i2), .sl r3, .lit (.int .i64 i4), .lit (.string t5), .lit (.int .i64 i6), .sl r7, .sl r8] := by simp only [bulkRow, bulkC]; omega
    exact Nat.le_trans e hlen
  have hl8 : (r8.length + bulkRows r8) ≤ 1048576 := by
    have e : (r8.length + bulkRows r8) ≤ bulkRow [.lit (.int .i64 i0), .lit (.string t1), .lit (.int .i64 i2), .sl r3, .lit (.int .i64 i4), .lit (.string t5), .lit (.int .i64 i6), .sl r7, .sl r8] := by simp only [bulkRow, bulkC]; omega
    exact Nat.le_trans e hlen
  clear hlen
  go_enter Try.func18, Try.ntmps18
  go_wp2_with fail
  refine (HC0.out S _ _ (mkRow_Term G0.out G1.out G2.out G3.out) (by exact mkVals_Term (E3.out.below (by repeat (first | refine Below.alloc ?_ (by simp; try omega) _ | exact Below.refl _ _)))) hl0).mono ?_
  rintro e w1 ⟨ys0, rfl, hown0, hb1⟩
  obtain ⟨y3, rfl, f3⟩ := repVals_Term (OwnVals.rep _ _ (fun _ => True) _ (fun _ _ => trivial) hown0)
  obtain ⟨A3, n3, cap3, rfl, _, _, _⟩ := f3.form
  clear f3
  have hz1 := hb1.size
  simp at hz1 hown0
  have HOWN0 := Lib.hid hown0
  clear hown0
  have hbw1 : Below w.heap.size w w1 := Below.trans (by repeat (first | refine Below.alloc ?_ (by simp; try omega) _ | exact Below.refl _ _)) (hb1.mono (by simp; try omega))
  obtain ⟨hc1, hf1⟩ := bcell hb1
  have ha1 : w.heap.size < w1.heap.size := by omega
  have hbb1 : w.heap.size + 1 < w1.heap.size := by omega
  have hcc1 : w.heap.size + 1 + 1 < w1.heap.size := by omega
  go_wp2_with fail
  refine (HC4.out S _ _ (mkRow_Term G4.out G5.out G6.out G7.out) (by exact mkVals_Term (E7.out.below (by repeat (first | refine Below.setCell ?_ (by simp; try omega) _ | exact hbw1)))) hl4).mono ?_
  rintro e w2 ⟨ys4, rfl, hown4, hb2⟩
  obtain ⟨y7, rfl, f7⟩ := repVals_Term (OwnVals.rep _ _ (fun _ => True) _ (fun _ _ => trivial) hown4)
  obtain ⟨A7, n7, cap7, rfl, _, _, _⟩ := f7.form
  clear f7
  have hz2 := hb2.size
  simp at hz2 hown4
  have HOWN4 := Lib.hid hown4
  clear hown4
  have hbw2 : Below w.heap.size w w2 := Below.trans (by repeat (first | refine Below.setCell ?_ (by simp; try omega) _ | exact hbw1)) (hb2.mono (by simp; try omega))
  obtain ⟨hc2, hf2⟩ := bcell hb2
  have ha2 : w.heap.size < w2.heap.size := by omega
  have hbb2 : w.heap.size + 1 < w2.heap.size := by omega
  have hcc2 : w.heap.size + 1 + 1 < w2.heap.size := by omega
  go_wp2_with fail
  refine (HC8.out S _ _ G8.out (by exact E8.out.below (by repeat (first | refine Below.setCell ?_ (by simp; try omega) _ | exact hbw2))) hl8).mono ?_
  rintro e w3 ⟨y8, rfl, hown8, hb3⟩
  obtain ⟨A8, n8, cap8, rfl, _, _, _⟩ := (Own.rep _ _ _ hown8).form
  have hz3 := hb3.size
  simp at hz3 hown8
  have HOWN8 := Lib.hid hown8
  clear hown8
  have hbw3 : Below w.heap.size w w3 := Below.trans (by repeat (first | refine Below.setCell ?_ (by simp; try omega) _ | exact hbw2)) (hb3.mono (by simp; try omega))
  obtain ⟨hc3, hf3⟩ := bcell hb3
  have ha3 : w.heap.size < w3.heap.size := by omega
  have hbb3 : w.heap.size + 1 < w3.heap.size := by omega
  have hcc3 : w.heap.size + 1 + 1 < w3.heap.size := by omega
  go_wp2
  refine bodyPost_ret (v := .agg #[.int .i64 i0, .string t1, .int .i64 i2, .slice A3 n3 cap3, .int .i64 i4, .string t5, .int .i64 i6, .slice A7 n7 cap7, .slice A8 n8 cap8]) (by simp [results, Try.results18, go_sem, hc1, ha1, hbb1, hcc1, hc2, ha2, hbb2, hcc2, hc3, ha3, hbb3, hcc3]) rfl ⟨[.int .i64 i0, .string t1, .int .i64 i2, .slice A3 n3 cap3, .int .i64 i4, .string t5, .int .i64 i6, .slice A7 n7 cap7, .slice A8 n8 cap8], rfl, ?_, (by repeat (first | refine Below.setCell ?_ (by simp; try omega) _ | exact hbw3))⟩
  simp
  exact (OwnVals.append (cs := [.lit (.int .i64 i0), .lit (.string t1), .lit (.int .i64 i2), .sl r3]) (ds := [.lit (.int .i64 i4), .lit (.string t5), .lit (.int .i64 i6), .sl r7, .sl r8]) (us := [.int .i64 i0, .string t1, .int .i64 i2, .slice A3 n3 cap3]) (vs := [.int .i64 i4, .string t5, .int .i64 i6, .slice A7 n7 cap7, .slice A8 n8 cap8]) (fun x => w.heap.size + 1 + 1 + 1 ≤ x ∧ x < w1.heap.size) (fun x => w1.heap.size ≤ x ∧ x < w3.heap.size) (HOWN0.out.same (by repeat (first | refine Same.trans ?_ (Same.setCell _ _ _ _ (by simp; try omega)) | refine Same.trans ?_ ((Same.below hb2).mono (fun x hx => by simp at hx ⊢; omega)) | refine Same.trans ?_ ((Same.below hb3).mono (fun x hx => by simp at hx ⊢; omega)) | exact Same.refl _ _))) (OwnVals.append (cs := [.lit (.int .i64 i4), .lit (.string t5), .lit (.int .i64 i6), .sl r7]) (ds := [.sl r8]) (us := [.int .i64 i4, .string t5, .int .i64 i6, .slice A7 n7 cap7]) (vs := [.slice A8 n8 cap8]) (fun x => w1.heap.size ≤ x ∧ x < w2.heap.size) (fun x => w2.heap.size ≤ x ∧ x < w3.heap.size) (HOWN4.out.same (by repeat (first | refine Same.trans ?_ (Same.setCell _ _ _ _ (by simp; try omega)) | refine Same.trans ?_ ((Same.below hb3).mono (fun x hx => by simp at hx ⊢; omega)) | exact Same.refl _ _))) (OwnVals.cons (fun x => w2.heap.size ≤ x ∧ x < w3.heap.size) (fun x => w3.heap.size ≤ x ∧ x < w3.heap.size) (HOWN8.out.same (by repeat (first | refine Same.trans ?_ (Same.setCell _ _ _ _ (by simp; try omega)) | exact Same.refl _ _))) OwnVals.nil (fun x hx => ⟨by omega, by omega⟩) (fun x hx => ⟨by omega, by omega⟩) (fun x hx hy => by omega)) (fun x hx => ⟨by omega, by omega⟩) (fun x hx => ⟨by omega, by omega⟩) (fun x hx hy => by omega)) (fun x hx => ⟨by omega, by omega⟩) (fun x hx => ⟨by omega, by omega⟩) (fun x hx hy => by omega))

set_option maxHeartbeats 1000000 in
theorem szLinkS_of (rows : List (List C)) (h : ∀ (i : Nat) r, rows[i]? = some r → szLinkC r) : szLinkSC rows := by
  intro S v left w hok hv h0 h1
  obtain ⟨A, m, cap, rfl, hm, hmc, hcm⟩ := hv.form
  have H := Lib.hid h
  have HV := Lib.hid hv
  have HM := Lib.hid hm
  have HOK := Lib.hid hok
  clear h hv hm hok
  unfold maxLen at hcm
  by_cases hlt : left - m < 0
  · rw [sub_neg (by have := HM.out; omega)]
    go_enter Try.func34, Try.ntmps34
    go_wp2
    go_ret
    exact ⟨rfl, Below.refl _ _⟩
  · go_enter Try.func34, Try.ntmps34
    go_wp2
    go_loopw [1, 5] (fun l i wr => ∃ k : Nat, k ≤ m ∧ i = .int .i64 k ∧ l = .int .i64 (left - m - (bulkRows (rows.take k) : Int)) ∧ 0 ≤ left - m - (bulkRows (rows.take k) : Int) ∧ Below w.heap.size w wr) (fun _ i _ => m - (intOf i).toNat)
    case atStart => exact ⟨0, Nat.zero_le _, rfl, by simp [bulkRows], by simp [bulkRows]; omega, Below.refl _ _⟩
    case round =>
      obtain ⟨k, hk, rfl, rfl, hl0, hb⟩ := hrel
      by_cases hkm : k < m
      · obtain ⟨b, off, r, rfl, hS, hbz, hget, hokr, hrow⟩ := (HV.out.below hb).get HOK.out hkm
        obtain ⟨u0, u1, u2, u3, u4, u5, c0, c1, c2, c3, c4, c5, hvals⟩ := hrow.vals6 hokr.len
        have HT := H.out k r hget
        have HVALS := Lib.hid hvals
        have HOKR := Lib.hid hokr
        have HBT := Lib.hid (bulk_take hget)
        have hle := bulk_take_le rows (k+1)
        clear hvals hokr hrow hget
        simp only [fieldsOf, termF, occF, sortsF, sigF, moduleF, algF, List.cons_append, List.nil_append, List.length_cons, List.length_nil, Nat.reduceAdd] at c0 c1 c2 c3 c4 c5
        by_cases h2 : left - m - (bulkRows (rows.take k) : Int) < bulkRow r
        · go_wp2_with fail
          refine (HT S _ _ _ HOKR.out HVALS.out (by omega) (by omega)).mono ?_
          rw [sub_neg h2]
          rintro e w' ⟨rfl, hb2⟩
          go_wp2
          go_ret
          exact ⟨ret_int (a := -1) (sub_neg (by have := HBT.out; have := HM.out; omega)).symm, hb.trans (hb2.mono hb.size)⟩
        · go_wp2_with fail
          refine (HT S _ _ _ HOKR.out HVALS.out (by omega) (by omega)).mono ?_
          rw [sub_pos (by omega)]
          rintro e w' ⟨rfl, hb2⟩
          go_wp2
          go_roundw
          case rel => exact ⟨k + 1, by omega, by go_num, by have := HBT.out; congr 1; omega, by have := HBT.out; omega, hb.trans (hb2.mono hb.size)⟩
          case measure => simp [intOf]; omega
      · go_wp2
        go_ret
        have e : k = m := by omega
        subst e
        have : rows.take k = rows := List.take_of_length_le (by have := HM.out; omega)
        rw [this] at hl0 ⊢
        exact ⟨ret_int (by have := HM.out; rw [sub_pos (by omega)]; omega), hb⟩

set_option maxHeartbeats 1000000 in
theorem eqLinkS_of (rows : List (List C)) (h : ∀ (i : Nat) r, rows[i]? = some r → eqLinkC r) : eqLinkSC rows := by
  intro S S' v v' w hok hv hv'
  obtain ⟨A, m, cap, rfl, hm, hmc, hcm⟩ := hv.form
  obtain ⟨A', m', cap', rfl, hm', hmc', hcm'⟩ := hv'.form
  obtain rfl : m = m' := by omega
  have H := Lib.hid h
  have HV := Lib.hid hv
  have HV' := Lib.hid hv'
  have HM := Lib.hid hm
  have HOK := Lib.hid hok
  clear h hv hm hok hm' hv'
  unfold maxLen at hcm hcm'
  go_enter Try.func37, Try.ntmps37
  go_wp2
  go_loopw [5] (fun i wr => ∃ k : Nat, k ≤ m ∧ i = .int .i64 k ∧ Below w.heap.size w wr) (fun i _ => m - (intOf i).toNat)
  case atStart => exact ⟨0, Nat.zero_le _, rfl, Below.refl _ _⟩
  case round =>
    obtain ⟨k, hk, rfl, hb⟩ := hrel
    by_cases hkm : k < m
    · obtain ⟨b, off, r, rfl, hS, hbz, hget, hokr, hrow⟩ := (HV.out.below hb).get HOK.out hkm
      obtain ⟨b', off', r', rfl, hS', hbz', hget', hokr', hrow'⟩ := (HV'.out.below hb).get HOK.out hkm
      obtain rfl : r = r' := by rw [hget] at hget'; exact Option.some.inj hget'
      obtain ⟨u0, u1, u2, u3, u4, u5, c0, c1, c2, c3, c4, c5, hvals⟩ := hrow.vals6 hokr.len
      obtain ⟨x0, x1, x2, x3, x4, x5, d0, d1, d2, d3, d4, d5, hvals'⟩ := hrow'.vals6 hokr.len
      have HT := H.out k r hget
      have HVALS := Lib.hid hvals
      have HVALS' := Lib.hid hvals'
      have HOKR := Lib.hid hokr
      clear hvals hvals' hokr hokr' hrow hrow' hget hget'
      simp only [fieldsOf, termF, occF, sortsF, sigF, moduleF, algF, List.cons_append, List.nil_append, List.length_cons, List.length_nil, Nat.reduceAdd] at c0 c1 c2 c3 c4 c5 d0 d1 d2 d3 d4 d5
      have k0 : (0 : Int) ≤ (k : Int) := by omega
      have k1 : (k : Int) < (m : Int) := by omega
      go_wp2_with fail
      go_region_held3 (fun w' => ∀ b o, b < wr.heap.size → w'.cell? ⟨b, o, none⟩ = wr.cell? ⟨b, o, none⟩) (first | go_keep | exact fun b o h => hb2.cell (p := ⟨b, o, none⟩) h) (first | (go_at_call 55; refine (HT S S' _ _ _ HOKR.out (HVALS.out.below (Below.refl _ _).drew) (HVALS'.out.below (Below.refl _ _).drew)).mono ?_; rintro e w' ⟨rfl, hb2⟩))
      go_wp2
      go_roundw
      case rel => exact ⟨k + 1, by omega, by go_num, hb.trans ((Below.refl _ _).drew.trans (hb2.mono hb.size))⟩
      case measure => simp [intOf]; omega
    · go_wp2
      go_ret
      exact ⟨rfl, hb⟩
theorem info_Link : (Try.prog.info? 70).map (fun i => (i.zero, i.size, i.bytes)) = some (some (.agg #[.int .i64 0, .slice none 0 0, .slice none 0 0, .slice none 0 0, .slice none 0 0, .slice none 0 0]), 6, 128) := by kernel_rfl
set_option maxHeartbeats 1000000 in
theorem toLinkS_of (rows : List (List C)) (h : ∀ (i : Nat) r, rows[i]? = some r → toLinkC r) : toLinkSC rows := by
  intro S v w hok hv hlen
  obtain ⟨A, m, cap, rfl, hm, hmc, hcm⟩ := hv.form
  obtain ⟨i0, hi, hz0, hz1, hz2⟩ := info_parts info_Link
  have H := Lib.hid h
  have HV := Lib.hid hv
  have HM := Lib.hid hm
  have HOK := Lib.hid hok
  have hml : m ≤ 1048576 := by omega
  clear h hv hm hok
  unfold maxLen at hcm
  have hmk := run_make (P := Try.prog) w 44 70 i0 _ Try.underlying44 hi hz0 .i64 .i64 (m : Int) (m : Int) (by omega) (by omega) (by rw [hz2]; omega) (by omega)
  go_enter Try.func36, Try.ntmps36
  go_wp2
  clear hmk
  go_loopw [4] (fun i wr => ∃ k : Nat, k ≤ m ∧ i = .int .i64 k ∧ Filling w w.heap.size 70 m 6 rows k wr) (fun i _ => m - (intOf i).toNat)
  case atStart => exact ⟨0, Nat.zero_le _, rfl, Filling.start (size_madeCells _ _)⟩
  case round =>
    obtain ⟨k, hk, rfl, hfill⟩ := hrel
    have hb := hfill.1
    by_cases hkm : k < m
    · obtain ⟨b, off, r, rfl, hS, hbz, hget, hokr, hrow⟩ := (HV.out.below hb).get HOK.out hkm
      obtain ⟨u0, u1, u2, u3, u4, u5, c0, c1, c2, c3, c4, c5, hvals⟩ := hrow.vals6 hokr.len
      have HT := H.out k r hget
      have HVALS := Lib.hid hvals
      have HOKR := Lib.hid hokr
      have HGET := Lib.hid hget
      have HF := Lib.hid hfill
      have hbg := bulk_get hget
      clear hvals hokr hrow hget hfill
      simp only [fieldsOf, termF, occF, sortsF, sigF, moduleF, algF, List.cons_append, List.nil_append, List.length_cons, List.length_nil, Nat.reduceAdd] at c0 c1 c2 c3 c4 c5
      go_wp2_with fail
      refine (HT S _ _ HOKR.out HVALS.out (by omega)).mono ?_
      rintro e w2 ⟨us, rfl, hown, hb2⟩
      have hone := HOKR.out.one (OwnVals.rep _ _ (fun _ => True) _ (fun _ _ => trivial) hown)
      obtain ⟨y0, y1, y2, y3, y4, y5, rfl⟩ := len6 (hown.len.trans HOKR.out.len)
      have HOWN := Lib.hid hown
      have HONE := Lib.hid hone
      obtain ⟨cur, hcur, hcs⟩ := HF.out.row hb2
      have HCUR := Lib.hid hcur
      have HCS := Lib.hid hcs
      clear hown hone hcur hcs
      go_wp2_with (refine wpList_store_put rfl 70 _ _ rfl w.heap.size (k * 6) rfl [y0, y1, y2, y3, y4, y5] rfl i0 hi hz1 70 cur HCUR.out (by have := HCS.out; simp only [List.length_cons, List.length_nil]; omega) HONE.out ?_; intro w3 hput)
      go_roundw
      case rel => exact ⟨k + 1, by omega, by go_num, HF.out.step (fs := fieldsOf .link) HOK.out HGET.out hb2 HOWN.out hput⟩
      case measure => simp [intOf]; omega
    · go_wp2
      go_ret
      have e : k = m := by omega
      subst e
      exact ⟨_, rfl, hfill.done HM.out (by unfold maxLen; omega)⟩

set_option maxHeartbeats 1000000 in
theorem szChainS_of (rows : List (List C)) (h : ∀ (i : Nat) r, rows[i]? = some r → szChainC r) : szChainSC rows := by
  intro S v left w hok hv h0 h1
  obtain ⟨A, m, cap, rfl, hm, hmc, hcm⟩ := hv.form
  have H := Lib.hid h
  have HV := Lib.hid hv
  have HM := Lib.hid hm
  have HOK := Lib.hid hok
  clear h hv hm hok
  unfold maxLen at hcm
  by_cases hlt : left - m < 0
  · rw [sub_neg (by have := HM.out; omega)]
    go_enter Try.func64, Try.ntmps64
    go_wp2
    go_ret
    exact ⟨rfl, Below.refl _ _⟩
  · go_enter Try.func64, Try.ntmps64
    go_wp2
    go_loopw [1, 5] (fun l i wr => ∃ k : Nat, k ≤ m ∧ i = .int .i64 k ∧ l = .int .i64 (left - m - (bulkRows (rows.take k) : Int)) ∧ 0 ≤ left - m - (bulkRows (rows.take k) : Int) ∧ Below w.heap.size w wr) (fun _ i _ => m - (intOf i).toNat)
    case atStart => exact ⟨0, Nat.zero_le _, rfl, by simp [bulkRows], by simp [bulkRows]; omega, Below.refl _ _⟩
    case round =>
      obtain ⟨k, hk, rfl, rfl, hl0, hb⟩ := hrel
      by_cases hkm : k < m
      · obtain ⟨b, off, r, rfl, hS, hbz, hget, hokr, hrow⟩ := (HV.out.below hb).get HOK.out hkm
        obtain ⟨u0, u1, u2, u3, u4, u5, u6, u7, u8, c0, c1, c2, c3, c4, c5, c6, c7, c8, hvals⟩ := hrow.vals9 hokr.len
        have HT := H.out k r hget
        have HVALS := Lib.hid hvals
        have HOKR := Lib.hid hokr
        have HBT := Lib.hid (bulk_take hget)
        have hle := bulk_take_le rows (k+1)
        clear hvals hokr hrow hget
        simp only [fieldsOf, termF, occF, sortsF, sigF, moduleF, algF, List.cons_append, List.nil_append, List.length_cons, List.length_nil, Nat.reduceAdd] at c0 c1 c2 c3 c4 c5 c6 c7 c8
        by_cases h2 : left - m - (bulkRows (rows.take k) : Int) < bulkRow r
        · go_wp2_with fail
          refine (HT S _ _ _ HOKR.out HVALS.out (by omega) (by omega)).mono ?_
          rw [sub_neg h2]
          rintro e w' ⟨rfl, hb2⟩
          go_wp2
          go_ret
          exact ⟨ret_int (a := -1) (sub_neg (by have := HBT.out; have := HM.out; omega)).symm, hb.trans (hb2.mono hb.size)⟩
        · go_wp2_with fail
          refine (HT S _ _ _ HOKR.out HVALS.out (by omega) (by omega)).mono ?_
          rw [sub_pos (by omega)]
          rintro e w' ⟨rfl, hb2⟩
          go_wp2
          go_roundw
          case rel => exact ⟨k + 1, by omega, by go_num, by have := HBT.out; congr 1; omega, by have := HBT.out; omega, hb.trans (hb2.mono hb.size)⟩
          case measure => simp [intOf]; omega
      · go_wp2
        go_ret
        have e : k = m := by omega
        subst e
        have : rows.take k = rows := List.take_of_length_le (by have := HM.out; omega)
        rw [this] at hl0 ⊢
        exact ⟨ret_int (by have := HM.out; rw [sub_pos (by omega)]; omega), hb⟩

set_option maxHeartbeats 1000000 in
theorem eqChainS_of (rows : List (List C)) (h : ∀ (i : Nat) r, rows[i]? = some r → eqChainC r) : eqChainSC rows := by
  intro S S' v v' w hok hv hv'
  obtain ⟨A, m, cap, rfl, hm, hmc, hcm⟩ := hv.form
  obtain ⟨A', m', cap', rfl, hm', hmc', hcm'⟩ := hv'.form
  obtain rfl : m = m' := by omega
  have H := Lib.hid h
  have HV := Lib.hid hv
  have HV' := Lib.hid hv'
  have HM := Lib.hid hm
  have HOK := Lib.hid hok
  clear h hv hm hok hm' hv'
  unfold maxLen at hcm hcm'
  go_enter Try.func66, Try.ntmps66
  go_wp2
  go_loopw [5] (fun i wr => ∃ k : Nat, k ≤ m ∧ i = .int .i64 k ∧ Below w.heap.size w wr) (fun i _ => m - (intOf i).toNat)
  case atStart => exact ⟨0, Nat.zero_le _, rfl, Below.refl _ _⟩
  case round =>
    obtain ⟨k, hk, rfl, hb⟩ := hrel
    by_cases hkm : k < m
    · obtain ⟨b, off, r, rfl, hS, hbz, hget, hokr, hrow⟩ := (HV.out.below hb).get HOK.out hkm
      obtain ⟨b', off', r', rfl, hS', hbz', hget', hokr', hrow'⟩ := (HV'.out.below hb).get HOK.out hkm
      obtain rfl : r = r' := by rw [hget] at hget'; exact Option.some.inj hget'
      obtain ⟨u0, u1, u2, u3, u4, u5, u6, u7, u8, c0, c1, c2, c3, c4, c5, c6, c7, c8, hvals⟩ := hrow.vals9 hokr.len
      obtain ⟨x0, x1, x2, x3, x4, x5, x6, x7, x8, d0, d1, d2, d3, d4, d5, d6, d7, d8, hvals'⟩ := hrow'.vals9 hokr.len
      have HT := H.out k r hget
      have HVALS := Lib.hid hvals
      have HVALS' := Lib.hid hvals'
      have HOKR := Lib.hid hokr
      clear hvals hvals' hokr hokr' hrow hrow' hget hget'
      simp only [fieldsOf, termF, occF, sortsF, sigF, moduleF, algF, List.cons_append, List.nil_append, List.length_cons, List.length_nil, Nat.reduceAdd] at c0 c1 c2 c3 c4 c5 c6 c7 c8 d0 d1 d2 d3 d4 d5 d6 d7 d8
      have k0 : (0 : Int) ≤ (k : Int) := by omega
      have k1 : (k : Int) < (m : Int) := by omega
      go_wp2_with fail
      go_region_held3 (fun w' => ∀ b o, b < wr.heap.size → w'.cell? ⟨b, o, none⟩ = wr.cell? ⟨b, o, none⟩) (first | go_keep | exact fun b o h => hb2.cell (p := ⟨b, o, none⟩) h) (first | (go_at_call 20; refine (HT S S' _ _ _ HOKR.out (HVALS.out.below (Below.refl _ _).drew) (HVALS'.out.below (Below.refl _ _).drew)).mono ?_; rintro e w' ⟨rfl, hb2⟩))
      go_wp2
      go_roundw
      case rel => exact ⟨k + 1, by omega, by go_num, hb.trans ((Below.refl _ _).drew.trans (hb2.mono hb.size))⟩
      case measure => simp [intOf]; omega
    · go_wp2
      go_ret
      exact ⟨rfl, hb⟩
theorem info_Chain : (Try.prog.info? 46).map (fun i => (i.zero, i.size, i.bytes)) = some (some (.agg #[.int .i64 0, .string .empty, .int .i64 0, .slice none 0 0, .int .i64 0, .string .empty, .int .i64 0, .slice none 0 0, .slice none 0 0]), 9, 136) := by kernel_rfl
set_option maxHeartbeats 1000000 in
theorem toChainS_of (rows : List (List C)) (h : ∀ (i : Nat) r, rows[i]? = some r → toChainC r) : toChainSC rows := by
  intro S v w hok hv hlen
  obtain ⟨A, m, cap, rfl, hm, hmc, hcm⟩ := hv.form
  obtain ⟨i0, hi, hz0, hz1, hz2⟩ := info_parts info_Chain
  have H := Lib.hid h
  have HV := Lib.hid hv
  have HM := Lib.hid hm
  have HOK := Lib.hid hok
  have hml : m ≤ 1048576 := by omega
  clear h hv hm hok
  unfold maxLen at hcm
  have hmk := run_make (P := Try.prog) w 68 46 i0 _ Try.underlying68 hi hz0 .i64 .i64 (m : Int) (m : Int) (by omega) (by omega) (by rw [hz2]; omega) (by omega)
  go_enter Try.func65, Try.ntmps65
  go_wp2
  clear hmk
  go_loopw [4] (fun i wr => ∃ k : Nat, k ≤ m ∧ i = .int .i64 k ∧ Filling w w.heap.size 46 m 9 rows k wr) (fun i _ => m - (intOf i).toNat)
  case atStart => exact ⟨0, Nat.zero_le _, rfl, Filling.start (size_madeCells _ _)⟩
  case round =>
    obtain ⟨k, hk, rfl, hfill⟩ := hrel
    have hb := hfill.1
    by_cases hkm : k < m
    · obtain ⟨b, off, r, rfl, hS, hbz, hget, hokr, hrow⟩ := (HV.out.below hb).get HOK.out hkm
      obtain ⟨u0, u1, u2, u3, u4, u5, u6, u7, u8, c0, c1, c2, c3, c4, c5, c6, c7, c8, hvals⟩ := hrow.vals9 hokr.len
      have HT := H.out k r hget
      have HVALS := Lib.hid hvals
      have HOKR := Lib.hid hokr
      have HGET := Lib.hid hget
      have HF := Lib.hid hfill
      have hbg := bulk_get hget
      clear hvals hokr hrow hget hfill
      simp only [fieldsOf, termF, occF, sortsF, sigF, moduleF, algF, List.cons_append, List.nil_append, List.length_cons, List.length_nil, Nat.reduceAdd] at c0 c1 c2 c3 c4 c5 c6 c7 c8
      go_wp2_with fail
      refine (HT S _ _ HOKR.out HVALS.out (by omega)).mono ?_
      rintro e w2 ⟨us, rfl, hown, hb2⟩
      have hone := HOKR.out.one (OwnVals.rep _ _ (fun _ => True) _ (fun _ _ => trivial) hown)
      obtain ⟨y0, y1, y2, y3, y4, y5, y6, y7, y8, rfl⟩ := len9 (hown.len.trans HOKR.out.len)
      have HOWN := Lib.hid hown
      have HONE := Lib.hid hone
      obtain ⟨cur, hcur, hcs⟩ := HF.out.row hb2
      have HCUR := Lib.hid hcur
      have HCS := Lib.hid hcs
      clear hown hone hcur hcs
      go_wp2_with (refine wpList_store_put rfl 46 _ _ rfl w.heap.size (k * 9) rfl [y0, y1, y2, y3, y4, y5, y6, y7, y8] rfl i0 hi hz1 46 cur HCUR.out (by have := HCS.out; simp only [List.length_cons, List.length_nil]; omega) HONE.out ?_; intro w3 hput)
      go_roundw
      case rel => exact ⟨k + 1, by omega, by go_num, HF.out.step (fs := fieldsOf .chain) HOK.out HGET.out hb2 HOWN.out hput⟩
      case measure => simp [intOf]; omega
    · go_wp2
      go_ret
      have e : k = m := by omega
      subst e
      exact ⟨_, rfl, hfill.done HM.out (by unfold maxLen; omega)⟩
theorem szLinkS_all (n : Nat) : ∀ rows, nodesRows rows < n → szLinkSC rows := by
  induction n with
  | zero => intro rows h; omega
  | succ n ih => exact fun rows h => szLinkS_of rows (fun i r hr => szLink_of r (fun rows' h' => szChainS_of rows' (fun i' r' hr' => szChain_of r' (fun rows'' h'' => ih rows'' (by have := nodes_get hr; have := nodes_get hr'; omega)))))
theorem szLinkS_any (rows : List (List C)) : szLinkSC rows := szLinkS_all _ rows (Nat.lt_succ_self _)
theorem szChain_any (row : List C) : szChainC row := szChain_of row (fun rows _ => szLinkS_any rows)
theorem szChainS_any (rows : List (List C)) : szChainSC rows := szChainS_of rows (fun _ r _ => szChain_any r)
theorem szLink_any (row : List C) : szLinkC row := szLink_of row (fun rows _ => szChainS_any rows)
theorem eqLinkS_all (n : Nat) : ∀ rows, nodesRows rows < n → eqLinkSC rows := by
  induction n with
  | zero => intro rows h; omega
  | succ n ih => exact fun rows h => eqLinkS_of rows (fun i r hr => eqLink_of r (fun rows' h' => eqChainS_of rows' (fun i' r' hr' => eqChain_of r' (fun rows'' h'' => ih rows'' (by have := nodes_get hr; have := nodes_get hr'; omega)))))
theorem eqLinkS_any (rows : List (List C)) : eqLinkSC rows := eqLinkS_all _ rows (Nat.lt_succ_self _)
theorem eqChain_any (row : List C) : eqChainC row := eqChain_of row (fun rows _ => eqLinkS_any rows)
theorem eqChainS_any (rows : List (List C)) : eqChainSC rows := eqChainS_of rows (fun _ r _ => eqChain_any r)
theorem eqLink_any (row : List C) : eqLinkC row := eqLink_of row (fun rows _ => eqChainS_any rows)
theorem toLinkS_all (n : Nat) : ∀ rows, nodesRows rows < n → toLinkSC rows := by
  induction n with
  | zero => intro rows h; omega
  | succ n ih => exact fun rows h => toLinkS_of rows (fun i r hr => toLink_of r (fun rows' h' => toChainS_of rows' (fun i' r' hr' => toChain_of r' (fun rows'' h'' => ih rows'' (by have := nodes_get hr; have := nodes_get hr'; omega)))))
theorem toLinkS_any (rows : List (List C)) : toLinkSC rows := toLinkS_all _ rows (Nat.lt_succ_self _)
theorem toChain_any (row : List C) : toChainC row := toChain_of row (fun rows _ => toLinkS_any rows)
theorem toChainS_any (rows : List (List C)) : toChainSC rows := toChainS_of rows (fun _ r _ => toChain_any r)
theorem toLink_any (row : List C) : toLinkC row := toLink_of row (fun rows _ => toChainS_any rows)
end Go.Proofs.Ytiglacjigkcgkaa
