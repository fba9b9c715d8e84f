/-
  The laws' own functions at the type Signature: what they count, copy and compare (contracts, walked).
-/
import Derived.Test.YtlhbdhdaecchoaaRows
import Derived.Test.YtlhbdhdaecchoaaBase
import Derived.Test.YtlhbdhdaecchoaaLSorts
import Derived.Test.YtlhbdhdaecchoaaLOp
import Derived.Deep.RegionHeld3
set_option linter.unusedSimpArgs false
set_option linter.unusedVariables false
namespace Go.Proofs.Ytlhbdhdaecchoaa
open Go.RowKit
theorem okRow_Signature {r : List C} (h : okRow (sigF) r) : ∃ (r0 : List (List C)) (r1 : List (List C)) (r2 : List (List C)), r = [.sl r0, .sl r1, .sl r2] ∧ okRows (fieldsOf .str) r0 ∧ okRows (fieldsOf .sub) r1 ∧ okRows (fieldsOf .op) r2 := by
  obtain ⟨c0, c1, c2, rfl⟩ := len3 h.len
  simp only [fieldsOf, termF, occF, sortsF, sigF, moduleF, algF, List.cons_append, List.nil_append, okRow, and_true] at h
  obtain ⟨h0, h1, h2⟩ := h
  obtain ⟨r0, rfl, g0⟩ := okC_sl h0
  obtain ⟨r1, rfl, g1⟩ := okC_sl h1
  obtain ⟨r2, rfl, g2⟩ := okC_sl h2
  exact ⟨r0, r1, r2, rfl, g0, g1, g2⟩
theorem mkRow_Signature {r0 : List (List C)} {r1 : List (List C)} {r2 : List (List C)} (g0 : okRows (fieldsOf .str) r0) (g1 : okRows (fieldsOf .sub) r1) (g2 : okRows (fieldsOf .op) r2) : okRow (sigF) [.sl r0, .sl r1, .sl r2] := by
  simp only [fieldsOf, termF, occF, sortsF, sigF, moduleF, algF, List.cons_append, List.nil_append, okRow, and_true]
  exact ⟨mk_sl g0, mk_sl g1, mk_sl g2⟩
theorem repVals_Signature {w : World} {S : Nat → Prop} {r0 : List (List C)} {r1 : List (List C)} {r2 : List (List C)} {us : List Value} (h : RepVals w S [.sl r0, .sl r1, .sl r2] us) : ∃ v0 v1 v2, us = [v0, v1, v2] ∧ Rep w S (.sl r0) v0 ∧ Rep w S (.sl r1) v1 ∧ Rep w S (.sl r2) v2 := by
  obtain ⟨u0, u1, u2, rfl⟩ := len3 h.len
  simp only [RepVals, Rep.lit_iff, and_true] at h
  obtain ⟨e0, e1, e2⟩ := h
  exact ⟨u0, u1, u2, rfl, e0, e1, e2⟩
theorem mkVals_Signature {w : World} {S : Nat → Prop} {r0 : List (List C)} {r1 : List (List C)} {r2 : List (List C)} {v0 : Value} {v1 : Value} {v2 : Value} (e0 : Rep w S (.sl r0) v0) (e1 : Rep w S (.sl r1) v1) (e2 : Rep w S (.sl r2) v2) : RepVals w S [.sl r0, .sl r1, .sl r2] [v0, v1, v2] := by
  simp only [RepVals, Rep.lit_iff, and_true, true_and]
  exact ⟨e0, e1, e2⟩
def szSignatureC (row : List C) : Prop := ∀ (S : Nat → Prop) (us : List Value) (left : Int) (w : World), okRow (sigF) row → RepVals w S row us → 0 ≤ left → left ≤ 1048576 →
  Calls Try.prog 6 #[.agg us.toArray, .int .i64 left] w fun e w' => e = .returned (.int .i64 (sub left (bulkRow row))) ∧ Below w.heap.size w w'
def eqSignatureC (row : List C) : Prop := ∀ (S S' : Nat → Prop) (us us' : List Value) (w : World), okRow (sigF) row → RepVals w S row us → RepVals w S' row us' →
  Calls Try.prog 12 #[.agg us.toArray, .agg us'.toArray] w fun e w' => e = .returned (.bool true) ∧ Below w.heap.size w w'
def toSignatureC (row : List C) : Prop := ∀ (S : Nat → Prop) (us : List Value) (w : World), okRow (sigF) row → RepVals w S row us → bulkRow row ≤ 1048576 →
  Calls Try.prog 9 #[.agg us.toArray] w fun e w' => ∃ us' : List Value, e = .returned (.agg us'.toArray) ∧ OwnVals w' row (fun x => w.heap.size ≤ x ∧ x < w'.heap.size) us' ∧ Below w.heap.size w w'

set_option maxHeartbeats 1000000 in
theorem szSignature_of (row : List C) : szSignatureC row := by
  intro S us left w hok hv h0 h1
  obtain ⟨r0, r1, r2, rfl, g0, g1, g2⟩ := okRow_Signature hok
  obtain ⟨v0, v1, v2, rfl, e0, e1, e2⟩ := repVals_Signature hv
  have HC0 := Lib.hid (szSorts_any [.sl r0, .sl r1])
  have HC2 := Lib.hid (szOpS_any r2)
  have HB := Lib.hid (show bulkRow [.sl r0, .sl r1, .sl r2] = (bulkRow [.sl r0, .sl r1]) + (r2.length + bulkRows r2) from by simp only [bulkRow, bulkC]; omega)
  have G0 := Lib.hid g0
  have G1 := Lib.hid g1
  have G2 := Lib.hid g2
  clear g0 g1 g2 hok
  have E0 := Lib.hid e0
  have E1 := Lib.hid e1
  have E2 := Lib.hid e2
  clear hv e0 e1 e2
  generalize hrow : bulkRow [.sl r0, .sl r1, .sl r2] = total at HB ⊢
  clear hrow
  have hbw := (Below.refl w.heap.size w).alloc (Nat.le_refl _) (.cells #[v0, v1, v2] 28)
  go_enter Try.func6, Try.ntmps6
  go_wp2_with fail
  by_cases q0 : left < ((bulkRow [.sl r0, .sl r1]) : Nat)
  · refine (HC0.out S _ _ _ (mkRow_Sorts G0.out G1.out) (mkVals_Sorts (E0.out.below hbw) (E1.out.below hbw)) (by omega) (by omega)).mono ?_
    rw [sub_neg (by omega)]
    rintro e w1 ⟨rfl, hb1⟩
    go_wp2
    go_ret
    exact ⟨ret_int (a := -1) (sub_neg (by have := HB.out; omega)).symm, hbw.trans (hb1.mono hbw.size)⟩
  refine (HC0.out S _ _ _ (mkRow_Sorts G0.out G1.out) (mkVals_Sorts (E0.out.below hbw) (E1.out.below hbw)) (by omega) (by omega)).mono ?_
  rw [sub_pos (by omega)]
  rintro e w1 ⟨rfl, hb1⟩
  obtain ⟨hc1, hf1⟩ := bcell hb1
  have hz1 : w.heap.size < w1.heap.size := (by have := hb1.size; (try simp at this); omega)
  replace hbw := hbw.trans (hb1.mono hbw.size)
  go_wp2_with fail
  by_cases q2 : (left - (((bulkRow [.sl r0, .sl r1]) : Nat) : Int)) < ((r2.length + bulkRows r2) : Nat)
  · refine (HC2.out S _ _ _ G2.out (E2.out.below hbw) (by omega) (by omega)).mono ?_
    rw [sub_neg (by omega)]
    rintro e w2 ⟨rfl, hb2⟩
    go_wp2
    go_ret
    exact ⟨ret_int (a := -1) (sub_neg (by have := HB.out; omega)).symm, hbw.trans (hb2.mono hbw.size)⟩
  refine (HC2.out S _ _ _ G2.out (E2.out.below hbw) (by omega) (by omega)).mono ?_
  rw [sub_pos (by omega)]
  rintro e w2 ⟨rfl, hb2⟩
  obtain ⟨hc2, hf2⟩ := bcell hb2
  have hz2 : w.heap.size < w2.heap.size := (by have := hb2.size; (try simp at this); omega)
  replace hbw := hbw.trans (hb2.mono hbw.size)
  go_wp2
  go_ret
  exact ⟨ret_int (by have := HB.out; rw [sub_pos (by omega)]; omega), hbw⟩

set_option maxHeartbeats 1000000 in
theorem eqSignature_of (row : List C) : eqSignatureC row := by
  intro S S' us us' w hok hv hv'
  obtain ⟨r0, r1, r2, rfl, g0, g1, g2⟩ := okRow_Signature hok
  obtain ⟨v0, v1, v2, rfl, e0, e1, e2⟩ := repVals_Signature hv
  obtain ⟨x0, x1, x2, rfl, d0, d1, d2⟩ := repVals_Signature hv'
  have HC0 := Lib.hid (eqSorts_any [.sl r0, .sl r1])
  have HC2 := Lib.hid (eqOpS_any r2)
  have G0 := Lib.hid g0
  have G1 := Lib.hid g1
  have G2 := Lib.hid g2
  clear g0 g1 g2 hok
  have E0 := Lib.hid e0
  have D0 := Lib.hid d0
  have E1 := Lib.hid e1
  have D1 := Lib.hid d1
  have E2 := Lib.hid e2
  have D2 := Lib.hid d2
  clear hv hv' e0 d0 e1 d1 e2 d2
  have hbw := ((Below.refl w.heap.size w).alloc (Nat.le_refl _) (.cells #[v0, v1, v2] 40)).alloc (by simp) (.cells #[x0, x1, x2] 40)
  go_enter Try.func12, Try.ntmps12
  go_wp2_with fail
  refine (HC0.out S S' _ _ _ (mkRow_Sorts G0.out G1.out) (mkVals_Sorts (E0.out.below hbw) (E1.out.below hbw)) (mkVals_Sorts (D0.out.below hbw) (D1.out.below hbw))).mono ?_
  rintro e w1 ⟨rfl, hb1⟩
  obtain ⟨hc1, hf1⟩ := bcell hb1
  have hz1 : w.heap.size + 1 < w1.heap.size := (by have := hb1.size; (try simp at this); omega)
  have ha1 : w.heap.size < w1.heap.size := by omega
  replace hbw := hbw.trans (hb1.mono hbw.size)
  go_wp2_with fail
  refine (HC2.out S S' _ _ _ G2.out (E2.out.below hbw) (D2.out.below hbw)).mono ?_
  rintro e w2 ⟨rfl, hb2⟩
  obtain ⟨hc2, hf2⟩ := bcell hb2
  have hz2 : w.heap.size + 1 < w2.heap.size := (by have := hb2.size; (try simp at this); omega)
  have ha2 : w.heap.size < w2.heap.size := by omega
  replace hbw := hbw.trans (hb2.mono hbw.size)
  go_wp2
  go_ret
  exact ⟨rfl, hbw⟩

set_option maxHeartbeats 2000000 in
theorem toSignature_of (row : List C) : toSignatureC row := by
  intro S us w hok hv hlen
  obtain ⟨r0, r1, r2, rfl, g0, g1, g2⟩ := okRow_Signature hok
  obtain ⟨v0, v1, v2, rfl, e0, e1, e2⟩ := repVals_Signature hv
  have HC0 := Lib.hid (toSorts_any [.sl r0, .sl r1])
  have HC2 := Lib.hid (toOpS_any r2)
  have G0 := Lib.hid g0
  have G1 := Lib.hid g1
  have G2 := Lib.hid g2
  clear g0 g1 g2 hok
  have E0 := Lib.hid e0
  have E1 := Lib.hid e1
  have E2 := Lib.hid e2
  clear hv e0 e1 e2
  have hl0 : (bulkRow [.sl r0, .sl r1]) ≤ 1048576 := by
    have e : (bulkRow [.sl r0, .sl r1]) ≤ bulkRow [.sl r0, .sl r1, .sl r2] := by simp only [bulkRow, bulkC]; omega
    exact Nat.le_trans e hlen
  have hl2 : (r2.length + bulkRows r2) ≤ 1048576 := by
    have e : (r2.length + bulkRows r2) ≤ bulkRow [.sl r0, .sl r1, .sl r2] := by simp only [bulkRow, bulkC]; omega
    exact Nat.le_trans e hlen
  clear hlen
  go_enter Try.func9, Try.ntmps9
  go_wp2_with fail
  refine (HC0.out S _ _ (mkRow_Sorts G0.out G1.out) (by exact mkVals_Sorts (E0.out.below (by repeat (first | refine Below.alloc ?_ (by simp; try omega) _ | exact Below.refl _ _))) (E1.out.below (by repeat (first | refine Below.alloc ?_ (by simp; try omega) _ | exact Below.refl _ _)))) hl0).mono ?_
  rintro e w1 ⟨ys0, rfl, hown0, hb1⟩
  obtain ⟨y0, y1, rfl, f0, f1⟩ := repVals_Sorts (OwnVals.rep _ _ (fun _ => True) _ (fun _ _ => trivial) hown0)
  obtain ⟨A0, n0, cap0, rfl, _, _, _⟩ := f0.form
  clear f0
  obtain ⟨A1, n1, cap1, rfl, _, _, _⟩ := f1.form
  clear f1
  have hz1 := hb1.size
  simp at hz1 hown0
  have HOWN0 := Lib.hid hown0
  clear hown0
  have hbw1 : Below w.heap.size w w1 := Below.trans (by repeat (first | refine Below.alloc ?_ (by simp; try omega) _ | exact Below.refl _ _)) (hb1.mono (by simp; try omega))
  obtain ⟨hc1, hf1⟩ := bcell hb1
  have ha1 : w.heap.size < w1.heap.size := by omega
  have hbb1 : w.heap.size + 1 < w1.heap.size := by omega
  have hcc1 : w.heap.size + 1 + 1 < w1.heap.size := by omega
  go_wp2_with fail
  refine (HC2.out S _ _ G2.out (by exact E2.out.below (by repeat (first | refine Below.setCell ?_ (by simp; try omega) _ | exact hbw1))) hl2).mono ?_
  rintro e w2 ⟨y2, rfl, hown2, hb2⟩
  obtain ⟨A2, n2, cap2, rfl, _, _, _⟩ := (Own.rep _ _ _ hown2).form
  have hz2 := hb2.size
  simp at hz2 hown2
  have HOWN2 := Lib.hid hown2
  clear hown2
  have hbw2 : Below w.heap.size w w2 := Below.trans (by repeat (first | refine Below.setCell ?_ (by simp; try omega) _ | exact hbw1)) (hb2.mono (by simp; try omega))
  obtain ⟨hc2, hf2⟩ := bcell hb2
  have ha2 : w.heap.size < w2.heap.size := by omega
  have hbb2 : w.heap.size + 1 < w2.heap.size := by omega
  have hcc2 : w.heap.size + 1 + 1 < w2.heap.size := by omega
  go_wp2
  refine bodyPost_ret (v := .agg #[.slice A0 n0 cap0, .slice A1 n1 cap1, .slice A2 n2 cap2]) (by simp [results, Try.results9, go_sem, hc1, ha1, hbb1, hcc1, hc2, ha2, hbb2, hcc2]) rfl ⟨[.slice A0 n0 cap0, .slice A1 n1 cap1, .slice A2 n2 cap2], rfl, ?_, (by repeat (first | refine Below.setCell ?_ (by simp; try omega) _ | exact hbw2))⟩
  simp
  exact (OwnVals.append (cs := [.sl r0, .sl r1]) (ds := [.sl r2]) (us := [.slice A0 n0 cap0, .slice A1 n1 cap1]) (vs := [.slice A2 n2 cap2]) (fun x => w.heap.size + 1 + 1 + 1 ≤ x ∧ x < w1.heap.size) (fun x => w1.heap.size ≤ x ∧ x < w2.heap.size) (HOWN0.out.same (by repeat (first | refine Same.trans ?_ (Same.setCell _ _ _ _ (by simp; try omega)) | refine Same.trans ?_ ((Same.below hb2).mono (fun x hx => by simp at hx ⊢; omega)) | exact Same.refl _ _))) (OwnVals.cons (fun x => w1.heap.size ≤ x ∧ x < w2.heap.size) (fun x => w2.heap.size ≤ x ∧ x < w2.heap.size) (HOWN2.out.same (by repeat (first | refine Same.trans ?_ (Same.setCell _ _ _ _ (by simp; try omega)) | exact Same.refl _ _))) OwnVals.nil (fun x hx => ⟨by omega, by omega⟩) (fun x hx => ⟨by omega, by omega⟩) (fun x hx hy => by omega)) (fun x hx => ⟨by omega, by omega⟩) (fun x hx => ⟨by omega, by omega⟩) (fun x hx hy => by omega))
theorem szSignature_any (row : List C) : szSignatureC row := szSignature_of row
theorem eqSignature_any (row : List C) : eqSignatureC row := eqSignature_of row
theorem toSignature_any (row : List C) : toSignatureC row := toSignature_of row
end Go.Proofs.Ytlhbdhdaecchoaa
