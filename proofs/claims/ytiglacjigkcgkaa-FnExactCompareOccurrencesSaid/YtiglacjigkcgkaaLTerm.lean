/-
  The laws' own functions at the type Term: what they count, copy and compare (contracts, walked).
-/
import Derived.Test.YtiglacjigkcgkaaRows
import Derived.Test.YtiglacjigkcgkaaBase
import Derived.Deep.RegionHeld3
set_option linter.unusedSimpArgs false
set_option linter.unusedVariables false
namespace Go.Proofs.Ytiglacjigkcgkaa
open Go.RowKit
theorem okRow_Term {r : List C} (h : okRow (fieldsOf .term) r) : ∃ (i0 : Int) (t1 : ByteArray) (i2 : Int) (r3 : List (List C)), r = [.lit (.int .i64 i0), .lit (.string t1), .lit (.int .i64 i2), .sl r3] ∧ I64 i0 ∧ t1.size ≤ maxLen ∧ I64 i2 ∧ okRows (fieldsOf .term) r3 := by
  obtain ⟨c0, c1, c2, c3, rfl⟩ := len4 h.len
  simp only [fieldsOf, termF, occF, sortsF, sigF, moduleF, algF, List.cons_append, List.nil_append, okRow, and_true] at h
  obtain ⟨h0, h1, h2, h3⟩ := h
  obtain ⟨i0, rfl, g0⟩ := okC_int h0
  obtain ⟨t1, rfl, g1⟩ := okC_str h1
  obtain ⟨i2, rfl, g2⟩ := okC_int h2
  obtain ⟨r3, rfl, g3⟩ := okC_sl h3
  exact ⟨i0, t1, i2, r3, rfl, g0, g1, g2, g3⟩
theorem mkRow_Term {i0 : Int} {t1 : ByteArray} {i2 : Int} {r3 : List (List C)} (g0 : I64 i0) (g1 : t1.size ≤ maxLen) (g2 : I64 i2) (g3 : okRows (fieldsOf .term) r3) : okRow (fieldsOf .term) [.lit (.int .i64 i0), .lit (.string t1), .lit (.int .i64 i2), .sl r3] := by
  simp only [fieldsOf, termF, occF, sortsF, sigF, moduleF, algF, List.cons_append, List.nil_append, okRow, and_true]
  exact ⟨mk_int g0, mk_str g1, mk_int g2, mk_sl g3⟩
theorem repVals_Term {w : World} {S : Nat → Prop} {i0 : Int} {t1 : ByteArray} {i2 : Int} {r3 : List (List C)} {us : List Value} (h : RepVals w S [.lit (.int .i64 i0), .lit (.string t1), .lit (.int .i64 i2), .sl r3] us) : ∃ v3, us = [.int .i64 i0, .string t1, .int .i64 i2, v3] ∧ Rep w S (.sl r3) v3 := by
  obtain ⟨u0, u1, u2, u3, rfl⟩ := len4 h.len
  simp only [RepVals, Rep.lit_iff, and_true] at h
  obtain ⟨rfl, rfl, rfl, e3⟩ := h
  exact ⟨u3, rfl, e3⟩
theorem mkVals_Term {w : World} {S : Nat → Prop} {i0 : Int} {t1 : ByteArray} {i2 : Int} {r3 : List (List C)} {v3 : Value} (e3 : Rep w S (.sl r3) v3) : RepVals w S [.lit (.int .i64 i0), .lit (.string t1), .lit (.int .i64 i2), .sl r3] [.int .i64 i0, .string t1, .int .i64 i2, v3] := by
  simp only [RepVals, Rep.lit_iff, and_true, true_and]
  exact e3
def szTermC (row : List C) : Prop := ∀ (S : Nat → Prop) (us : List Value) (left : Int) (w : World), okRow (fieldsOf .term) row → RepVals w S row us → 0 ≤ left → left ≤ 1048576 →
  Calls Try.prog 6 #[.agg us.toArray, .int .i64 left] w fun e w' => e = .returned (.int .i64 (sub left (bulkRow row))) ∧ Below w.heap.size w w'
def eqTermC (row : List C) : Prop := ∀ (S S' : Nat → Prop) (us us' : List Value) (w : World), okRow (fieldsOf .term) row → RepVals w S row us → RepVals w S' row us' →
  Calls Try.prog 11 #[.agg us.toArray, .agg us'.toArray] w fun e w' => e = .returned (.bool true) ∧ Below w.heap.size w w'
def toTermC (row : List C) : Prop := ∀ (S : Nat → Prop) (us : List Value) (w : World), okRow (fieldsOf .term) row → RepVals w S row us → bulkRow row ≤ 1048576 →
  Calls Try.prog 8 #[.agg us.toArray] w fun e w' => ∃ us' : List Value, e = .returned (.agg us'.toArray) ∧ OwnVals w' row (fun x => w.heap.size ≤ x ∧ x < w'.heap.size) us' ∧ Below w.heap.size w w'
def szTermSC (rows : List (List C)) : Prop := ∀ (S : Nat → Prop) (v : Value) (left : Int) (w : World), okRows (fieldsOf .term) rows → Rep w S (.sl rows) v → 0 ≤ left → left ≤ 1048576 →
  Calls Try.prog 26 #[v, .int .i64 left] w fun e w' => e = .returned (.int .i64 (sub left (rows.length + bulkRows rows))) ∧ Below w.heap.size w w'
def eqTermSC (rows : List (List C)) : Prop := ∀ (S S' : Nat → Prop) (v v' : Value) (w : World), okRows (fieldsOf .term) rows → Rep w S (.sl rows) v → Rep w S' (.sl rows) v' →
  Calls Try.prog 31 #[v, v'] w fun e w' => e = .returned (.bool true) ∧ Below w.heap.size w w'
def toTermSC (rows : List (List C)) : Prop := ∀ (S : Nat → Prop) (v : Value) (w : World), okRows (fieldsOf .term) rows → Rep w S (.sl rows) v → rows.length + bulkRows rows ≤ 1048576 →
  Calls Try.prog 29 #[v] w fun e w' => ∃ v', e = .returned v' ∧ Own w' (.sl rows) (fun x => w.heap.size ≤ x ∧ x < w'.heap.size) v' ∧ Below w.heap.size w w'

set_option maxHeartbeats 1000000 in
theorem szTerm_of (row : List C) (h : ∀ (rows : List (List C)), nodesRows rows < nodesRow row → szTermSC rows) : szTermC row := by
  intro S us left w hok hv h0 h1
  obtain ⟨i0, t1, i2, r3, rfl, g0, g1, g2, g3⟩ := okRow_Term hok
  obtain ⟨v3, rfl, e3⟩ := repVals_Term hv
  have HC3 := Lib.hid (h r3 (by simp [nodesRow, nodesC]; omega))
  clear h
  have HB := Lib.hid (show bulkRow [.lit (.int .i64 i0), .lit (.string t1), .lit (.int .i64 i2), .sl r3] = t1.size + (r3.length + bulkRows r3) from by simp only [bulkRow, bulkC]; omega)
  have hs1 := g1
  unfold maxLen at hs1
  have G0 := Lib.hid g0
  have G1 := Lib.hid g1
  have G2 := Lib.hid g2
  have G3 := Lib.hid g3
  clear g0 g1 g2 g3 hok
  have E3 := Lib.hid e3
  clear hv e3
  generalize hrow : bulkRow [.lit (.int .i64 i0), .lit (.string t1), .lit (.int .i64 i2), .sl r3] = total at HB ⊢
  clear hrow
  have hbw := (Below.refl w.heap.size w).alloc (Nat.le_refl _) (.cells #[.int .i64 i0, .string t1, .int .i64 i2, v3] 24)
  by_cases q1 : left - (t1.size : Int) < 0
  · go_enter Try.func6, Try.ntmps6
    go_wp2
    go_ret
    exact ⟨ret_int (a := -1) (sub_neg (by have := HB.out; omega)).symm, hbw⟩
  go_enter Try.func6, Try.ntmps6
  go_wp2_with fail
  by_cases q3 : (left - (t1.size : Int)) < ((r3.length + bulkRows r3) : Nat)
  · refine (HC3.out S _ _ _ G3.out (E3.out.below hbw) (by omega) (by omega)).mono ?_
    rw [sub_neg (by omega)]
    rintro e w1 ⟨rfl, hb1⟩
    go_wp2
    go_ret
    exact ⟨ret_int (a := -1) (sub_neg (by have := HB.out; omega)).symm, hbw.trans (hb1.mono hbw.size)⟩
  refine (HC3.out S _ _ _ G3.out (E3.out.below hbw) (by omega) (by omega)).mono ?_
  rw [sub_pos (by omega)]
  rintro e w1 ⟨rfl, hb1⟩
  obtain ⟨hc1, hf1⟩ := bcell hb1
  have hz1 : w.heap.size < w1.heap.size := (by have := hb1.size; (try simp at this); omega)
  replace hbw := hbw.trans (hb1.mono hbw.size)
  go_wp2
  go_ret
  exact ⟨ret_int (by have := HB.out; rw [sub_pos (by omega)]; omega), hbw⟩

set_option maxHeartbeats 1000000 in
theorem eqTerm_of (row : List C) (h : ∀ (rows : List (List C)), nodesRows rows < nodesRow row → eqTermSC rows) : eqTermC row := by
  intro S S' us us' w hok hv hv'
  obtain ⟨i0, t1, i2, r3, rfl, g0, g1, g2, g3⟩ := okRow_Term hok
  obtain ⟨v3, rfl, e3⟩ := repVals_Term hv
  obtain ⟨x3, rfl, d3⟩ := repVals_Term hv'
  have HC3 := Lib.hid (h r3 (by simp [nodesRow, nodesC]; omega))
  clear h
  have G0 := Lib.hid g0
  have G1 := Lib.hid g1
  have G2 := Lib.hid g2
  have G3 := Lib.hid g3
  clear g0 g1 g2 g3 hok
  have E3 := Lib.hid e3
  have D3 := Lib.hid d3
  clear hv hv' e3 d3
  have hbw := ((Below.refl w.heap.size w).alloc (Nat.le_refl _) (.cells #[.int .i64 i0, .string t1, .int .i64 i2, v3] 29)).alloc (by simp) (.cells #[.int .i64 i0, .string t1, .int .i64 i2, x3] 29)
  go_enter Try.func11, Try.ntmps11
  go_wp2_with fail
  refine (HC3.out S S' _ _ _ G3.out (E3.out.below hbw) (D3.out.below hbw)).mono ?_
  rintro e w1 ⟨rfl, hb1⟩
  obtain ⟨hc1, hf1⟩ := bcell hb1
  have hz1 : w.heap.size + 1 < w1.heap.size := (by have := hb1.size; (try simp at this); omega)
  have ha1 : w.heap.size < w1.heap.size := by omega
  replace hbw := hbw.trans (hb1.mono hbw.size)
  go_wp2
  go_ret
  exact ⟨rfl, hbw⟩

set_option maxHeartbeats 2000000 in
theorem toTerm_of (row : List C) (h : ∀ (rows : List (List C)), nodesRows rows < nodesRow row → toTermSC rows) : toTermC row := by
  intro S us w hok hv hlen
  obtain ⟨i0, t1, i2, r3, rfl, g0, g1, g2, g3⟩ := okRow_Term hok
  obtain ⟨v3, rfl, e3⟩ := repVals_Term hv
  have HC3 := Lib.hid (h r3 (by simp [nodesRow, nodesC]; omega))
  clear h
  have G0 := Lib.hid g0
  have G1 := Lib.hid g1
  have G2 := Lib.hid g2
  have G3 := Lib.hid g3
  clear g0 g1 g2 g3 hok
  have E3 := Lib.hid e3
  clear hv e3
  have hl3 : (r3.length + bulkRows r3) ≤ 1048576 := by
    have e : (r3.length + bulkRows r3) ≤ bulkRow [.lit (.int .i64 i0), .lit (.string t1), .lit (.int .i64 i2), .sl r3] := by simp only [bulkRow, bulkC]; omega
    exact Nat.le_trans e hlen
  clear hlen
  go_enter Try.func8, Try.ntmps8
  go_wp2_with fail
  refine (HC3.out S _ _ G3.out (by exact E3.out.below (by repeat (first | refine Below.alloc ?_ (by simp; try omega) _ | exact Below.refl _ _))) hl3).mono ?_
  rintro e w1 ⟨y3, rfl, hown3, hb1⟩
  obtain ⟨A3, n3, cap3, rfl, _, _, _⟩ := (Own.rep _ _ _ hown3).form
  have hz1 := hb1.size
  simp at hz1 hown3
  have HOWN3 := Lib.hid hown3
  clear hown3
  have hbw1 : Below w.heap.size w w1 := Below.trans (by repeat (first | refine Below.alloc ?_ (by simp; try omega) _ | exact Below.refl _ _)) (hb1.mono (by simp; try omega))
  obtain ⟨hc1, hf1⟩ := bcell hb1
  have ha1 : w.heap.size < w1.heap.size := by omega
  have hbb1 : w.heap.size + 1 < w1.heap.size := by omega
  have hcc1 : w.heap.size + 1 + 1 < w1.heap.size := by omega
  go_wp2
  refine bodyPost_ret (v := .agg #[.int .i64 i0, .string t1, .int .i64 i2, .slice A3 n3 cap3]) (by simp [results, Try.results8, go_sem, hc1, ha1, hbb1, hcc1]) rfl ⟨[.int .i64 i0, .string t1, .int .i64 i2, .slice A3 n3 cap3], rfl, ?_, (by repeat (first | refine Below.setCell ?_ (by simp; try omega) _ | exact hbw1))⟩
  simp
  exact (OwnVals.lit (OwnVals.lit (OwnVals.lit (OwnVals.cons (fun x => w.heap.size + 1 + 1 + 1 ≤ x ∧ x < w1.heap.size) (fun x => w1.heap.size ≤ x ∧ x < w1.heap.size) (HOWN3.out.same (by repeat (first | refine Same.trans ?_ (Same.setCell _ _ _ _ (by simp; try omega)) | exact Same.refl _ _))) OwnVals.nil (fun x hx => ⟨by omega, by omega⟩) (fun x hx => ⟨by omega, by omega⟩) (fun x hx hy => by omega)))))

set_option maxHeartbeats 1000000 in
theorem szTermS_of (rows : List (List C)) (h : ∀ (i : Nat) r, rows[i]? = some r → szTermC r) : szTermSC rows := by
  intro S v left w hok hv h0 h1
  obtain ⟨A, m, cap, rfl, hm, hmc, hcm⟩ := hv.form
  have H := Lib.hid h
  have HV := Lib.hid hv
  have HM := Lib.hid hm
  have HOK := Lib.hid hok
  clear h hv hm hok
  unfold maxLen at hcm
  by_cases hlt : left - m < 0
  · rw [sub_neg (by have := HM.out; omega)]
    go_enter Try.func26, Try.ntmps26
    go_wp2
    go_ret
    exact ⟨rfl, Below.refl _ _⟩
  · go_enter Try.func26, Try.ntmps26
    go_wp2
    go_loopw [1, 5] (fun l i wr => ∃ k : Nat, k ≤ m ∧ i = .int .i64 k ∧ l = .int .i64 (left - m - (bulkRows (rows.take k) : Int)) ∧ 0 ≤ left - m - (bulkRows (rows.take k) : Int) ∧ Below w.heap.size w wr) (fun _ i _ => m - (intOf i).toNat)
    case atStart => exact ⟨0, Nat.zero_le _, rfl, by simp [bulkRows], by simp [bulkRows]; omega, Below.refl _ _⟩
    case round =>
      obtain ⟨k, hk, rfl, rfl, hl0, hb⟩ := hrel
      by_cases hkm : k < m
      · obtain ⟨b, off, r, rfl, hS, hbz, hget, hokr, hrow⟩ := (HV.out.below hb).get HOK.out hkm
        obtain ⟨u0, u1, u2, u3, c0, c1, c2, c3, hvals⟩ := hrow.vals4 hokr.len
        have HT := H.out k r hget
        have HVALS := Lib.hid hvals
        have HOKR := Lib.hid hokr
        have HBT := Lib.hid (bulk_take hget)
        have hle := bulk_take_le rows (k+1)
        clear hvals hokr hrow hget
        simp only [fieldsOf, termF, occF, sortsF, sigF, moduleF, algF, List.cons_append, List.nil_append, List.length_cons, List.length_nil, Nat.reduceAdd] at c0 c1 c2 c3
        by_cases h2 : left - m - (bulkRows (rows.take k) : Int) < bulkRow r
        · go_wp2_with fail
          refine (HT S _ _ _ HOKR.out HVALS.out (by omega) (by omega)).mono ?_
          rw [sub_neg h2]
          rintro e w' ⟨rfl, hb2⟩
          go_wp2
          go_ret
          exact ⟨ret_int (a := -1) (sub_neg (by have := HBT.out; have := HM.out; omega)).symm, hb.trans (hb2.mono hb.size)⟩
        · go_wp2_with fail
          refine (HT S _ _ _ HOKR.out HVALS.out (by omega) (by omega)).mono ?_
          rw [sub_pos (by omega)]
          rintro e w' ⟨rfl, hb2⟩
          go_wp2
          go_roundw
          case rel => exact ⟨k + 1, by omega, by go_num, by have := HBT.out; congr 1; omega, by have := HBT.out; omega, hb.trans (hb2.mono hb.size)⟩
          case measure => simp [intOf]; omega
      · go_wp2
        go_ret
        have e : k = m := by omega
        subst e
        have : rows.take k = rows := List.take_of_length_le (by have := HM.out; omega)
        rw [this] at hl0 ⊢
        exact ⟨ret_int (by have := HM.out; rw [sub_pos (by omega)]; omega), hb⟩

set_option maxHeartbeats 1000000 in
theorem eqTermS_of (rows : List (List C)) (h : ∀ (i : Nat) r, rows[i]? = some r → eqTermC r) : eqTermSC rows := by
  intro S S' v v' w hok hv hv'
  obtain ⟨A, m, cap, rfl, hm, hmc, hcm⟩ := hv.form
  obtain ⟨A', m', cap', rfl, hm', hmc', hcm'⟩ := hv'.form
  obtain rfl : m = m' := by omega
  have H := Lib.hid h
  have HV := Lib.hid hv
  have HV' := Lib.hid hv'
  have HM := Lib.hid hm
  have HOK := Lib.hid hok
  clear h hv hm hok hm' hv'
  unfold maxLen at hcm hcm'
  go_enter Try.func31, Try.ntmps31
  go_wp2
  go_loopw [5] (fun i wr => ∃ k : Nat, k ≤ m ∧ i = .int .i64 k ∧ Below w.heap.size w wr) (fun i _ => m - (intOf i).toNat)
  case atStart => exact ⟨0, Nat.zero_le _, rfl, Below.refl _ _⟩
  case round =>
    obtain ⟨k, hk, rfl, hb⟩ := hrel
    by_cases hkm : k < m
    · obtain ⟨b, off, r, rfl, hS, hbz, hget, hokr, hrow⟩ := (HV.out.below hb).get HOK.out hkm
      obtain ⟨b', off', r', rfl, hS', hbz', hget', hokr', hrow'⟩ := (HV'.out.below hb).get HOK.out hkm
      obtain rfl : r = r' := by rw [hget] at hget'; exact Option.some.inj hget'
      obtain ⟨u0, u1, u2, u3, c0, c1, c2, c3, hvals⟩ := hrow.vals4 hokr.len
      obtain ⟨x0, x1, x2, x3, d0, d1, d2, d3, hvals'⟩ := hrow'.vals4 hokr.len
      have HT := H.out k r hget
      have HVALS := Lib.hid hvals
      have HVALS' := Lib.hid hvals'
      have HOKR := Lib.hid hokr
      clear hvals hvals' hokr hokr' hrow hrow' hget hget'
      simp only [fieldsOf, termF, occF, sortsF, sigF, moduleF, algF, List.cons_append, List.nil_append, List.length_cons, List.length_nil, Nat.reduceAdd] at c0 c1 c2 c3 d0 d1 d2 d3
      have k0 : (0 : Int) ≤ (k : Int) := by omega
      have k1 : (k : Int) < (m : Int) := by omega
      go_wp2_with fail
      go_region_held3 (fun w' => ∀ b o, b < wr.heap.size → w'.cell? ⟨b, o, none⟩ = wr.cell? ⟨b, o, none⟩) (first | go_keep | exact fun b o h => hb2.cell (p := ⟨b, o, none⟩) h) (first | (go_at_call 11; refine (HT S S' _ _ _ HOKR.out (HVALS.out.below (Below.refl _ _).drew) (HVALS'.out.below (Below.refl _ _).drew)).mono ?_; rintro e w' ⟨rfl, hb2⟩))
      go_wp2
      go_roundw
      case rel => exact ⟨k + 1, by omega, by go_num, hb.trans ((Below.refl _ _).drew.trans (hb2.mono hb.size))⟩
      case measure => simp [intOf]; omega
    · go_wp2
      go_ret
      exact ⟨rfl, hb⟩
theorem info_Term : (Try.prog.info? 29).map (fun i => (i.zero, i.size, i.bytes)) = some (some (.agg #[.int .i64 0, .string .empty, .int .i64 0, .slice none 0 0]), 4, 56) := by kernel_rfl
set_option maxHeartbeats 1000000 in
theorem toTermS_of (rows : List (List C)) (h : ∀ (i : Nat) r, rows[i]? = some r → toTermC r) : toTermSC rows := by
  intro S v w hok hv hlen
  obtain ⟨A, m, cap, rfl, hm, hmc, hcm⟩ := hv.form
  obtain ⟨i0, hi, hz0, hz1, hz2⟩ := info_parts info_Term
  have H := Lib.hid h
  have HV := Lib.hid hv
  have HM := Lib.hid hm
  have HOK := Lib.hid hok
  have hml : m ≤ 1048576 := by omega
  clear h hv hm hok
  unfold maxLen at hcm
  have hmk := run_make (P := Try.prog) w 27 29 i0 _ Try.underlying27 hi hz0 .i64 .i64 (m : Int) (m : Int) (by omega) (by omega) (by rw [hz2]; omega) (by omega)
  go_enter Try.func29, Try.ntmps29
  go_wp2
  clear hmk
  go_loopw [4] (fun i wr => ∃ k : Nat, k ≤ m ∧ i = .int .i64 k ∧ Filling w w.heap.size 29 m 4 rows k wr) (fun i _ => m - (intOf i).toNat)
  case atStart => exact ⟨0, Nat.zero_le _, rfl, Filling.start (size_madeCells _ _)⟩
  case round =>
    obtain ⟨k, hk, rfl, hfill⟩ := hrel
    have hb := hfill.1
    by_cases hkm : k < m
    · obtain ⟨b, off, r, rfl, hS, hbz, hget, hokr, hrow⟩ := (HV.out.below hb).get HOK.out hkm
      obtain ⟨u0, u1, u2, u3, c0, c1, c2, c3, hvals⟩ := hrow.vals4 hokr.len
      have HT := H.out k r hget
      have HVALS := Lib.hid hvals
      have HOKR := Lib.hid hokr
      have HGET := Lib.hid hget
      have HF := Lib.hid hfill
      have hbg := bulk_get hget
      clear hvals hokr hrow hget hfill
      simp only [fieldsOf, termF, occF, sortsF, sigF, moduleF, algF, List.cons_append, List.nil_append, List.length_cons, List.length_nil, Nat.reduceAdd] at c0 c1 c2 c3
      go_wp2_with fail
      refine (HT S _ _ HOKR.out HVALS.out (by omega)).mono ?_
      rintro e w2 ⟨us, rfl, hown, hb2⟩
      have hone := HOKR.out.one (OwnVals.rep _ _ (fun _ => True) _ (fun _ _ => trivial) hown)
      obtain ⟨y0, y1, y2, y3, rfl⟩ := len4 (hown.len.trans HOKR.out.len)
      have HOWN := Lib.hid hown
      have HONE := Lib.hid hone
      obtain ⟨cur, hcur, hcs⟩ := HF.out.row hb2
      have HCUR := Lib.hid hcur
      have HCS := Lib.hid hcs
      clear hown hone hcur hcs
      go_wp2_with (refine wpList_store_put rfl 29 _ _ rfl w.heap.size (k * 4) rfl [y0, y1, y2, y3] rfl i0 hi hz1 29 cur HCUR.out (by have := HCS.out; simp only [List.length_cons, List.length_nil]; omega) HONE.out ?_; intro w3 hput)
      go_roundw
      case rel => exact ⟨k + 1, by omega, by go_num, HF.out.step (fs := fieldsOf .term) HOK.out HGET.out hb2 HOWN.out hput⟩
      case measure => simp [intOf]; omega
    · go_wp2
      go_ret
      have e : k = m := by omega
      subst e
      exact ⟨_, rfl, hfill.done HM.out (by unfold maxLen; omega)⟩
theorem szTermS_all (n : Nat) : ∀ rows, nodesRows rows < n → szTermSC rows := by
  induction n with
  | zero => intro rows h; omega
  | succ n ih => exact fun rows h => szTermS_of rows (fun i r hr => szTerm_of r (fun rows' h' => ih rows' (by have := nodes_get hr; omega)))
theorem szTermS_any (rows : List (List C)) : szTermSC rows := szTermS_all _ rows (Nat.lt_succ_self _)
theorem szTerm_any (row : List C) : szTermC row := szTerm_of row (fun rows _ => szTermS_any rows)
theorem eqTermS_all (n : Nat) : ∀ rows, nodesRows rows < n → eqTermSC rows := by
  induction n with
  | zero => intro rows h; omega
  | succ n ih => exact fun rows h => eqTermS_of rows (fun i r hr => eqTerm_of r (fun rows' h' => ih rows' (by have := nodes_get hr; omega)))
theorem eqTermS_any (rows : List (List C)) : eqTermSC rows := eqTermS_all _ rows (Nat.lt_succ_self _)
theorem eqTerm_any (row : List C) : eqTermC row := eqTerm_of row (fun rows _ => eqTermS_any rows)
theorem toTermS_all (n : Nat) : ∀ rows, nodesRows rows < n → toTermSC rows := by
  induction n with
  | zero => intro rows h; omega
  | succ n ih => exact fun rows h => toTermS_of rows (fun i r hr => toTerm_of r (fun rows' h' => ih rows' (by have := nodes_get hr; omega)))
theorem toTermS_any (rows : List (List C)) : toTermSC rows := toTermS_all _ rows (Nat.lt_succ_self _)
theorem toTerm_any (row : List C) : toTermC row := toTerm_of row (fun rows _ => toTermS_any rows)
end Go.Proofs.Ytiglacjigkcgkaa
