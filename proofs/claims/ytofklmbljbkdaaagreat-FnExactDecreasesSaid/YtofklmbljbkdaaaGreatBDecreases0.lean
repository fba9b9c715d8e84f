/-
  Part of a proof: Open2, LWeight, Wp, Iw, Wx, Iw2, Pw, Al, QcWeightS.
-/
import Derived.Test.YtofklmbljbkdaaaGreatBBase0
import Derived.Test.YtofklmbljbkdaaaGreatBBase1
import Derived.Test.YtofklmbljbkdaaaGreatBBase2
import Derived.Test.YtofklmbljbkdaaaGreatBBase3
import Derived.Test.YtofklmbljbkdaaaGreatBBase4
import Derived.Test.YtofklmbljbkdaaaGreatRows
import Derived.Deep.RegionHeld3
set_option linter.unusedSimpArgs false
set_option linter.unusedVariables false
namespace Go.Proofs.YtofklmbljbkdaaaGreat
open Go.ChangeShapes Go.WideShapes Go.ChangeAt Go.RowKit Go.Deep
theorem okWide_one {P : Program} {w : World} {r : Reach} {base : Nat} {t e : TypeId} {v : Value} (ht : P.underlying t = some (.slice e)) (h : Value.okWide P w r base t v) : v.cells.toList = [v] := by
  simp only [Value.okWide, ht] at h
  cases v <;> first
    | rfl
    | (exfalso; simp [Cell.okWide, ht, Cell.ok] at h)
theorem open_sl {w : World} {tn : TN} {row : List C} {v : Value} (hok : okRow [.sl tn] row) (h : RepVals w (fun _ => True) row [v]) : ∃ rows, okRows (fieldsOf tn) rows ∧ Rep w (fun _ => True) (.sl rows) v := by
  match row, hok, h with
  | [c], hok, h =>
    simp only [okRow] at hok
    obtain ⟨rows, rfl, hr⟩ := okC_sl hok.1
    simp only [RepVals] at h
    exact ⟨rows, hr, h.1⟩
end Go.Proofs.YtofklmbljbkdaaaGreat
namespace Go.Proofs.YtofklmbljbkdaaaGreat
open Go.RowKit
theorem okRow_Weight {r : List C} (h : okRow (fieldsOf .weight) r) : ∃ (i0 : Int) (r1 : List (List C)), r = [.lit (.int .i64 i0), .sl r1] ∧ I64 i0 ∧ okRows (fieldsOf .int) r1 := by
  obtain ⟨c0, c1, rfl⟩ := len2 h.len
  simp only [fieldsOf, termF, occF, sortsF, sigF, moduleF, algF, List.cons_append, List.nil_append, okRow, and_true] at h
  obtain ⟨h0, h1⟩ := h
  obtain ⟨i0, rfl, g0⟩ := okC_int h0
  obtain ⟨r1, rfl, g1⟩ := okC_sl h1
  exact ⟨i0, r1, rfl, g0, g1⟩
theorem repVals_Weight {w : World} {S : Nat → Prop} {i0 : Int} {r1 : List (List C)} {us : List Value} (h : RepVals w S [.lit (.int .i64 i0), .sl r1] us) : ∃ v1, us = [.int .i64 i0, v1] ∧ Rep w S (.sl r1) v1 := by
  obtain ⟨u0, u1, rfl⟩ := len2 h.len
  simp only [RepVals, Rep.lit_iff, and_true] at h
  obtain ⟨rfl, e1⟩ := h
  exact ⟨u1, rfl, e1⟩
def szWeightC (row : List C) : Prop := ∀ (S : Nat → Prop) (us : List Value) (left : Int) (w : World), okRow (fieldsOf .weight) row → RepVals w S row us → 0 ≤ left → left ≤ 1048576 →
  Calls Tryz.prog 68 #[.agg us.toArray, .int .i64 left] w fun e w' => e = .returned (.int .i64 (sub left (bulkRow row))) ∧ Below w.heap.size w w'
def eqWeightC (row : List C) : Prop := ∀ (S S' : Nat → Prop) (us us' : List Value) (w : World), okRow (fieldsOf .weight) row → RepVals w S row us → RepVals w S' row us' →
  Calls Tryz.prog 74 #[.agg us.toArray, .agg us'.toArray] w fun e w' => e = .returned (.bool true) ∧ Below w.heap.size w w'
def toWeightC (row : List C) : Prop := ∀ (S : Nat → Prop) (us : List Value) (w : World), okRow (fieldsOf .weight) row → RepVals w S row us → bulkRow row ≤ 1048576 →
  Calls Tryz.prog 71 #[.agg us.toArray] w fun e w' => ∃ us' : List Value, e = .returned (.agg us'.toArray) ∧ OwnVals w' row (fun x => w.heap.size ≤ x ∧ x < w'.heap.size) us' ∧ Below w.heap.size w w'
def szWeightSC (rows : List (List C)) : Prop := ∀ (S : Nat → Prop) (v : Value) (left : Int) (w : World), okRows (fieldsOf .weight) rows → Rep w S (.sl rows) v → 0 ≤ left → left ≤ 1048576 →
  Calls Tryz.prog 18 #[v, .int .i64 left] w fun e w' => e = .returned (.int .i64 (sub left (rows.length + bulkRows rows))) ∧ Below w.heap.size w w'
def eqWeightSC (rows : List (List C)) : Prop := ∀ (S S' : Nat → Prop) (v v' : Value) (w : World), okRows (fieldsOf .weight) rows → Rep w S (.sl rows) v → Rep w S' (.sl rows) v' →
  Calls Tryz.prog 22 #[v, v'] w fun e w' => e = .returned (.bool true) ∧ Below w.heap.size w w'
def toWeightSC (rows : List (List C)) : Prop := ∀ (S : Nat → Prop) (v : Value) (w : World), okRows (fieldsOf .weight) rows → Rep w S (.sl rows) v → rows.length + bulkRows rows ≤ 1048576 →
  Calls Tryz.prog 20 #[v] w fun e w' => ∃ v', e = .returned v' ∧ Own w' (.sl rows) (fun x => w.heap.size ≤ x ∧ x < w'.heap.size) v' ∧ Below w.heap.size w w'
set_option maxHeartbeats 1000000 in
theorem szWeight_of (row : List C) : szWeightC row := by
  intro S us left w hok hv h0 h1
  obtain ⟨i0, r1, rfl, g0, g1⟩ := okRow_Weight hok
  obtain ⟨v1, rfl, e1⟩ := repVals_Weight hv
  have HC1 := Lib.hid (szIntS_any r1)
  have HB := Lib.hid (show bulkRow [.lit (.int .i64 i0), .sl r1] = (r1.length + bulkRows r1) from by simp only [bulkRow, bulkC]; omega)
  have G0 := Lib.hid g0
  have G1 := Lib.hid g1
  clear g0 g1 hok
  have E1 := Lib.hid e1
  clear hv e1
  generalize hrow : bulkRow [.lit (.int .i64 i0), .sl r1] = total at HB ⊢
  clear hrow
  have hbw := (Below.refl w.heap.size w).alloc (Nat.le_refl _) (.cells #[.int .i64 i0, v1] 121)
  go_enter Tryz.func68, Tryz.ntmps68
  go_wp2_with fail
  by_cases q1 : left < ((r1.length + bulkRows r1) : Nat)
  · refine (HC1.out S _ _ _ G1.out (E1.out.below hbw) (by omega) (by omega)).mono ?_
    rw [sub_neg (by omega)]
    rintro e w1 ⟨rfl, hb1⟩
    go_wp2
    go_ret
    exact ⟨ret_int (a := -1) (sub_neg (by have := HB.out; omega)).symm, hbw.trans (hb1.mono hbw.size)⟩
  refine (HC1.out S _ _ _ G1.out (E1.out.below hbw) (by omega) (by omega)).mono ?_
  rw [sub_pos (by omega)]
  rintro e w1 ⟨rfl, hb1⟩
  obtain ⟨hc1, hf1⟩ := bcell hb1
  have hz1 : w.heap.size < w1.heap.size := (by have := hb1.size; (try simp at this); omega)
  replace hbw := hbw.trans (hb1.mono hbw.size)
  go_wp2
  go_ret
  exact ⟨ret_int (by have := HB.out; rw [sub_pos (by omega)]; omega), hbw⟩
set_option maxHeartbeats 1000000 in
theorem eqWeight_of (row : List C) : eqWeightC row := by
  intro S S' us us' w hok hv hv'
  obtain ⟨i0, r1, rfl, g0, g1⟩ := okRow_Weight hok
  obtain ⟨v1, rfl, e1⟩ := repVals_Weight hv
  obtain ⟨x1, rfl, d1⟩ := repVals_Weight hv'
  have HC1 := Lib.hid (eqIntS_any r1)
  have G0 := Lib.hid g0
  have G1 := Lib.hid g1
  clear g0 g1 hok
  have E1 := Lib.hid e1
  have D1 := Lib.hid d1
  clear hv hv' e1 d1
  have hbw := ((Below.refl w.heap.size w).alloc (Nat.le_refl _) (.cells #[.int .i64 i0, v1] 124)).alloc (by simp) (.cells #[.int .i64 i0, x1] 124)
  go_enter Tryz.func74, Tryz.ntmps74
  go_wp2_with fail
  refine (HC1.out S S' _ _ _ G1.out (E1.out.below hbw) (D1.out.below hbw)).mono ?_
  rintro e w1 ⟨rfl, hb1⟩
  obtain ⟨hc1, hf1⟩ := bcell hb1
  have hz1 : w.heap.size + 1 < w1.heap.size := (by have := hb1.size; (try simp at this); omega)
  have ha1 : w.heap.size < w1.heap.size := by omega
  replace hbw := hbw.trans (hb1.mono hbw.size)
  go_wp2
  go_ret
  exact ⟨rfl, hbw⟩
set_option maxHeartbeats 2000000 in
theorem toWeight_of (row : List C) : toWeightC row := by
  intro S us w hok hv hlen
  obtain ⟨i0, r1, rfl, g0, g1⟩ := okRow_Weight hok
  obtain ⟨v1, rfl, e1⟩ := repVals_Weight hv
  have HC1 := Lib.hid (toIntS_any r1)
  have G0 := Lib.hid g0
  have G1 := Lib.hid g1
  clear g0 g1 hok
  have E1 := Lib.hid e1
  clear hv e1
  have hl1 : (r1.length + bulkRows r1) ≤ 1048576 := by
    have e : (r1.length + bulkRows r1) ≤ bulkRow [.lit (.int .i64 i0), .sl r1] := by simp only [bulkRow, bulkC]; omega
    exact Nat.le_trans e hlen
  clear hlen
  go_enter Tryz.func71, Tryz.ntmps71
  go_wp2_with fail
  refine (HC1.out S _ _ G1.out (by exact E1.out.below (by repeat (first | refine Below.alloc ?_ (by simp; try omega) _ | exact Below.refl _ _))) hl1).mono ?_
  rintro e w1 ⟨y1, rfl, hown1, hb1⟩
  obtain ⟨A1, n1, cap1, rfl, _, _, _⟩ := (Own.rep _ _ _ hown1).form
  have hz1 := hb1.size
  simp at hz1 hown1
  have HOWN1 := Lib.hid hown1
  clear hown1
  have hbw1 : Below w.heap.size w w1 := Below.trans (by repeat (first | refine Below.alloc ?_ (by simp; try omega) _ | exact Below.refl _ _)) (hb1.mono (by simp; try omega))
  obtain ⟨hc1, hf1⟩ := bcell hb1
  have ha1 : w.heap.size < w1.heap.size := by omega
  have hbb1 : w.heap.size + 1 < w1.heap.size := by omega
  have hcc1 : w.heap.size + 1 + 1 < w1.heap.size := by omega
  go_wp2
  refine bodyPost_ret (v := .agg #[.int .i64 i0, .slice A1 n1 cap1]) (by simp [results, Tryz.results71, go_sem, hc1, ha1, hbb1, hcc1]) rfl ⟨[.int .i64 i0, .slice A1 n1 cap1], rfl, ?_, (by repeat (first | refine Below.setCell ?_ (by simp; try omega) _ | exact hbw1))⟩
  simp
  exact (OwnVals.lit (OwnVals.cons (fun x => w.heap.size + 1 + 1 + 1 ≤ x ∧ x < w1.heap.size) (fun x => w1.heap.size ≤ x ∧ x < w1.heap.size) (HOWN1.out.same (by repeat (first | refine Same.trans ?_ (Same.setCell _ _ _ _ (by simp; try omega)) | exact Same.refl _ _))) OwnVals.nil (fun x hx => ⟨by omega, by omega⟩) (fun x hx => ⟨by omega, by omega⟩) (fun x hx hy => by omega)))
theorem szWeight_any (row : List C) : szWeightC row := szWeight_of row
theorem eqWeight_any (row : List C) : eqWeightC row := eqWeight_of row
theorem toWeight_any (row : List C) : toWeightC row := toWeight_of row
set_option maxHeartbeats 1000000 in
theorem szWeightS_of (rows : List (List C)) (h : ∀ (i : Nat) r, rows[i]? = some r → szWeightC r) : szWeightSC rows := by
  intro S v left w hok hv h0 h1
  obtain ⟨A, m, cap, rfl, hm, hmc, hcm⟩ := hv.form
  have H := Lib.hid h
  have HV := Lib.hid hv
  have HM := Lib.hid hm
  have HOK := Lib.hid hok
  clear h hv hm hok
  unfold maxLen at hcm
  by_cases hlt : left - m < 0
  · rw [sub_neg (by have := HM.out; omega)]
    go_enter Tryz.func18, Tryz.ntmps18
    go_wp2
    go_ret
    exact ⟨rfl, Below.refl _ _⟩
  · go_enter Tryz.func18, Tryz.ntmps18
    go_wp2
    go_loopw [1, 5] (fun l i wr => ∃ k : Nat, k ≤ m ∧ i = .int .i64 k ∧ l = .int .i64 (left - m - (bulkRows (rows.take k) : Int)) ∧ 0 ≤ left - m - (bulkRows (rows.take k) : Int) ∧ Below w.heap.size w wr) (fun _ i _ => m - (intOf i).toNat)
    case atStart => exact ⟨0, Nat.zero_le _, rfl, by simp [bulkRows], by simp [bulkRows]; omega, Below.refl _ _⟩
    case round =>
      obtain ⟨k, hk, rfl, rfl, hl0, hb⟩ := hrel
      by_cases hkm : k < m
      · obtain ⟨b, off, r, rfl, hS, hbz, hget, hokr, hrow⟩ := (HV.out.below hb).get HOK.out hkm
        obtain ⟨u0, u1, c0, c1, hvals⟩ := hrow.vals2 hokr.len
        have HT := H.out k r hget
        have HVALS := Lib.hid hvals
        have HOKR := Lib.hid hokr
        have HBT := Lib.hid (bulk_take hget)
        have hle := bulk_take_le rows (k+1)
        clear hvals hokr hrow hget
        simp only [fieldsOf, termF, occF, sortsF, sigF, moduleF, algF, List.cons_append, List.nil_append, List.length_cons, List.length_nil, Nat.reduceAdd, Nat.mul_one] at c0 c1
        by_cases h2 : left - m - (bulkRows (rows.take k) : Int) < bulkRow r
        · go_wp2_with fail
          refine (HT S _ _ _ HOKR.out HVALS.out (by omega) (by omega)).mono ?_
          rw [sub_neg h2]
          rintro e w' ⟨rfl, hb2⟩
          go_wp2
          go_ret
          exact ⟨ret_int (a := -1) (sub_neg (by have := HBT.out; have := HM.out; omega)).symm, hb.trans (hb2.mono hb.size)⟩
        · go_wp2_with fail
          refine (HT S _ _ _ HOKR.out HVALS.out (by omega) (by omega)).mono ?_
          rw [sub_pos (by omega)]
          rintro e w' ⟨rfl, hb2⟩
          go_wp2
          go_roundw
          case rel => exact ⟨k + 1, by omega, by go_num, by have := HBT.out; congr 1; omega, by have := HBT.out; omega, hb.trans (hb2.mono hb.size)⟩
          case measure => simp [intOf]; omega
      · go_wp2
        go_ret
        have e : k = m := by omega
        subst e
        have : rows.take k = rows := List.take_of_length_le (by have := HM.out; omega)
        rw [this] at hl0 ⊢
        exact ⟨ret_int (by have := HM.out; rw [sub_pos (by omega)]; omega), hb⟩
set_option maxHeartbeats 1000000 in
theorem eqWeightS_of (rows : List (List C)) (h : ∀ (i : Nat) r, rows[i]? = some r → eqWeightC r) : eqWeightSC rows := by
  intro S S' v v' w hok hv hv'
  obtain ⟨A, m, cap, rfl, hm, hmc, hcm⟩ := hv.form
  obtain ⟨A', m', cap', rfl, hm', hmc', hcm'⟩ := hv'.form
  obtain rfl : m = m' := by omega
  have H := Lib.hid h
  have HV := Lib.hid hv
  have HV' := Lib.hid hv'
  have HM := Lib.hid hm
  have HOK := Lib.hid hok
  clear h hv hm hok hm' hv'
  unfold maxLen at hcm hcm'
  go_enter Tryz.func22, Tryz.ntmps22
  go_wp2
  go_loopw [5] (fun i wr => ∃ k : Nat, k ≤ m ∧ i = .int .i64 k ∧ Below w.heap.size w wr) (fun i _ => m - (intOf i).toNat)
  case atStart => exact ⟨0, Nat.zero_le _, rfl, Below.refl _ _⟩
  case round =>
    obtain ⟨k, hk, rfl, hb⟩ := hrel
    by_cases hkm : k < m
    · obtain ⟨b, off, r, rfl, hS, hbz, hget, hokr, hrow⟩ := (HV.out.below hb).get HOK.out hkm
      obtain ⟨b', off', r', rfl, hS', hbz', hget', hokr', hrow'⟩ := (HV'.out.below hb).get HOK.out hkm
      obtain rfl : r = r' := by rw [hget] at hget'; exact Option.some.inj hget'
      obtain ⟨u0, u1, c0, c1, hvals⟩ := hrow.vals2 hokr.len
      obtain ⟨x0, x1, d0, d1, hvals'⟩ := hrow'.vals2 hokr.len
      have HT := H.out k r hget
      have HVALS := Lib.hid hvals
      have HVALS' := Lib.hid hvals'
      have HOKR := Lib.hid hokr
      clear hvals hvals' hokr hokr' hrow hrow' hget hget'
      simp only [fieldsOf, termF, occF, sortsF, sigF, moduleF, algF, List.cons_append, List.nil_append, List.length_cons, List.length_nil, Nat.reduceAdd, Nat.mul_one] at c0 c1 d0 d1
      have k0 : (0 : Int) ≤ (k : Int) := by omega
      have k1 : (k : Int) < (m : Int) := by omega
      go_wp2_with fail
      go_region_held3 (fun w' => ∀ b o, b < wr.heap.size → w'.cell? ⟨b, o, none⟩ = wr.cell? ⟨b, o, none⟩) (first | go_keep | exact fun b o h => hb2.cell (p := ⟨b, o, none⟩) h) (first | (go_at_call 74; refine (HT S S' _ _ _ HOKR.out (HVALS.out.below (Below.refl _ _).drew) (HVALS'.out.below (Below.refl _ _).drew)).mono ?_; rintro e w' ⟨rfl, hb2⟩))
      go_wp2
      go_roundw
      case rel => exact ⟨k + 1, by omega, by go_num, hb.trans ((Below.refl _ _).drew.trans (hb2.mono hb.size))⟩
      case measure => simp [intOf]; omega
    · go_wp2
      go_ret
      exact ⟨rfl, hb⟩
theorem info_Weight : (Tryz.prog.info? 124).map (fun i => (i.zero, i.size, i.bytes)) = some (some (.agg #[.int .i64 0, .slice none 0 0]), 2, 32) := by kernel_rfl
set_option maxHeartbeats 1000000 in
theorem toWeightS_of (rows : List (List C)) (h : ∀ (i : Nat) r, rows[i]? = some r → toWeightC r) : toWeightSC rows := by
  intro S v w hok hv hlen
  obtain ⟨A, m, cap, rfl, hm, hmc, hcm⟩ := hv.form
  obtain ⟨i0, hi, hz0, hz1, hz2⟩ := info_parts info_Weight
  have H := Lib.hid h
  have HV := Lib.hid hv
  have HM := Lib.hid hm
  have HOK := Lib.hid hok
  have hml : m ≤ 1048576 := by omega
  clear h hv hm hok
  unfold maxLen at hcm
  have hmk := run_make (P := Tryz.prog) w 56 124 i0 _ Tryz.underlying56 hi hz0 .i64 .i64 (m : Int) (m : Int) (by omega) (by omega) (by rw [hz2]; omega) (by omega)
  go_enter Tryz.func20, Tryz.ntmps20
  go_wp2
  clear hmk
  go_loopw [4] (fun i wr => ∃ k : Nat, k ≤ m ∧ i = .int .i64 k ∧ Filling w w.heap.size 124 m 2 rows k wr) (fun i _ => m - (intOf i).toNat)
  case atStart => exact ⟨0, Nat.zero_le _, rfl, Filling.start (size_madeCells _ _)⟩
  case round =>
    obtain ⟨k, hk, rfl, hfill⟩ := hrel
    have hb := hfill.1
    by_cases hkm : k < m
    · obtain ⟨b, off, r, rfl, hS, hbz, hget, hokr, hrow⟩ := (HV.out.below hb).get HOK.out hkm
      obtain ⟨u0, u1, c0, c1, hvals⟩ := hrow.vals2 hokr.len
      have HT := H.out k r hget
      have HVALS := Lib.hid hvals
      have HOKR := Lib.hid hokr
      have HGET := Lib.hid hget
      have HF := Lib.hid hfill
      have hbg := bulk_get hget
      clear hvals hokr hrow hget hfill
      simp only [fieldsOf, termF, occF, sortsF, sigF, moduleF, algF, List.cons_append, List.nil_append, List.length_cons, List.length_nil, Nat.reduceAdd, Nat.mul_one] at c0 c1
      go_wp2_with fail
      refine (HT S _ _ HOKR.out HVALS.out (by omega)).mono ?_
      rintro e w2 ⟨us, rfl, hown, hb2⟩
      have hone := HOKR.out.one (OwnVals.rep _ _ (fun _ => True) _ (fun _ _ => trivial) hown)
      obtain ⟨y0, y1, rfl⟩ := len2 (hown.len.trans HOKR.out.len)
      have HOWN := Lib.hid hown
      have HONE := Lib.hid hone
      obtain ⟨cur, hcur, hcs⟩ := HF.out.row hb2
      have HCUR := Lib.hid hcur
      have HCS := Lib.hid hcs
      clear hown hone hcur hcs
      go_wp2_with (refine wpList_store_put rfl 124 _ _ rfl w.heap.size (k * 2) rfl [y0, y1] rfl i0 hi hz1 124 cur HCUR.out (by have := HCS.out; simp only [List.length_cons, List.length_nil]; omega) HONE.out ?_; intro w3 hput)
      go_roundw
      case rel => exact ⟨k + 1, by omega, by go_num, HF.out.step (fs := fieldsOf .weight) HOK.out HGET.out hb2 HOWN.out hput⟩
      case measure => simp [intOf]; omega
    · go_wp2
      go_ret
      have e : k = m := by omega
      subst e
      exact ⟨_, rfl, hfill.done HM.out (by unfold maxLen; omega) (by decide) HOK.out.lens⟩
theorem szWeightS_any (rows : List (List C)) : szWeightSC rows := szWeightS_of rows (fun _ r _ => szWeight_any r)
theorem eqWeightS_any (rows : List (List C)) : eqWeightSC rows := eqWeightS_of rows (fun _ r _ => eqWeight_any r)
theorem toWeightS_any (rows : List (List C)) : toWeightSC rows := toWeightS_of rows (fun _ r _ => toWeight_any r)
end Go.Proofs.YtofklmbljbkdaaaGreat
namespace Go.Proofs.YtofklmbljbkdaaaGreat
open Go.RowKit
structure Wt where
  const : Int
  coefs : List Int
def encWt (x : Wt) : List C := [.lit (.int .i64 x.const), .sl (x.coefs.map encInt)]
theorem encWt_u : ∀ x, encWt x = [.lit (.int .i64 x.const), .sl (x.coefs.map encInt)] := fun _ => rfl
def okWt (x : Wt) : Prop := I64 x.const ∧ ∀ c ∈ x.coefs, I64 c
theorem decWt : ∀ row, okRow (fieldsOf .weight) row → ∃ a, row = encWt a ∧ okWt a := fun row h => by
  obtain ⟨i0, r1, rfl, g0, g1⟩ := okRow_Weight h
  obtain ⟨l, rfl, hl⟩ := decL decInt g1
  exact ⟨⟨i0, l⟩, rfl, g0, hl⟩
theorem rb_wt (l : List Wt) : rowsB 2 (l.map encWt) = true := rowsB_map (e := encWt) (n := 2) (fun _ => rfl) l
structure WtOk (ws : List Wt) (o : Opr) (x : Wt) : Prop where
  lo : 0 ≤ x.const
  hi : x.const ≤ 100
  len : ∀ d, o.decls[0]? = some d → x.coefs.length = d.args.length
  all : ∀ c ∈ x.coefs, 1 ≤ c ∧ c ≤ 100
  comm : o.comm = true → x.coefs[0]? = x.coefs[1]?
  one : (o.assoc = true ∨ o.unit ≠ 0) → ∀ c ∈ x.coefs, c = 1
  unit : o.unit ≠ 0 → x.const = 0 ∧ ∀ u, ws[o.unit.toNat - 1]? = some u → u.const = 0
structure InOk (g : Sgn) (ws : List Wt) : Prop where
  sgn : SgnOk g
  len : ws.length = g.ops.length
  all : ∀ (i : Nat) (o : Opr) (x : Wt), g.ops[i]? = some o → ws[i]? = some x → WtOk ws o x
open Classical in
noncomputable def isIn (g : Sgn) (ws : List Wt) : Bool := decide (InOk g ws)
theorem isIn_true {g : Sgn} {ws : List Wt} (h : InOk g ws) : isIn g ws = true := by simp [isIn, h]
theorem isIn_false {g : Sgn} {ws : List Wt} (h : ¬ InOk g ws) : isIn g ws = false := by simp [isIn, h]
theorem isIn_iff {g : Sgn} {ws : List Wt} : isIn g ws = true ↔ InOk g ws := by simp [isIn]
def sumW (cf : Nat → Int) (b : Int) (ks : List Int) : Nat → Int
  | 0 => b
  | i + 1 => sumW cf b ks i + cf i * ks.getD i 0
def cfW (g : Sgn) (ws : List Wt) (op : Int) (i : Nat) : Int := if isAs g op = true then 1 else ((ws[op.toNat]?.map (·.coefs)).getD []).getD i 0
def bsW (g : Sgn) (ws : List Wt) (op : Int) (n : Nat) : Int := ((ws[op.toNat]?.map (·.const)).getD 0) * (if isAs g op = true then (n : Int) - 1 else 1)
mutual
def wN (g : Sgn) (ws : List Wt) : Tm → Int
  | .mk op _ _ args => if op < 0 then 0 else sumW (cfW g ws op) (bsW g ws op args.length) (wNs g ws args) args.length
def wNs (g : Sgn) (ws : List Wt) : List Tm → List Int
  | [] => []
  | t :: ts => wN g ws t :: wNs g ws ts
end
mutual
def wF (g : Sgn) (ws : List Wt) (v : Tm) : Tm → Int
  | .mk op nm so args => if op < 0 then (if cmpTm v (.mk op nm so args) = 0 then 1 else 0) else sumW (cfW g ws op) 0 (wFs g ws v args) args.length
def wFs (g : Sgn) (ws : List Wt) (v : Tm) : List Tm → List Int
  | [] => []
  | t :: ts => wF g ws v t :: wFs g ws v ts
end
theorem wNs_eq (g : Sgn) (ws : List Wt) : ∀ ts : List Tm, wNs g ws ts = ts.map (wN g ws)
  | [] => rfl
  | t :: ts => by rw [wNs, wNs_eq g ws ts, List.map_cons]
theorem wFs_eq (g : Sgn) (ws : List Wt) (v : Tm) : ∀ ts : List Tm, wFs g ws v ts = ts.map (wF g ws v)
  | [] => rfl
  | t :: ts => by rw [wFs, wFs_eq g ws v ts, List.map_cons]
def pWn (g : Sgn) (ws : List Wt) (t : Tm) (i : Nat) : Int := sumW (cfW g ws t.op) (bsW g ws t.op t.args.length) (t.args.map (wN g ws)) i
def pWf (g : Sgn) (ws : List Wt) (v t : Tm) (i : Nat) : Int := sumW (cfW g ws t.op) 0 (t.args.map (wF g ws v)) i
theorem wN_var {g : Sgn} {ws : List Wt} {t : Tm} (h : t.op < 0) : wN g ws t = 0 := by
  obtain ⟨op, nm, so, args⟩ := t
  simp only [Tm.op] at h
  rw [wN, if_pos h]
theorem wF_var {g : Sgn} {ws : List Wt} {v t : Tm} (h : t.op < 0) : wF g ws v t = if cmpTm v t = 0 then 1 else 0 := by
  obtain ⟨op, nm, so, args⟩ := t
  simp only [Tm.op] at h
  rw [wF, if_pos h]
theorem wN_app {g : Sgn} {ws : List Wt} {t : Tm} (h : ¬ t.op < 0) : wN g ws t = pWn g ws t t.args.length := by
  obtain ⟨op, nm, so, args⟩ := t
  simp only [Tm.op] at h
  rw [wN, if_neg h, wNs_eq]
  rfl
theorem wF_app {g : Sgn} {ws : List Wt} {v t : Tm} (h : ¬ t.op < 0) : wF g ws v t = pWf g ws v t t.args.length := by
  obtain ⟨op, nm, so, args⟩ := t
  simp only [Tm.op] at h
  rw [wF, if_neg h, wFs_eq]
  rfl
theorem sumW_mono {cf : Nat → Int} {b : Int} {ks : List Int} {n : Nat} (hc : ∀ i, i < n → 0 ≤ cf i) (hk : ∀ k ∈ ks, 0 ≤ k) : ∀ {i j : Nat}, i ≤ j → j ≤ n → sumW cf b ks i ≤ sumW cf b ks j := by
  intro i j hij hj
  induction j with
  | zero =>
    obtain rfl : i = 0 := by omega
    exact Int.le_refl _
  | succ j ih =>
    by_cases h : i = j + 1
    · subst h; exact Int.le_refl _
    have h1 := ih (by omega) (by omega)
    have h2 : 0 ≤ ks.getD j 0 := by
      rw [List.getD_eq_getElem?_getD]
      rcases hq : ks[j]? with _ | k
      · exact Int.le_refl _
      · exact hk k (List.mem_of_getElem? hq)
    have h3 := Int.mul_nonneg (hc j (by omega)) h2
    simp only [sumW]
    omega
theorem pWn_step {g : Sgn} {ws : List Wt} {t u : Tm} {i : Nat} (h : t.args[i]? = some u) : pWn g ws t (i + 1) = pWn g ws t i + cfW g ws t.op i * wN g ws u := by
  rw [pWn, sumW, List.getD_eq_getElem?_getD, List.getElem?_map, h]
  rfl
theorem pWf_step {g : Sgn} {ws : List Wt} {v t u : Tm} {i : Nat} (h : t.args[i]? = some u) : pWf g ws v t (i + 1) = pWf g ws v t i + cfW g ws t.op i * wF g ws v u := by
  rw [pWf, sumW, List.getD_eq_getElem?_getD, List.getElem?_map, h]
  rfl
structure CfOk (cf : Nat → Int) (n : Nat) : Prop where
  all : ∀ i, i < n → 1 ≤ cf i ∧ cf i ≤ 100
theorem cf_ok {g : Sgn} {ws : List Wt} {t : Tm} {o : Opr} {d : Dcl} (hI : InOk g ws) (h : AppOk g t o d) : CfOk (cfW g ws t.op) t.args.length ∧ 0 ≤ bsW g ws t.op t.args.length ∧ bsW g ws t.op t.args.length ≤ 700 := by
  have h0 := h.lo
  have hat := h.at'
  have has : isAs g t.op = o.assoc := by simp [isAs, hat]
  obtain ⟨x, hx⟩ : ∃ x, ws[t.op.toNat]? = some x := ⟨_, List.getElem?_eq_getElem (by rw [hI.len]; exact (List.getElem?_eq_some_iff.1 hat).1)⟩
  have hw := hI.all _ o x hat hx
  have hlo := hw.lo
  have hhi := hw.hi
  refine ⟨⟨fun i hi => ?_⟩, ?_⟩
  · rw [cfW, has]
    cases hac : o.assoc with
    | true => simp
    | false =>
      have hl := hw.len d h.fst
      rw [← h.nas hac] at hl
      simp only [Bool.false_eq_true, if_false, hx, Option.map_some, Option.getD_some]
      rw [List.getD_eq_getElem?_getD, List.getElem?_eq_getElem (by omega)]
      exact hw.all _ (List.getElem_mem _)
  · rw [bsW, has, hx]
    cases hac : o.assoc with
    | true =>
      have := h.asc hac
      simp only [Option.map_some, Option.getD_some, if_pos]
      have hm := Int.mul_nonneg hlo (show 0 ≤ (t.args.length : Int) - 1 by omega)
      have hm2 := Int.mul_le_mul hhi (show (t.args.length : Int) - 1 ≤ 7 by omega) (by omega) (by omega)
      omega
    | false => simp; omega
theorem w_nonneg {g : Sgn} {ws : List Wt} (hI : InOk g ws) : ∀ (n : Nat) (t : Tm), sizeTm t < n → FormOk g t → 0 ≤ wN g ws t ∧ ∀ v, 0 ≤ wF g ws v t := by
  intro n
  induction n with
  | zero => exact fun _ h => by omega
  | succ n ih =>
    intro t hn hf
    rcases op_cases hf.node with ⟨_, hop⟩ | ⟨hop, o, d, hap⟩
    · refine ⟨by rw [wN_var hop]; exact Int.le_refl _, fun v => ?_⟩
      rw [wF_var hop]
      split <;> decide
    · obtain ⟨hc, hb, _⟩ := cf_ok hI hap
      have hsub : ∀ u ∈ t.args, 0 ≤ wN g ws u ∧ ∀ v, 0 ≤ wF g ws v u := fun u hu => by
        have h1 := sizeTms_mem hu
        have h2 : sizeTm t = 1 + sizeTms t.args := by obtain ⟨op, nm, so, args⟩ := t; rfl
        exact ih u (by omega) ((FormOk_iff.1 hf).2.1 u hu)
      refine ⟨?_, fun v => ?_⟩
      · rw [wN_app (by omega)]
        have := sumW_mono (cf := cfW g ws t.op) (b := bsW g ws t.op t.args.length) (ks := t.args.map (wN g ws)) (n := t.args.length) (fun i hi => by have := (hc.all i hi).1; omega) (fun k hk => by obtain ⟨u, hu, rfl⟩ := List.mem_map.1 hk; exact (hsub u hu).1) (Nat.zero_le _) (Nat.le_refl _)
        simp only [sumW] at this
        unfold pWn
        omega
      · rw [wF_app (by omega)]
        have := sumW_mono (cf := cfW g ws t.op) (b := 0) (ks := t.args.map (wF g ws v)) (n := t.args.length) (fun i hi => by have := (hc.all i hi).1; omega) (fun k hk => by obtain ⟨u, hu, rfl⟩ := List.mem_map.1 hk; exact (hsub u hu).2 v) (Nat.zero_le _) (Nat.le_refl _)
        simp only [sumW] at this
        unfold pWf
        omega
def okW (g : Sgn) (ws : List Wt) (vs : List Tm) (t : Tm) : Prop := wN g ws t ≤ 1000000000 ∧ ∀ v ∈ vs, wF g ws v t ≤ 1000000000
def partW (g : Sgn) (ws : List Wt) (vs : List Tm) (t : Tm) (i : Nat) : Prop := pWn g ws t i ≤ 1000000000 ∧ ∀ v ∈ vs, pWf g ws v t i ≤ 1000000000
theorem okW_app {g : Sgn} {ws : List Wt} {vs : List Tm} {t : Tm} (h : ¬ t.op < 0) : okW g ws vs t ↔ partW g ws vs t t.args.length := by
  unfold okW partW
  rw [wN_app h]
  constructor
  · exact fun ⟨a, b⟩ => ⟨a, fun v hv => by rw [← wF_app h]; exact b v hv⟩
  · exact fun ⟨a, b⟩ => ⟨a, fun v hv => by rw [wF_app h]; exact b v hv⟩
theorem okW_var {g : Sgn} {ws : List Wt} {vs : List Tm} {t : Tm} (h : t.op < 0) : okW g ws vs t := by
  refine ⟨by rw [wN_var h]; decide, fun v _ => ?_⟩
  rw [wF_var h]
  split <;> decide
section
variable {g : Sgn} {ws : List Wt} {vs : List Tm} {t : Tm} {o : Opr} {d : Dcl}
theorem p_mono (hI : InOk g ws) (hap : AppOk g t o d) (hf : FormOk g t) {i j : Nat} (hij : i ≤ j) (hj : j ≤ t.args.length) : pWn g ws t i ≤ pWn g ws t j ∧ ∀ v, pWf g ws v t i ≤ pWf g ws v t j := by
  obtain ⟨hc, _, _⟩ := cf_ok hI hap
  have hsub : ∀ u ∈ t.args, 0 ≤ wN g ws u ∧ ∀ v, 0 ≤ wF g ws v u := fun u hu => w_nonneg hI (sizeTm u + 1) u (Nat.lt_succ_self _) ((FormOk_iff.1 hf).2.1 u hu)
  exact ⟨sumW_mono (fun i hi => by have := (hc.all i hi).1; omega) (fun k hk => by obtain ⟨u, hu, rfl⟩ := List.mem_map.1 hk; exact (hsub u hu).1) hij hj,
    fun v => sumW_mono (fun i hi => by have := (hc.all i hi).1; omega) (fun k hk => by obtain ⟨u, hu, rfl⟩ := List.mem_map.1 hk; exact (hsub u hu).2 v) hij hj⟩
theorem partW_of (hI : InOk g ws) (hap : AppOk g t o d) (hf : FormOk g t) {i : Nat} (hi : i ≤ t.args.length) (h : okW g ws vs t) : partW g ws vs t i := by
  have h := (okW_app (by have := hap.lo; omega)).1 h
  have hm := p_mono hI hap hf hi (Nat.le_refl _)
  exact ⟨Int.le_trans hm.1 h.1, fun v hv => Int.le_trans (hm.2 v) (h.2 v hv)⟩
theorem arg_le {c k : Int} (hc : 1 ≤ c) (hk : 0 ≤ k) : k ≤ c * k := by
  have := Int.mul_le_mul_of_nonneg_right hc hk
  omega
theorem okW_arg (hI : InOk g ws) (hap : AppOk g t o d) (hf : FormOk g t) {i : Nat} {u : Tm} (hu : t.args[i]? = some u) (h : okW g ws vs t) : okW g ws vs u := by
  have hil := (List.getElem?_eq_some_iff.1 hu).1
  have hp := partW_of hI hap hf (i := i + 1) (by omega) h
  obtain ⟨hc, hb, _⟩ := cf_ok hI hap
  have hn := w_nonneg hI (sizeTm u + 1) u (Nat.lt_succ_self _) ((FormOk_iff.1 hf).2.1 u (List.mem_of_getElem? hu))
  have h0 := p_mono hI hap hf (Nat.zero_le i) (by omega)
  have hci := (hc.all i hil).1
  refine ⟨?_, fun v hv => ?_⟩
  · have h1 := hp.1
    rw [pWn_step hu] at h1
    have h2 := arg_le hci hn.1
    have h3 : 0 ≤ pWn g ws t i := Int.le_trans (by simpa [pWn, sumW] using hb) h0.1
    omega
  · have h1 := hp.2 v hv
    rw [pWf_step hu] at h1
    have h2 := arg_le hci (hn.2 v)
    have h3 : 0 ≤ pWf g ws v t i := Int.le_trans (by simp [pWf, sumW]) (h0.2 v)
    omega
theorem step_small (hI : InOk g ws) (hap : AppOk g t o d) (hf : FormOk g t) {i : Nat} {u : Tm} (hu : t.args[i]? = some u) (hb : okW g ws vs u) :
    0 ≤ cfW g ws t.op i * wN g ws u ∧ cfW g ws t.op i * wN g ws u ≤ 100000000000 ∧ ∀ v ∈ vs, 0 ≤ cfW g ws t.op i * wF g ws v u ∧ cfW g ws t.op i * wF g ws v u ≤ 100000000000 := by
  have hil := (List.getElem?_eq_some_iff.1 hu).1
  obtain ⟨hc, _, _⟩ := cf_ok hI hap
  have hn := w_nonneg hI (sizeTm u + 1) u (Nat.lt_succ_self _) ((FormOk_iff.1 hf).2.1 u (List.mem_of_getElem? hu))
  have hci := hc.all i hil
  have hm : ∀ k : Int, 0 ≤ k → k ≤ 1000000000 → 0 ≤ cfW g ws t.op i * k ∧ cfW g ws t.op i * k ≤ 100000000000 := fun k h0 h1 => by
    have h2 := Int.mul_nonneg (show 0 ≤ cfW g ws t.op i by omega) h0
    have h3 := Int.mul_le_mul hci.2 h1 h0 (by omega)
    exact ⟨h2, by omega⟩
  exact ⟨(hm _ hn.1 hb.1).1, (hm _ hn.1 hb.1).2, fun v hv => hm _ (hn.2 v) (hb.2 v hv)⟩
def smallW (g : Sgn) (ws : List Wt) (vs : List Tm) (t : Tm) (i : Nat) : Prop := (0 ≤ pWn g ws t i ∧ pWn g ws t i ≤ 700 + 100000000000 * (i : Int)) ∧ ∀ v ∈ vs, 0 ≤ pWf g ws v t i ∧ pWf g ws v t i ≤ 100000000000 * (i : Int)
theorem small_0 (hI : InOk g ws) (hap : AppOk g t o d) : smallW g ws vs t 0 := by
  obtain ⟨_, h1, h2⟩ := cf_ok hI hap
  refine ⟨⟨h1, ?_⟩, fun v _ => by simp [pWf, sumW]⟩
  simp only [pWn, sumW]
  omega
theorem small_step (hI : InOk g ws) (hap : AppOk g t o d) (hf : FormOk g t) {i : Nat} {u : Tm} (hu : t.args[i]? = some u) (hb : okW g ws vs u) (h : smallW g ws vs t i) : smallW g ws vs t (i + 1) := by
  obtain ⟨h1, h2, h3⟩ := step_small hI hap hf hu hb
  obtain ⟨⟨a1, a2⟩, a3⟩ := h
  refine ⟨?_, fun v hv => ?_⟩
  · rw [pWn_step hu]
    generalize pWn g ws t i = p at *
    generalize cfW g ws t.op i * wN g ws u = q at *
    omega
  · have b1 := a3 v hv
    have b2 := h3 v hv
    rw [pWf_step hu]
    generalize pWf g ws v t i = p at *
    generalize cfW g ws t.op i * wF g ws v u = q at *
    omega
end
end Go.Proofs.YtofklmbljbkdaaaGreat
namespace Go.Proofs.YtofklmbljbkdaaaGreat
open Go.RowKit
section
variable {g : Sgn} {ws : List Wt}
theorem isIn_no {o : Opr} {x : Wt} {k : Nat} (ho : g.ops[k]? = some o) (hx : ws[k]? = some x) (h : ¬ WtOk ws o x) : isIn g ws = false := isIn_false fun hI => h (hI.all k o x ho hx)
theorem wts_next {o : Opr} {x : Wt} {k : Nat} (ho : g.ops[k]? = some o) (hx : ws[k]? = some x) (hall : ∀ (i : Nat) (o : Opr) (x : Wt), i < k → g.ops[i]? = some o → ws[i]? = some x → WtOk ws o x) (h : WtOk ws o x) :
    ∀ (i : Nat) (o' : Opr) (x' : Wt), i < k + 1 → g.ops[i]? = some o' → ws[i]? = some x' → WtOk ws o' x' := fun i o' x' hi ho' hx' => by
  by_cases hik : i = k
  · subst hik; rw [ho] at ho'; rw [hx] at hx'; injection ho' with ho'; injection hx' with hx'; subst ho' hx'; exact h
  · exact hall i o' x' (by omega) ho' hx'
theorem all_of_get {l : List Int} {p : Int → Prop} (h : ∀ (i : Nat) (c : Int), i < l.length → l[i]? = some c → p c) : ∀ c ∈ l, p c := fun c hc => by
  obtain ⟨i, hi⟩ := List.mem_iff_getElem?.1 hc
  exact h i c (List.getElem?_eq_some_iff.1 hi).1 hi
theorem get_next {l : List Int} {p : Int → Prop} {j : Nat} {c : Int} (hc : l[j]? = some c) (h : ∀ (i : Nat) (c : Int), i < j → l[i]? = some c → p c) (hp : p c) : ∀ (i : Nat) (c : Int), i < j + 1 → l[i]? = some c → p c := fun i c' hi hc' => by
  by_cases hij : i = j
  · subst hij; rw [hc] at hc'; injection hc' with hc'; subst hc'; exact hp
  · exact h i c' (by omega) hc'
set_option maxHeartbeats 40000000 in
set_option maxRecDepth 100000 in
theorem con_implIn (hg : okSgn g) (hwl : ws.length ≤ 1048576) : Con e0 72 [.agg (encSgn g), .one (.sl (ws.map encWt))] [.one (.lit (.bool (isIn g ws)))] := by
  have cS := con_implSgn hg
  have hrw := rb_wt ws
  rw [encSgn] at cS ⊢
  refine gI 5192296858837059358153730956460791 Tryz.func72 ?_
  (have F := @tmz; refine gG ?_; clear F)
  refine gB ?_
  (have F := @tmz; refine gC (cS) ?_; clear F)
  cases hs : isSgn g with
  | false =>
    have hf := isIn_false (ws := ws) (fun h : InOk g ws => by rw [isSgn_true h.sgn] at hs; cases hs)
    (have F := @tmz; refine gR ?_; clear F)
    (have F := @hf; refine gG ?_; exact gT)
  | true =>
  by_cases hl : ws.length = g.ops.length
  rotate_left
  · have hf := isIn_false (ws := ws) (fun h : InOk g ws => hl h.len)
    have q1 : ((ws.length : Int) = (g.ops.length : Int)) = False := eq_false (by omega)
    (have F := And.intro @tmz @q1; refine gR ?_; clear F)
    (have F := @hf; refine gG ?_; exact gT)
  have q1 : ((ws.length : Int) = (g.ops.length : Int)) = True := eq_true (by omega)
  (have F := And.intro @tmz @q1; refine gR ?_; clear F)
  (have F := @tmz; refine gG ?_; clear F)
  have hS := isSgn_iff.1 hs
  (have F := @e0P; refine gL (ι := Nat) [4, 5, 6, 7, 9, 24, 25, 52, 54, 55, 56, 57, 78, 112] [] (fun k => [(24, A.d (.one (.lit (.int .i64 k))))]) (fun k => []) (fun k => k ≤ g.ops.length ∧ ∀ (i : Nat) (o : Opr) (x : Wt), i < k → g.ops[i]? = some o → ws[i]? = some x → WtOk ws o x) (fun k => g.ops.length - k) (0) (⟨Nat.zero_le _, fun i o x h => absurd h (by omega)⟩) (fun k hk => ?_); clear F)
  obtain ⟨hk, hall⟩ := hk
  by_cases hkn : k < g.ops.length
  rotate_left
  · have q2 : ¬ ((k : Int) < (g.ops.length : Int)) := by omega
    have ht := isIn_true (g := g) (ws := ws) ⟨hS, hl, fun i o x ho hx => hall i o x (by have := (List.getElem?_eq_some_iff.1 ho).1; omega) ho hx⟩
    (have F := And.intro @tmz (And.intro @q2 @ht); refine gG ?_; exact gT)
  have q2 : (k : Int) < (g.ops.length : Int) := by omega
  obtain ⟨o, ho⟩ : ∃ o, g.ops[k]? = some o := ⟨_, List.getElem?_eq_getElem hkn⟩
  obtain ⟨x, hx⟩ : ∃ x, ws[k]? = some x := ⟨_, List.getElem?_eq_getElem (by omega)⟩
  obtain ⟨d, hd, hd3⟩ := (hS.decls o (List.mem_of_getElem? ho)).first
  have har := (hS.decls o (List.mem_of_getElem? ho)).ar d hd
  have hax := hS.axs o (List.mem_of_getElem? ho)
  have hno := isIn_no (g := g) ho hx
  have hwk := wrap1 (k := k) (by omega)
  by_cases h1 : x.const < 0
  · have hf := hno (fun h => by have := h.lo; omega)
    have z1 : (x.const < 0) = True := eq_true h1
    (have F := And.intro @tmz (And.intro @q2 (And.intro @ho (And.intro @hx (And.intro @encOpr_u (And.intro @encWt_u (And.intro @hrw (And.intro @z1 @hf))))))); refine gG ?_; exact gT)
  have z1 : (x.const < 0) = False := eq_false h1
  by_cases h2 : 100 < x.const
  · have hf := hno (fun h => by have := h.hi; omega)
    have z2 : (100 < x.const) = True := eq_true h2
    (have F := And.intro @tmz (And.intro @q2 (And.intro @ho (And.intro @hx (And.intro @encOpr_u (And.intro @encWt_u (And.intro @hrw (And.intro @z1 (And.intro @z2 @hf)))))))); refine gG ?_; exact gT)
  have z2 : (100 < x.const) = False := eq_false h2
  by_cases h3 : x.coefs.length = d.args.length
  rotate_left
  · have hf := hno (fun h => h3 (h.len d hd))
    have z3 : ((x.coefs.length : Int) = (d.args.length : Int)) = False := eq_false (by omega)
    (have F := And.intro @tmz (And.intro @q2 (And.intro @ho (And.intro @hx (And.intro @encOpr_u (And.intro @encWt_u (And.intro @encDcl_u (And.intro @hd (And.intro @hrw (And.intro @z1 (And.intro @z2 (And.intro @z3 @hf))))))))))); refine gG ?_; exact gT)
  have z3 : ((x.coefs.length : Int) = (d.args.length : Int)) = True := eq_true (by omega)
  (have F := And.intro @tmz (And.intro @q2 (And.intro @ho (And.intro @hx (And.intro @encOpr_u (And.intro @encWt_u (And.intro @encDcl_u (And.intro @hd (And.intro @hrw (And.intro @z1 (And.intro @z2 @z3)))))))))); refine gG ?_; clear F)
  (have F := @encWt_u; refine gL (ι := Nat) [4, 9, 56, 57, 78] [] (fun j => [(56, A.d (.one (.lit (.int .i64 j))))]) (fun j => []) (fun j => j ≤ x.coefs.length ∧ ∀ (i : Nat) (c : Int), i < j → x.coefs[i]? = some c → 1 ≤ c ∧ c ≤ 100 ∧ ((o.assoc = true ∨ o.unit ≠ 0) → c = 1)) (fun j => x.coefs.length - j) (0) (⟨Nat.zero_le _, fun i c h => absurd h (by omega)⟩) (fun j hj => ?_); clear F)
  obtain ⟨hj, hcs⟩ := hj
  by_cases hjn : j < x.coefs.length
  · have p1 : (j : Int) < (x.coefs.length : Int) := by omega
    obtain ⟨c, hc⟩ : ∃ c, x.coefs[j]? = some c := ⟨_, List.getElem?_eq_getElem hjn⟩
    have hcm := List.mem_of_getElem? hc
    have hwj := wrap1 (k := j) (by omega)
    by_cases g1 : c < 1
    · have hf := hno (fun h => by have := (h.all c hcm).1; omega)
      have y1 : (c < 1) = True := eq_true g1
      (have F := And.intro @tmz (And.intro @p1 (And.intro @hc (And.intro @encInt_u (And.intro @y1 @hf)))); refine gG ?_; exact gT)
    have y1 : (c < 1) = False := eq_false g1
    by_cases g2 : 100 < c
    · have hf := hno (fun h => by have := (h.all c hcm).2; omega)
      have y2 : (100 < c) = True := eq_true g2
      (have F := And.intro @tmz (And.intro @p1 (And.intro @hc (And.intro @encInt_u (And.intro @y1 (And.intro @y2 @hf))))); refine gG ?_; exact gT)
    have y2 : (100 < c) = False := eq_false g2
    have hnx := fun h => get_next hc hcs (⟨by omega, by omega, h⟩ : 1 ≤ c ∧ c ≤ 100 ∧ ((o.assoc = true ∨ o.unit ≠ 0) → c = 1))
    by_cases g3 : c = 1
    · have y3 : (c = 1) = True := eq_true g3
      have hq : j + 1 ≤ x.coefs.length ∧ _ := ⟨by omega, hnx fun _ => g3⟩
      (have F := And.intro @tmz (And.intro @p1 (And.intro @hc (And.intro @encInt_u (And.intro @y1 (And.intro @y2 (And.intro @y3 @hwj)))))); refine gG ?_; exact ⟨j + 1, hq, gw, gw, by omega⟩)
    have y3 : (c = 1) = False := eq_false g3
    cases g4 : o.assoc with
    | true =>
      have hf := hno (fun h => g3 (h.one (.inl g4) c hcm))
      (have F := And.intro @tmz (And.intro @p1 (And.intro @hc (And.intro @encInt_u (And.intro @encOpr_u (And.intro @y1 (And.intro @y2 (And.intro @y3 (And.intro @g4 @hf)))))))); refine gG ?_; exact gT)
    | false =>
    by_cases g5 : o.unit = 0
    rotate_left
    · have hf := hno (fun h => g3 (h.one (.inr g5) c hcm))
      have y5 : (o.unit = 0) = False := eq_false g5
      (have F := And.intro @tmz (And.intro @p1 (And.intro @hc (And.intro @encInt_u (And.intro @encOpr_u (And.intro @y1 (And.intro @y2 (And.intro @y3 (And.intro @g4 (And.intro @y5 @hf))))))))); refine gG ?_; exact gT)
    have y5 : (o.unit = 0) = True := eq_true g5
    have hq : j + 1 ≤ x.coefs.length ∧ _ := ⟨by omega, hnx fun h => h.elim (fun h => absurd h (by rw [g4]; decide)) fun h => absurd g5 h⟩
    rw [g4] at hq
    (have F := And.intro @tmz (And.intro @p1 (And.intro @hc (And.intro @encInt_u (And.intro @encOpr_u (And.intro @y1 (And.intro @y2 (And.intro @y3 (And.intro @g4 (And.intro @y5 @hwj))))))))); refine gG ?_; exact ⟨j + 1, hq, gw, gw, by omega⟩)
  have p1 : ¬ ((j : Int) < (x.coefs.length : Int)) := by omega
  obtain rfl : j = x.coefs.length := by omega
  have hra := all_of_get hcs
  have hone : (o.assoc = true ∨ o.unit ≠ 0) → ∀ c ∈ x.coefs, c = 1 := fun h c hc => (hra c hc).2.2 h
  have hrange : ∀ c ∈ x.coefs, 1 ≤ c ∧ c ≤ 100 := fun c hc => ⟨(hra c hc).1, (hra c hc).2.1⟩
  have hlen : ∀ d', o.decls[0]? = some d' → x.coefs.length = d'.args.length := fun d' h => by rw [hd] at h; injection h with h; subst h; omega
  have next := wts_next ho hx hall
  have hunit : o.unit ≠ 0 → ∃ (q : Nat) (u : Wt), o.unit = (q : Int) + 1 ∧ ws[q]? = some u ∧ q < ws.length := fun hu => by
    have h0 := hax.lo
    have h4 := hax.hi
    exact ⟨(o.unit - 1).toNat, ws[(o.unit - 1).toNat], by omega, List.getElem?_eq_getElem (by omega), by omega⟩
  have hcc : o.comm = true → ∃ a b, x.coefs[0]? = some a ∧ x.coefs[1]? = some b := fun hc => by
    have := (hax.two (.inr (.inl hc)) d hd).1
    exact ⟨x.coefs[0], x.coefs[1], List.getElem?_eq_getElem (by omega), List.getElem?_eq_getElem (by omega)⟩
  have hkey : o.comm = false ∨ (∃ a, x.coefs[0]? = some a ∧ x.coefs[1]? = some a ∧ o.comm = true) ∨ (∃ a b, x.coefs[0]? = some a ∧ x.coefs[1]? = some b ∧ a ≠ b ∧ o.comm = true) := by
    cases hc : o.comm with
    | false => exact .inl rfl
    | true =>
      obtain ⟨a, b, ha, hb⟩ := hcc hc
      by_cases hab : a = b
      · subst hab; exact .inr (.inl ⟨a, ha, hb, rfl⟩)
      · exact .inr (.inr ⟨a, b, ha, hb, hab, rfl⟩)
  rcases hkey with hcf | ⟨a, ha, hb, hct⟩ | ⟨a, b, ha, hb, hab, hct⟩
  · have hcx : o.comm = true → x.coefs[0]? = x.coefs[1]? := fun h => by rw [hcf] at h; cases h
    by_cases q3 : o.unit = 0
    · have y3 : (o.unit = 0) = True := eq_true q3
      have hq : k + 1 ≤ g.ops.length ∧ _ := ⟨by omega, next ⟨by omega, by omega, hlen, hrange, hcx, hone, fun h => absurd q3 h⟩⟩
      (have F := And.intro @tmz (And.intro @p1 (And.intro @encOpr_u (And.intro @encWt_u (And.intro @encInt_u (And.intro @hcf (And.intro @y3 @hwk)))))); refine gG ?_; exact ⟨k + 1, hq, gw, gw, by omega⟩)
    have y3 : (o.unit = 0) = False := eq_false q3
    obtain ⟨q, u, hq, hu, hql⟩ := hunit q3
    have hsub : IntKind.i64.wrap (o.unit - 1) = (q : Int) := by rw [hq]; exact wrapN (by omega) (by omega) (by omega)
    have hut : o.unit.toNat - 1 = q := by omega
    by_cases q4 : x.const = 0
    rotate_left
    · have hf := hno (fun h => q4 (h.unit q3).1)
      have y4 : (x.const = 0) = False := eq_false q4
      (have F := And.intro @tmz (And.intro @p1 (And.intro @encOpr_u (And.intro @encWt_u (And.intro @encInt_u (And.intro @hcf (And.intro @y3 (And.intro @y4 @hf))))))); refine gG ?_; exact gT)
    have y4 : (x.const = 0) = True := eq_true q4
    by_cases q5 : u.const = 0
    rotate_left
    · have hf := hno (fun h => q5 ((h.unit q3).2 u (by rw [hut]; exact hu)))
      have y5 : (u.const = 0) = False := eq_false q5
      (have F := And.intro @tmz (And.intro @p1 (And.intro @encOpr_u (And.intro @encWt_u (And.intro @encInt_u (And.intro @hrw (And.intro @hcf (And.intro @y3 (And.intro @y4 (And.intro @hsub (And.intro @hu (And.intro @y5 @hf))))))))))); refine gG ?_; exact gT)
    have y5 : (u.const = 0) = True := eq_true q5
    have hq' : k + 1 ≤ g.ops.length ∧ _ := ⟨by omega, next ⟨by omega, by omega, hlen, hrange, hcx, hone, fun _ => ⟨q4, fun u' hu' => by rw [hut, hu] at hu'; injection hu' with hu'; subst hu'; exact q5⟩⟩⟩
    (have F := And.intro @tmz (And.intro @p1 (And.intro @encOpr_u (And.intro @encWt_u (And.intro @encInt_u (And.intro @hrw (And.intro @hcf (And.intro @y3 (And.intro @y4 (And.intro @hsub (And.intro @hu (And.intro @y5 @hwk))))))))))); refine gG ?_; exact ⟨k + 1, hq', gw, gw, by omega⟩)
  · have hcx : o.comm = true → x.coefs[0]? = x.coefs[1]? := fun _ => by rw [ha, hb]
    by_cases q3 : o.unit = 0
    · have y3 : (o.unit = 0) = True := eq_true q3
      have hq : k + 1 ≤ g.ops.length ∧ _ := ⟨by omega, next ⟨by omega, by omega, hlen, hrange, hcx, hone, fun h => absurd q3 h⟩⟩
      (have F := And.intro @tmz (And.intro @p1 (And.intro @encOpr_u (And.intro @encWt_u (And.intro @encInt_u (And.intro @hct (And.intro @ha (And.intro @hb (And.intro @y3 @hwk)))))))); refine gG ?_; exact ⟨k + 1, hq, gw, gw, by omega⟩)
    have y3 : (o.unit = 0) = False := eq_false q3
    obtain ⟨q, u, hq, hu, hql⟩ := hunit q3
    have hsub : IntKind.i64.wrap (o.unit - 1) = (q : Int) := by rw [hq]; exact wrapN (by omega) (by omega) (by omega)
    have hut : o.unit.toNat - 1 = q := by omega
    by_cases q4 : x.const = 0
    rotate_left
    · have hf := hno (fun h => q4 (h.unit q3).1)
      have y4 : (x.const = 0) = False := eq_false q4
      (have F := And.intro @tmz (And.intro @p1 (And.intro @encOpr_u (And.intro @encWt_u (And.intro @encInt_u (And.intro @hct (And.intro @ha (And.intro @hb (And.intro @y3 (And.intro @y4 @hf))))))))); refine gG ?_; exact gT)
    have y4 : (x.const = 0) = True := eq_true q4
    by_cases q5 : u.const = 0
    rotate_left
    · have hf := hno (fun h => q5 ((h.unit q3).2 u (by rw [hut]; exact hu)))
      have y5 : (u.const = 0) = False := eq_false q5
      (have F := And.intro @tmz (And.intro @p1 (And.intro @encOpr_u (And.intro @encWt_u (And.intro @encInt_u (And.intro @hrw (And.intro @hct (And.intro @ha (And.intro @hb (And.intro @y3 (And.intro @y4 (And.intro @hsub (And.intro @hu (And.intro @y5 @hf))))))))))))); refine gG ?_; exact gT)
    have y5 : (u.const = 0) = True := eq_true q5
    have hq' : k + 1 ≤ g.ops.length ∧ _ := ⟨by omega, next ⟨by omega, by omega, hlen, hrange, hcx, hone, fun _ => ⟨q4, fun u' hu' => by rw [hut, hu] at hu'; injection hu' with hu'; subst hu'; exact q5⟩⟩⟩
    (have F := And.intro @tmz (And.intro @p1 (And.intro @encOpr_u (And.intro @encWt_u (And.intro @encInt_u (And.intro @hrw (And.intro @hct (And.intro @ha (And.intro @hb (And.intro @y3 (And.intro @y4 (And.intro @hsub (And.intro @hu (And.intro @y5 @hwk))))))))))))); refine gG ?_; exact ⟨k + 1, hq', gw, gw, by omega⟩)
  · have hf := hno (fun h => hab (by have := h.comm hct; rw [ha, hb] at this; injection this))
    have y1 : (a = b) = False := eq_false hab
    (have F := And.intro @tmz (And.intro @p1 (And.intro @encOpr_u (And.intro @encWt_u (And.intro @encInt_u (And.intro @hct (And.intro @ha (And.intro @hb (And.intro @y1 @hf)))))))); refine gG ?_; exact gT)
end
end Go.Proofs.YtofklmbljbkdaaaGreat
namespace Go.Proofs.YtofklmbljbkdaaaGreat
open Go.RowKit
def numR (f : Tm → Int) (vs : List Tm) : List (List C) := vs.map fun v => encInt (f v)
def mixR (f g : Tm → Int) (vs : List Tm) (j : Nat) : List (List C) := numR f (vs.take j) ++ numR g (vs.drop j)
section
variable {f g : Tm → Int} {vs : List Tm}
theorem numR_len : (numR f vs).length = vs.length := List.length_map ..
theorem numR_get {j : Nat} {v : Tm} (h : vs[j]? = some v) : (numR f vs)[j]? = some [.lit (.int .i64 (f v))] := by rw [numR, List.getElem?_map, h]; rfl
theorem numR_rows : rowsB 1 (numR f vs) = true := by
  rw [show numR f vs = (vs.map f).map encInt by rw [numR, List.map_map]; rfl]
  exact rb_int _
theorem mixR_0 : mixR f g vs 0 = numR g vs := by simp [mixR, numR]
theorem mixR_n : mixR f g vs vs.length = numR f vs := by simp [mixR, numR]
theorem mixR_len (j : Nat) : (mixR f g vs j).length = vs.length := by
  rw [mixR, List.length_append, numR_len, numR_len, List.length_take, List.length_drop]; omega
theorem mixR_rows (j : Nat) : rowsB 1 (mixR f g vs j) = true := by
  rw [show mixR f g vs j = (((vs.take j).map f) ++ ((vs.drop j).map g)).map encInt by rw [mixR, numR, numR, List.map_append, List.map_map, List.map_map]; rfl]
  exact rb_int _
theorem mixR_get {j : Nat} {v : Tm} (h : vs[j]? = some v) : (mixR f g vs j)[j]? = some [.lit (.int .i64 (g v))] := by
  have hl : (numR f (vs.take j)).length = j := by rw [numR_len, List.length_take]; have := (List.getElem?_eq_some_iff.1 h).1; omega
  rw [mixR, List.getElem?_append_right (by omega), hl, Nat.sub_self, numR, List.getElem?_map, List.getElem?_drop, Nat.add_zero, h]
  rfl
theorem mixR_set {j : Nat} {v : Tm} (h : vs[j]? = some v) : (mixR f g vs j).set j [.lit (.int .i64 (f v))] = mixR f g vs (j + 1) := by
  have hj := (List.getElem?_eq_some_iff.1 h).1
  have hl : (numR f (vs.take j)).length = j := by rw [numR_len, List.length_take]; omega
  have hd : vs.drop j = v :: vs.drop (j + 1) := by rw [List.drop_eq_getElem_cons hj, (List.getElem?_eq_some_iff.1 h).2]
  rw [mixR, mixR, List.take_add_one, h, List.set_append_right _ _ (by omega), hl, Nat.sub_self, hd]
  simp [numR, encInt]
theorem mixR_get2 {j : Nat} {v : Tm} (h : vs[j]? = some v) : (mixR f g vs (j + 1))[j]? = some [.lit (.int .i64 (f v))] := by
  rw [← mixR_set h, List.getElem?_set, if_pos rfl, if_pos (by rw [mixR_len]; exact (List.getElem?_eq_some_iff.1 h).1)]
theorem mixR_skip {j : Nat} {v : Tm} (h : vs[j]? = some v) (he : f v = g v) : mixR f g vs j = mixR f g vs (j + 1) := by
  have hj := (List.getElem?_eq_some_iff.1 h).1
  have hd : vs.drop j = v :: vs.drop (j + 1) := by rw [List.drop_eq_getElem_cons hj, (List.getElem?_eq_some_iff.1 h).2]
  rw [mixR, mixR, List.take_add_one, h, hd]
  simp [numR, he]
theorem numR_0 (z : List C) (hz : z = [.lit (.int .i64 0)]) : List.replicate vs.length z = numR (fun _ => 0) vs := by
  subst hz
  rw [numR, List.map_const']
  rfl
theorem numR_congr (h : ∀ v ∈ vs, f v = g v) : numR f vs = numR g vs := List.map_congr_left fun v hv => by rw [h v hv]
theorem numR_one {t : Tm} {k : Nat} {v : Tm} (hnd : vs.Nodup) (hk : vs[k]? = some v) (hv : cmpTm v t = 0) : (numR (fun _ => 0) vs).set k [.lit (.int .i64 1)] = numR (fun v => if cmpTm v t = 0 then 1 else 0) vs := by
  obtain rfl := cmpTm_iff.1 hv
  have hkl := (List.getElem?_eq_some_iff.1 hk).1
  refine List.ext_getElem? fun i => ?_
  rw [List.getElem?_set]
  split
  · rename_i h
    subst h
    rw [if_pos (by rw [numR_len]; exact hkl), numR_get hk]
    simp [cmpTm_self]
  · rename_i hne
    rcases hi : vs[i]? with _ | u
    · rw [numR, numR, List.getElem?_map, List.getElem?_map, hi]; rfl
    · rw [numR_get hi, numR_get hi]
      have hu : ¬ cmpTm u v = 0 := fun h => by
        obtain rfl := cmpTm_iff.1 h
        have hil := (List.getElem?_eq_some_iff.1 hi).1
        have e1 := (List.getElem?_eq_some_iff.1 hi).2
        have e2 := (List.getElem?_eq_some_iff.1 hk).2
        exact hne ((List.getElem_inj hnd).1 (e2.trans e1.symm))
      simp [hu]
end
open Classical in
noncomputable def wOut (g : Sgn) (ws : List Wt) (vs : List Tm) (t : Tm) : List D := if okW g ws vs t then [.one (.lit (.int .i64 (wN g ws t))), .one (.sl (numR (fun v => wF g ws v t) vs)), .one (.lit (.bool true))] else [.one (.lit (.int .i64 0)), .one (.sl []), .one (.lit (.bool false))]
theorem wOut_ok {g : Sgn} {ws : List Wt} {vs : List Tm} {t : Tm} (h : okW g ws vs t) : wOut g ws vs t = [.one (.lit (.int .i64 (wN g ws t))), .one (.sl (numR (fun v => wF g ws v t) vs)), .one (.lit (.bool true))] := if_pos h
theorem wOut_no {g : Sgn} {ws : List Wt} {vs : List Tm} {t : Tm} (h : ¬ okW g ws vs t) : wOut g ws vs t = [.one (.lit (.int .i64 0)), .one (.sl []), .one (.lit (.bool false))] := if_neg h
end Go.Proofs.YtofklmbljbkdaaaGreat
namespace Go.Proofs.YtofklmbljbkdaaaGreat
open Go.RowKit
section
variable {g : Sgn} {ws : List Wt}
set_option maxHeartbeats 40000000 in
set_option maxRecDepth 100000 in
theorem con_specIn (hg : okSgn g) (hwl : ws.length ≤ 1048576) : Con e0 69 [.agg (encSgn g), .one (.sl (ws.map encWt))] [.one (.lit (.bool (isIn g ws)))] := by
  have cS := con_specSgn hg
  have hrw := rb_wt ws
  rw [encSgn] at cS ⊢
  refine gI 170141183500083312989397094349247349239 Tryz.func69 ?_
  (have F := @tmz; refine gG ?_; clear F)
  refine gB ?_
  (have F := @tmz; refine gC (cS) ?_; clear F)
  cases hs : isSgn g with
  | false =>
    have hf := isIn_false (ws := ws) (fun h : InOk g ws => by rw [isSgn_true h.sgn] at hs; cases hs)
    (have F := @tmz; refine gR ?_; clear F)
    (have F := @hf; refine gG ?_; exact gT)
  | true =>
  by_cases hl : ws.length = g.ops.length
  rotate_left
  · have hf := isIn_false (ws := ws) (fun h : InOk g ws => hl h.len)
    have q1 : ((ws.length : Int) = (g.ops.length : Int)) = False := eq_false (by omega)
    (have F := And.intro @tmz @q1; refine gR ?_; clear F)
    (have F := @hf; refine gG ?_; exact gT)
  have q1 : ((ws.length : Int) = (g.ops.length : Int)) = True := eq_true (by omega)
  (have F := And.intro @tmz @q1; refine gR ?_; clear F)
  (have F := @tmz; refine gG ?_; clear F)
  have hS := isSgn_iff.1 hs
  (have F := @e0P; refine gL (ι := Nat) [4, 5, 6, 7, 8, 23, 45, 50, 59, 95, 127] [] (fun k => [(5, A.d (.one (.lit (.int .i64 k))))]) (fun k => []) (fun k => k ≤ ws.length ∧ ∀ (i : Nat) (o : Opr) (x : Wt), i < k → g.ops[i]? = some o → ws[i]? = some x → WtOk ws o x) (fun k => ws.length - k) (0) (⟨Nat.zero_le _, fun i o x h => absurd h (by omega)⟩) (fun k hk => ?_); clear F)
  obtain ⟨hk, hall⟩ := hk
  by_cases hkn : k < ws.length
  rotate_left
  · have q2 : ¬ ((k : Int) < (ws.length : Int)) := by omega
    have ht := isIn_true (g := g) (ws := ws) ⟨hS, hl, fun i o x ho hx => hall i o x (by have := (List.getElem?_eq_some_iff.1 ho).1; omega) ho hx⟩
    (have F := And.intro @tmz (And.intro @q2 @ht); refine gG ?_; exact gT)
  have q2 : (k : Int) < (ws.length : Int) := by omega
  obtain ⟨o, ho⟩ : ∃ o, g.ops[k]? = some o := ⟨_, List.getElem?_eq_getElem (by omega)⟩
  obtain ⟨x, hx⟩ : ∃ x, ws[k]? = some x := ⟨_, List.getElem?_eq_getElem (by omega)⟩
  obtain ⟨d, hd, hd3⟩ := (hS.decls o (List.mem_of_getElem? ho)).first
  have har := (hS.decls o (List.mem_of_getElem? ho)).ar d hd
  have hax := hS.axs o (List.mem_of_getElem? ho)
  have hno := isIn_no (g := g) ho hx
  have hwk := wrap1 (k := k) (by omega)
  have cAr := con_l4Arity hd
  rw [encOpr] at cAr
  (have F := And.intro @tmz (And.intro @q2 (And.intro @hx @hrw)); refine gG ?_; clear F)
  refine gB ?_
  (have F := @encWt_u; refine gC (con_l1In x.const 0 100) ?_; clear F)
  by_cases h1 : 0 ≤ x.const ∧ x.const ≤ 100
  rotate_left
  · have hf := hno (fun h => h1 ⟨h.lo, h.hi⟩)
    have z1 : decide (0 ≤ x.const ∧ x.const ≤ 100) = false := decide_eq_false h1
    (have F := @z1; refine gR ?_; clear F)
    (have F := @hf; refine gG ?_; exact gT)
  have z1 : decide (0 ≤ x.const ∧ x.const ≤ 100) = true := decide_eq_true h1
  (have F := And.intro @z1 (And.intro @ho (And.intro @encOpr_u @encWt_u)); refine gC (cAr) ?_; clear F)
  by_cases h3 : x.coefs.length = d.args.length
  rotate_left
  · have hf := hno (fun h => h3 (h.len d hd))
    have z3 : ((x.coefs.length : Int) = (d.args.length : Int)) = False := eq_false (by omega)
    (have F := And.intro @z1 @z3; refine gR ?_; clear F)
    (have F := @hf; refine gG ?_; exact gT)
  have z3 : ((x.coefs.length : Int) = (d.args.length : Int)) = True := eq_true (by omega)
  (have F := And.intro @z1 @z3; refine gR ?_; clear F)
  (have F := @tmz; refine gG ?_; clear F)
  (have F := @encWt_u; refine gL (ι := Nat) [4, 7, 50, 59] [] (fun j => [(7, A.d (.one (.lit (.int .i64 j))))]) (fun j => []) (fun j => j ≤ x.coefs.length ∧ ∀ (i : Nat) (c : Int), i < j → x.coefs[i]? = some c → 1 ≤ c ∧ c ≤ 100) (fun j => x.coefs.length - j) (0) (⟨Nat.zero_le _, fun i c h => absurd h (by omega)⟩) (fun j hj => ?_); clear F)
  obtain ⟨hj, hcs⟩ := hj
  by_cases hjn : j < x.coefs.length
  · have p1 : (j : Int) < (x.coefs.length : Int) := by omega
    obtain ⟨c, hc⟩ : ∃ c, x.coefs[j]? = some c := ⟨_, List.getElem?_eq_getElem hjn⟩
    have hcm := List.mem_of_getElem? hc
    have hwj := wrap1 (k := j) (by omega)
    (have F := And.intro @tmz (And.intro @p1 @encWt_u); refine gG ?_; clear F)
    refine gB ?_
    (have F := And.intro @encWt_u (And.intro @encInt_u @hc); refine gC (con_l1In c 1 100) ?_; clear F)
    by_cases g1 : 1 ≤ c ∧ c ≤ 100
    rotate_left
    · have hf := hno (fun h => g1 (h.all c hcm))
      have y1 : decide (1 ≤ c ∧ c ≤ 100) = false := decide_eq_false g1
      (have F := @y1; refine gR ?_; clear F)
      (have F := @hf; refine gG ?_; exact gT)
    have y1 : decide (1 ≤ c ∧ c ≤ 100) = true := decide_eq_true g1
    have hq : j + 1 ≤ x.coefs.length ∧ _ := ⟨by omega, get_next hc hcs g1⟩
    (have F := @y1; refine gR ?_; clear F)
    (have F := And.intro @tmz (And.intro @hwj @encWt_u); refine gG ?_; exact ⟨j + 1, hq, gw, gw, by omega⟩)
  have p1 : ¬ ((j : Int) < (x.coefs.length : Int)) := by omega
  obtain rfl : j = x.coefs.length := by omega
  have hrange := all_of_get hcs
  have hlen : ∀ d', o.decls[0]? = some d' → x.coefs.length = d'.args.length := fun d' h => by rw [hd] at h; injection h with h; subst h; omega
  have next := wts_next ho hx hall
  have hunit : o.unit ≠ 0 → ∃ (q : Nat) (u : Wt), o.unit = (q : Int) + 1 ∧ ws[q]? = some u ∧ q < ws.length := fun hu => by
    have h0 := hax.lo
    have h4 := hax.hi
    exact ⟨(o.unit - 1).toNat, ws[(o.unit - 1).toNat], by omega, List.getElem?_eq_getElem (by omega), by omega⟩
  have htwo : (o.assoc = true ∨ o.comm = true ∨ o.unit ≠ 0) → ∃ a b, x.coefs[0]? = some a ∧ x.coefs[1]? = some b ∧ a ∈ x.coefs ∧ b ∈ x.coefs ∧ (a = 1 → b = 1 → ∀ c ∈ x.coefs, c = 1) := fun h => by
    have := (hax.two h d hd).1
    obtain ⟨a, b, hab⟩ := two_of (show x.coefs.length = 2 by omega)
    rw [hab]
    exact ⟨a, b, rfl, rfl, by simp, by simp, fun h1 h2 c hc => by simp at hc; rcases hc with rfl | rfl <;> assumption⟩
  clear hrw
  have hrw := rb_wt ws
  have htwo : (o.comm = true ∨ o.assoc = true ∨ o.unit ≠ 0) → _ := fun h => htwo (h.elim (fun h => .inr (.inl h)) (fun h => h.elim .inl fun h => .inr (.inr h)))
  cases j1 : o.comm <;> cases j2 : o.assoc <;> by_cases j3 : o.unit = 0
  · have q1 : o.comm = false := by simpa using j1
    have q2 : o.assoc = false := by simpa using j2
    have q3 : o.unit = 0 := j3
    have z3 : ((0 : Int) < o.unit) = False := eq_false (by omega)
    have hq : k + 1 ≤ ws.length ∧ _ := ⟨by omega, next ⟨by omega, by omega, hlen, hrange, (fun h => by rw [q1] at h; cases h), (fun h => h.elim (fun h => by rw [q2] at h; cases h) fun h => absurd q3 h), (fun h => absurd q3 h)⟩⟩
    (have F := And.intro @tmz (And.intro @p1 (And.intro @ho (And.intro @encWt_u (And.intro @encOpr_u (And.intro @encInt_u (And.intro @hrw (And.intro @q1 (And.intro @q2 (And.intro @z3 @hwk))))))))); refine gG ?_; exact ⟨k + 1, hq, gw, gw, by omega⟩)
  · have q1 : o.comm = false := by simpa using j1
    have q2 : o.assoc = false := by simpa using j2
    have q3 : o.unit ≠ 0 := j3
    obtain ⟨q, u, hq, hu, hql⟩ := hunit q3
    have z3 : ((0 : Int) < o.unit) = True := eq_true (by omega)
    have hsub : IntKind.i64.wrap (o.unit - 1) = (q : Int) := by rw [hq]; exact wrapN (by omega) (by omega) (by omega)
    have hut : o.unit.toNat - 1 = q := by omega
    obtain ⟨a, b, ha, hb, hma, hmb, hab1⟩ := htwo (.inr (.inr q3))
    by_cases c_c0 : x.const = 0
    rotate_left
    · have hf := hno (fun h => c_c0 ((h.unit q3).1))
      have y4 : (x.const = 0) = False := eq_false c_c0
      (have F := And.intro @tmz (And.intro @p1 (And.intro @ho (And.intro @encWt_u (And.intro @encOpr_u (And.intro @encInt_u (And.intro @hrw (And.intro @q1 (And.intro @q2 (And.intro @z3 (And.intro @hsub (And.intro @hu (And.intro @ha (And.intro @hb (And.intro @y4 @hf)))))))))))))); refine gG ?_; exact gT)
    have y4 : (x.const = 0) = True := eq_true c_c0
    by_cases c_a1 : a = 1
    rotate_left
    · have hf := hno (fun h => c_a1 (h.one (.inr q3) _ hma))
      have y1 : (a = 1) = False := eq_false c_a1
      (have F := And.intro @tmz (And.intro @p1 (And.intro @ho (And.intro @encWt_u (And.intro @encOpr_u (And.intro @encInt_u (And.intro @hrw (And.intro @q1 (And.intro @q2 (And.intro @z3 (And.intro @hsub (And.intro @hu (And.intro @ha (And.intro @hb (And.intro @y4 (And.intro @y1 @hf))))))))))))))); refine gG ?_; exact gT)
    have y1 : (a = 1) = True := eq_true c_a1
    by_cases c_b1 : b = 1
    rotate_left
    · have hf := hno (fun h => c_b1 (h.one (.inr q3) _ hmb))
      have y2 : (b = 1) = False := eq_false c_b1
      (have F := And.intro @tmz (And.intro @p1 (And.intro @ho (And.intro @encWt_u (And.intro @encOpr_u (And.intro @encInt_u (And.intro @hrw (And.intro @q1 (And.intro @q2 (And.intro @z3 (And.intro @hsub (And.intro @hu (And.intro @ha (And.intro @hb (And.intro @y4 (And.intro @y1 (And.intro @y2 @hf)))))))))))))))); refine gG ?_; exact gT)
    have y2 : (b = 1) = True := eq_true c_b1
    by_cases c_u0 : u.const = 0
    rotate_left
    · have hf := hno (fun h => c_u0 ((h.unit q3).2 u (by rw [hut]; exact hu)))
      have y5 : (u.const = 0) = False := eq_false c_u0
      (have F := And.intro @tmz (And.intro @p1 (And.intro @ho (And.intro @encWt_u (And.intro @encOpr_u (And.intro @encInt_u (And.intro @hrw (And.intro @q1 (And.intro @q2 (And.intro @z3 (And.intro @hsub (And.intro @hu (And.intro @ha (And.intro @hb (And.intro @y4 (And.intro @y1 (And.intro @y2 (And.intro @y5 @hf))))))))))))))))); refine gG ?_; exact gT)
    have y5 : (u.const = 0) = True := eq_true c_u0
    have hq : k + 1 ≤ ws.length ∧ _ := ⟨by omega, next ⟨by omega, by omega, hlen, hrange, (fun h => by rw [q1] at h; cases h), (fun _ => hab1 c_a1 c_b1), (fun _ => ⟨c_c0, fun u' hu' => by rw [hut, hu] at hu'; injection hu' with hu'; subst hu'; exact c_u0⟩)⟩⟩
    (have F := And.intro @tmz (And.intro @p1 (And.intro @ho (And.intro @encWt_u (And.intro @encOpr_u (And.intro @encInt_u (And.intro @hrw (And.intro @q1 (And.intro @q2 (And.intro @z3 (And.intro @hsub (And.intro @hu (And.intro @ha (And.intro @hb (And.intro @y4 (And.intro @y1 (And.intro @y2 (And.intro @y5 @hwk))))))))))))))))); refine gG ?_; exact ⟨k + 1, hq, gw, gw, by omega⟩)
  · have q1 : o.comm = false := by simpa using j1
    have q2 : o.assoc = true := by simpa using j2
    have q3 : o.unit = 0 := j3
    have z3 : ((0 : Int) < o.unit) = False := eq_false (by omega)
    obtain ⟨a, b, ha, hb, hma, hmb, hab1⟩ := htwo (.inr (.inl q2))
    by_cases c_a1 : a = 1
    rotate_left
    · have hf := hno (fun h => c_a1 (h.one (.inl q2) _ hma))
      have y1 : (a = 1) = False := eq_false c_a1
      (have F := And.intro @tmz (And.intro @p1 (And.intro @ho (And.intro @encWt_u (And.intro @encOpr_u (And.intro @encInt_u (And.intro @hrw (And.intro @q1 (And.intro @q2 (And.intro @z3 (And.intro @ha (And.intro @hb (And.intro @y1 @hf)))))))))))); refine gG ?_; exact gT)
    have y1 : (a = 1) = True := eq_true c_a1
    by_cases c_b1 : b = 1
    rotate_left
    · have hf := hno (fun h => c_b1 (h.one (.inl q2) _ hmb))
      have y2 : (b = 1) = False := eq_false c_b1
      (have F := And.intro @tmz (And.intro @p1 (And.intro @ho (And.intro @encWt_u (And.intro @encOpr_u (And.intro @encInt_u (And.intro @hrw (And.intro @q1 (And.intro @q2 (And.intro @z3 (And.intro @ha (And.intro @hb (And.intro @y1 (And.intro @y2 @hf))))))))))))); refine gG ?_; exact gT)
    have y2 : (b = 1) = True := eq_true c_b1
    have hq : k + 1 ≤ ws.length ∧ _ := ⟨by omega, next ⟨by omega, by omega, hlen, hrange, (fun h => by rw [q1] at h; cases h), (fun _ => hab1 c_a1 c_b1), (fun h => absurd q3 h)⟩⟩
    (have F := And.intro @tmz (And.intro @p1 (And.intro @ho (And.intro @encWt_u (And.intro @encOpr_u (And.intro @encInt_u (And.intro @hrw (And.intro @q1 (And.intro @q2 (And.intro @z3 (And.intro @ha (And.intro @hb (And.intro @y1 (And.intro @y2 @hwk))))))))))))); refine gG ?_; exact ⟨k + 1, hq, gw, gw, by omega⟩)
  · have q1 : o.comm = false := by simpa using j1
    have q2 : o.assoc = true := by simpa using j2
    have q3 : o.unit ≠ 0 := j3
    obtain ⟨q, u, hq, hu, hql⟩ := hunit q3
    have z3 : ((0 : Int) < o.unit) = True := eq_true (by omega)
    have hsub : IntKind.i64.wrap (o.unit - 1) = (q : Int) := by rw [hq]; exact wrapN (by omega) (by omega) (by omega)
    have hut : o.unit.toNat - 1 = q := by omega
    obtain ⟨a, b, ha, hb, hma, hmb, hab1⟩ := htwo (.inr (.inl q2))
    by_cases c_a1 : a = 1
    rotate_left
    · have hf := hno (fun h => c_a1 (h.one (.inl q2) _ hma))
      have y1 : (a = 1) = False := eq_false c_a1
      (have F := And.intro @tmz (And.intro @p1 (And.intro @ho (And.intro @encWt_u (And.intro @encOpr_u (And.intro @encInt_u (And.intro @hrw (And.intro @q1 (And.intro @q2 (And.intro @z3 (And.intro @hsub (And.intro @hu (And.intro @ha (And.intro @hb (And.intro @y1 @hf)))))))))))))); refine gG ?_; exact gT)
    have y1 : (a = 1) = True := eq_true c_a1
    by_cases c_b1 : b = 1
    rotate_left
    · have hf := hno (fun h => c_b1 (h.one (.inl q2) _ hmb))
      have y2 : (b = 1) = False := eq_false c_b1
      (have F := And.intro @tmz (And.intro @p1 (And.intro @ho (And.intro @encWt_u (And.intro @encOpr_u (And.intro @encInt_u (And.intro @hrw (And.intro @q1 (And.intro @q2 (And.intro @z3 (And.intro @hsub (And.intro @hu (And.intro @ha (And.intro @hb (And.intro @y1 (And.intro @y2 @hf))))))))))))))); refine gG ?_; exact gT)
    have y2 : (b = 1) = True := eq_true c_b1
    by_cases c_c0 : x.const = 0
    rotate_left
    · have hf := hno (fun h => c_c0 ((h.unit q3).1))
      have y4 : (x.const = 0) = False := eq_false c_c0
      (have F := And.intro @tmz (And.intro @p1 (And.intro @ho (And.intro @encWt_u (And.intro @encOpr_u (And.intro @encInt_u (And.intro @hrw (And.intro @q1 (And.intro @q2 (And.intro @z3 (And.intro @hsub (And.intro @hu (And.intro @ha (And.intro @hb (And.intro @y1 (And.intro @y2 (And.intro @y4 @hf)))))))))))))))); refine gG ?_; exact gT)
    have y4 : (x.const = 0) = True := eq_true c_c0
    by_cases c_u0 : u.const = 0
    rotate_left
    · have hf := hno (fun h => c_u0 ((h.unit q3).2 u (by rw [hut]; exact hu)))
      have y5 : (u.const = 0) = False := eq_false c_u0
      (have F := And.intro @tmz (And.intro @p1 (And.intro @ho (And.intro @encWt_u (And.intro @encOpr_u (And.intro @encInt_u (And.intro @hrw (And.intro @q1 (And.intro @q2 (And.intro @z3 (And.intro @hsub (And.intro @hu (And.intro @ha (And.intro @hb (And.intro @y1 (And.intro @y2 (And.intro @y4 (And.intro @y5 @hf))))))))))))))))); refine gG ?_; exact gT)
    have y5 : (u.const = 0) = True := eq_true c_u0
    have hq : k + 1 ≤ ws.length ∧ _ := ⟨by omega, next ⟨by omega, by omega, hlen, hrange, (fun h => by rw [q1] at h; cases h), (fun _ => hab1 c_a1 c_b1), (fun _ => ⟨c_c0, fun u' hu' => by rw [hut, hu] at hu'; injection hu' with hu'; subst hu'; exact c_u0⟩)⟩⟩
    (have F := And.intro @tmz (And.intro @p1 (And.intro @ho (And.intro @encWt_u (And.intro @encOpr_u (And.intro @encInt_u (And.intro @hrw (And.intro @q1 (And.intro @q2 (And.intro @z3 (And.intro @hsub (And.intro @hu (And.intro @ha (And.intro @hb (And.intro @y1 (And.intro @y2 (And.intro @y4 (And.intro @y5 @hwk))))))))))))))))); refine gG ?_; exact ⟨k + 1, hq, gw, gw, by omega⟩)
  · have q1 : o.comm = true := by simpa using j1
    have q2 : o.assoc = false := by simpa using j2
    have q3 : o.unit = 0 := j3
    have z3 : ((0 : Int) < o.unit) = False := eq_false (by omega)
    obtain ⟨a, b, ha, hb, hma, hmb, hab1⟩ := htwo (.inl q1)
    by_cases c_ab : a = b
    rotate_left
    · have hf := hno (fun h => c_ab (by have := h.comm q1; rw [ha, hb] at this; injection this))
      have za : (a = b) = False := eq_false c_ab
      (have F := And.intro @tmz (And.intro @p1 (And.intro @ho (And.intro @encWt_u (And.intro @encOpr_u (And.intro @encInt_u (And.intro @hrw (And.intro @q1 (And.intro @q2 (And.intro @z3 (And.intro @ha (And.intro @hb (And.intro @za @hf)))))))))))); refine gG ?_; exact gT)
    have za : (a = b) = True := eq_true c_ab
    have hq : k + 1 ≤ ws.length ∧ _ := ⟨by omega, next ⟨by omega, by omega, hlen, hrange, (fun _ => by rw [ha, hb, c_ab]), (fun h => h.elim (fun h => by rw [q2] at h; cases h) fun h => absurd q3 h), (fun h => absurd q3 h)⟩⟩
    (have F := And.intro @tmz (And.intro @p1 (And.intro @ho (And.intro @encWt_u (And.intro @encOpr_u (And.intro @encInt_u (And.intro @hrw (And.intro @q1 (And.intro @q2 (And.intro @z3 (And.intro @ha (And.intro @hb (And.intro @za @hwk)))))))))))); refine gG ?_; exact ⟨k + 1, hq, gw, gw, by omega⟩)
  · have q1 : o.comm = true := by simpa using j1
    have q2 : o.assoc = false := by simpa using j2
    have q3 : o.unit ≠ 0 := j3
    obtain ⟨q, u, hq, hu, hql⟩ := hunit q3
    have z3 : ((0 : Int) < o.unit) = True := eq_true (by omega)
    have hsub : IntKind.i64.wrap (o.unit - 1) = (q : Int) := by rw [hq]; exact wrapN (by omega) (by omega) (by omega)
    have hut : o.unit.toNat - 1 = q := by omega
    obtain ⟨a, b, ha, hb, hma, hmb, hab1⟩ := htwo (.inl q1)
    by_cases c_ab : a = b
    rotate_left
    · have hf := hno (fun h => c_ab (by have := h.comm q1; rw [ha, hb] at this; injection this))
      have za : (a = b) = False := eq_false c_ab
      (have F := And.intro @tmz (And.intro @p1 (And.intro @ho (And.intro @encWt_u (And.intro @encOpr_u (And.intro @encInt_u (And.intro @hrw (And.intro @q1 (And.intro @q2 (And.intro @z3 (And.intro @hsub (And.intro @hu (And.intro @ha (And.intro @hb (And.intro @za @hf)))))))))))))); refine gG ?_; exact gT)
    have za : (a = b) = True := eq_true c_ab
    by_cases c_c0 : x.const = 0
    rotate_left
    · have hf := hno (fun h => c_c0 ((h.unit q3).1))
      have y4 : (x.const = 0) = False := eq_false c_c0
      (have F := And.intro @tmz (And.intro @p1 (And.intro @ho (And.intro @encWt_u (And.intro @encOpr_u (And.intro @encInt_u (And.intro @hrw (And.intro @q1 (And.intro @q2 (And.intro @z3 (And.intro @hsub (And.intro @hu (And.intro @ha (And.intro @hb (And.intro @za (And.intro @y4 @hf))))))))))))))); refine gG ?_; exact gT)
    have y4 : (x.const = 0) = True := eq_true c_c0
    by_cases c_a1 : a = 1
    rotate_left
    · have hf := hno (fun h => c_a1 (h.one (.inr q3) _ hma))
      have y1 : (a = 1) = False := eq_false c_a1
      (have F := And.intro @tmz (And.intro @p1 (And.intro @ho (And.intro @encWt_u (And.intro @encOpr_u (And.intro @encInt_u (And.intro @hrw (And.intro @q1 (And.intro @q2 (And.intro @z3 (And.intro @hsub (And.intro @hu (And.intro @ha (And.intro @hb (And.intro @za (And.intro @y4 (And.intro @y1 @hf)))))))))))))))); refine gG ?_; exact gT)
    have y1 : (a = 1) = True := eq_true c_a1
    by_cases c_b1 : b = 1
    rotate_left
    · have hf := hno (fun h => c_b1 (h.one (.inr q3) _ hmb))
      have y2 : (b = 1) = False := eq_false c_b1
      (have F := And.intro @tmz (And.intro @p1 (And.intro @ho (And.intro @encWt_u (And.intro @encOpr_u (And.intro @encInt_u (And.intro @hrw (And.intro @q1 (And.intro @q2 (And.intro @z3 (And.intro @hsub (And.intro @hu (And.intro @ha (And.intro @hb (And.intro @za (And.intro @y4 (And.intro @y1 (And.intro @y2 @hf))))))))))))))))); refine gG ?_; exact gT)
    have y2 : (b = 1) = True := eq_true c_b1
    by_cases c_u0 : u.const = 0
    rotate_left
    · have hf := hno (fun h => c_u0 ((h.unit q3).2 u (by rw [hut]; exact hu)))
      have y5 : (u.const = 0) = False := eq_false c_u0
      (have F := And.intro @tmz (And.intro @p1 (And.intro @ho (And.intro @encWt_u (And.intro @encOpr_u (And.intro @encInt_u (And.intro @hrw (And.intro @q1 (And.intro @q2 (And.intro @z3 (And.intro @hsub (And.intro @hu (And.intro @ha (And.intro @hb (And.intro @za (And.intro @y4 (And.intro @y1 (And.intro @y2 (And.intro @y5 @hf)))))))))))))))))); refine gG ?_; exact gT)
    have y5 : (u.const = 0) = True := eq_true c_u0
    have hq : k + 1 ≤ ws.length ∧ _ := ⟨by omega, next ⟨by omega, by omega, hlen, hrange, (fun _ => by rw [ha, hb, c_ab]), (fun _ => hab1 c_a1 c_b1), (fun _ => ⟨c_c0, fun u' hu' => by rw [hut, hu] at hu'; injection hu' with hu'; subst hu'; exact c_u0⟩)⟩⟩
    (have F := And.intro @tmz (And.intro @p1 (And.intro @ho (And.intro @encWt_u (And.intro @encOpr_u (And.intro @encInt_u (And.intro @hrw (And.intro @q1 (And.intro @q2 (And.intro @z3 (And.intro @hsub (And.intro @hu (And.intro @ha (And.intro @hb (And.intro @za (And.intro @y4 (And.intro @y1 (And.intro @y2 (And.intro @y5 @hwk)))))))))))))))))); refine gG ?_; exact ⟨k + 1, hq, gw, gw, by omega⟩)
  · have q1 : o.comm = true := by simpa using j1
    have q2 : o.assoc = true := by simpa using j2
    have q3 : o.unit = 0 := j3
    have z3 : ((0 : Int) < o.unit) = False := eq_false (by omega)
    obtain ⟨a, b, ha, hb, hma, hmb, hab1⟩ := htwo (.inl q1)
    by_cases c_ab : a = b
    rotate_left
    · have hf := hno (fun h => c_ab (by have := h.comm q1; rw [ha, hb] at this; injection this))
      have za : (a = b) = False := eq_false c_ab
      (have F := And.intro @tmz (And.intro @p1 (And.intro @ho (And.intro @encWt_u (And.intro @encOpr_u (And.intro @encInt_u (And.intro @hrw (And.intro @q1 (And.intro @q2 (And.intro @z3 (And.intro @ha (And.intro @hb (And.intro @za @hf)))))))))))); refine gG ?_; exact gT)
    have za : (a = b) = True := eq_true c_ab
    by_cases c_a1 : a = 1
    rotate_left
    · have hf := hno (fun h => c_a1 (h.one (.inl q2) _ hma))
      have y1 : (a = 1) = False := eq_false c_a1
      (have F := And.intro @tmz (And.intro @p1 (And.intro @ho (And.intro @encWt_u (And.intro @encOpr_u (And.intro @encInt_u (And.intro @hrw (And.intro @q1 (And.intro @q2 (And.intro @z3 (And.intro @ha (And.intro @hb (And.intro @za (And.intro @y1 @hf))))))))))))); refine gG ?_; exact gT)
    have y1 : (a = 1) = True := eq_true c_a1
    by_cases c_b1 : b = 1
    rotate_left
    · have hf := hno (fun h => c_b1 (h.one (.inl q2) _ hmb))
      have y2 : (b = 1) = False := eq_false c_b1
      (have F := And.intro @tmz (And.intro @p1 (And.intro @ho (And.intro @encWt_u (And.intro @encOpr_u (And.intro @encInt_u (And.intro @hrw (And.intro @q1 (And.intro @q2 (And.intro @z3 (And.intro @ha (And.intro @hb (And.intro @za (And.intro @y1 (And.intro @y2 @hf)))))))))))))); refine gG ?_; exact gT)
    have y2 : (b = 1) = True := eq_true c_b1
    have hq : k + 1 ≤ ws.length ∧ _ := ⟨by omega, next ⟨by omega, by omega, hlen, hrange, (fun _ => by rw [ha, hb, c_ab]), (fun _ => hab1 c_a1 c_b1), (fun h => absurd q3 h)⟩⟩
    (have F := And.intro @tmz (And.intro @p1 (And.intro @ho (And.intro @encWt_u (And.intro @encOpr_u (And.intro @encInt_u (And.intro @hrw (And.intro @q1 (And.intro @q2 (And.intro @z3 (And.intro @ha (And.intro @hb (And.intro @za (And.intro @y1 (And.intro @y2 @hwk)))))))))))))); refine gG ?_; exact ⟨k + 1, hq, gw, gw, by omega⟩)
  · have q1 : o.comm = true := by simpa using j1
    have q2 : o.assoc = true := by simpa using j2
    have q3 : o.unit ≠ 0 := j3
    obtain ⟨q, u, hq, hu, hql⟩ := hunit q3
    have z3 : ((0 : Int) < o.unit) = True := eq_true (by omega)
    have hsub : IntKind.i64.wrap (o.unit - 1) = (q : Int) := by rw [hq]; exact wrapN (by omega) (by omega) (by omega)
    have hut : o.unit.toNat - 1 = q := by omega
    obtain ⟨a, b, ha, hb, hma, hmb, hab1⟩ := htwo (.inl q1)
    by_cases c_ab : a = b
    rotate_left
    · have hf := hno (fun h => c_ab (by have := h.comm q1; rw [ha, hb] at this; injection this))
      have za : (a = b) = False := eq_false c_ab
      (have F := And.intro @tmz (And.intro @p1 (And.intro @ho (And.intro @encWt_u (And.intro @encOpr_u (And.intro @encInt_u (And.intro @hrw (And.intro @q1 (And.intro @q2 (And.intro @z3 (And.intro @hsub (And.intro @hu (And.intro @ha (And.intro @hb (And.intro @za @hf)))))))))))))); refine gG ?_; exact gT)
    have za : (a = b) = True := eq_true c_ab
    by_cases c_a1 : a = 1
    rotate_left
    · have hf := hno (fun h => c_a1 (h.one (.inl q2) _ hma))
      have y1 : (a = 1) = False := eq_false c_a1
      (have F := And.intro @tmz (And.intro @p1 (And.intro @ho (And.intro @encWt_u (And.intro @encOpr_u (And.intro @encInt_u (And.intro @hrw (And.intro @q1 (And.intro @q2 (And.intro @z3 (And.intro @hsub (And.intro @hu (And.intro @ha (And.intro @hb (And.intro @za (And.intro @y1 @hf))))))))))))))); refine gG ?_; exact gT)
    have y1 : (a = 1) = True := eq_true c_a1
    by_cases c_b1 : b = 1
    rotate_left
    · have hf := hno (fun h => c_b1 (h.one (.inl q2) _ hmb))
      have y2 : (b = 1) = False := eq_false c_b1
      (have F := And.intro @tmz (And.intro @p1 (And.intro @ho (And.intro @encWt_u (And.intro @encOpr_u (And.intro @encInt_u (And.intro @hrw (And.intro @q1 (And.intro @q2 (And.intro @z3 (And.intro @hsub (And.intro @hu (And.intro @ha (And.intro @hb (And.intro @za (And.intro @y1 (And.intro @y2 @hf)))))))))))))))); refine gG ?_; exact gT)
    have y2 : (b = 1) = True := eq_true c_b1
    by_cases c_c0 : x.const = 0
    rotate_left
    · have hf := hno (fun h => c_c0 ((h.unit q3).1))
      have y4 : (x.const = 0) = False := eq_false c_c0
      (have F := And.intro @tmz (And.intro @p1 (And.intro @ho (And.intro @encWt_u (And.intro @encOpr_u (And.intro @encInt_u (And.intro @hrw (And.intro @q1 (And.intro @q2 (And.intro @z3 (And.intro @hsub (And.intro @hu (And.intro @ha (And.intro @hb (And.intro @za (And.intro @y1 (And.intro @y2 (And.intro @y4 @hf))))))))))))))))); refine gG ?_; exact gT)
    have y4 : (x.const = 0) = True := eq_true c_c0
    by_cases c_u0 : u.const = 0
    rotate_left
    · have hf := hno (fun h => c_u0 ((h.unit q3).2 u (by rw [hut]; exact hu)))
      have y5 : (u.const = 0) = False := eq_false c_u0
      (have F := And.intro @tmz (And.intro @p1 (And.intro @ho (And.intro @encWt_u (And.intro @encOpr_u (And.intro @encInt_u (And.intro @hrw (And.intro @q1 (And.intro @q2 (And.intro @z3 (And.intro @hsub (And.intro @hu (And.intro @ha (And.intro @hb (And.intro @za (And.intro @y1 (And.intro @y2 (And.intro @y4 (And.intro @y5 @hf)))))))))))))))))); refine gG ?_; exact gT)
    have y5 : (u.const = 0) = True := eq_true c_u0
    have hq : k + 1 ≤ ws.length ∧ _ := ⟨by omega, next ⟨by omega, by omega, hlen, hrange, (fun _ => by rw [ha, hb, c_ab]), (fun _ => hab1 c_a1 c_b1), (fun _ => ⟨c_c0, fun u' hu' => by rw [hut, hu] at hu'; injection hu' with hu'; subst hu'; exact c_u0⟩)⟩⟩
    (have F := And.intro @tmz (And.intro @p1 (And.intro @ho (And.intro @encWt_u (And.intro @encOpr_u (And.intro @encInt_u (And.intro @hrw (And.intro @q1 (And.intro @q2 (And.intro @z3 (And.intro @hsub (And.intro @hu (And.intro @ha (And.intro @hb (And.intro @za (And.intro @y1 (And.intro @y2 (And.intro @y4 (And.intro @y5 @hwk)))))))))))))))))); refine gG ?_; exact ⟨k + 1, hq, gw, gw, by omega⟩)
end
end Go.Proofs.YtofklmbljbkdaaaGreat
namespace Go.Proofs.YtofklmbljbkdaaaGreat
open Go.RowKit
end Go.Proofs.YtofklmbljbkdaaaGreat
namespace Go.Proofs.YtofklmbljbkdaaaGreat
open Go.RowKit
section
variable {g : Sgn} {a : Alg}
end
end Go.Proofs.YtofklmbljbkdaaaGreat
namespace Go.Proofs.YtofklmbljbkdaaaGreat
open Go.RowKit
theorem con_szWeightS {rows : List (List C)} (hok : okRows (fieldsOf .weight) rows) {left : Int} (h0 : 0 ≤ left) (h1 : left ≤ 1048576) : Con e0 18 [.one (.sl rows), .one (.lit (.int .i64 left))] [.one (.lit (.int .i64 (sub left (rows.length + bulkRows rows))))] := by
  refine con_below e0_ok (by kernel_rfl) fun w S vs h => ?_
  match vs, h with
  | [v, u], h =>
    obtain ⟨hv, h2, _⟩ := h
    have h2 : u = .int .i64 left := by simpa [DRel, Rep] using h2
    subst h2
    exact (szWeightS_any rows S v left w hok hv h0 h1).mono fun e w' ⟨h1, h2⟩ => ⟨_, h1, h2, by simp [retA, ARel, DRel, Rep]⟩
theorem con_eqWeightS {rows : List (List C)} (hok : okRows (fieldsOf .weight) rows) : Con e0 22 [.one (.sl rows), .one (.sl rows)] [.one (.lit (.bool true))] := by
  refine con_below e0_ok (by kernel_rfl) fun w S vs h => ?_
  match vs, h with
  | [v, u], h =>
    obtain ⟨hv, hu, _⟩ := h
    exact (eqWeightS_any rows S S v u w hok hv hu).mono fun e w' ⟨h1, h2⟩ => ⟨_, h1, h2, by simp [retA, ARel, DRel, Rep]⟩
theorem con_toWeightS {rows : List (List C)} (hok : okRows (fieldsOf .weight) rows) (hb : rows.length + bulkRows rows ≤ 1048576) : Con e0 20 [.one (.sl rows)] [.one (.sl rows)] := by
  refine con_below e0_ok (by kernel_rfl) fun w S vs h => ?_
  match vs, h with
  | [v], h =>
    obtain ⟨hv, _⟩ := h
    exact (toWeightS_any rows S v w hok hv hb).mono fun e w' ⟨v', h1, h2, h3⟩ => ⟨_, h1, h3, (Own.rep _ _ v' h2).mono fun b hb => .inr hb⟩
end Go.Proofs.YtofklmbljbkdaaaGreat
