/-
  Part 2 of a proof: LString, LSub, LSorts, LInt, LDecl, LOp, LSignature, Enc, LInts, LAlgebra, Alg0, Qe, Qh, Ow, Qg, LTerm, Tm, Te0, Ot, St, Ss, By, Mt, Om, Sl, Or, Rd, Ats.
-/
import Derived.Test.YtmpcbijkbgmjkaaBSubtermAt0
import Derived.Test.YtmpcbijkbgmjkaaBSubtermAt1
import Derived.Test.YtmpcbijkbgmjkaaRows
import Derived.Deep.QuietTactic
import Derived.BigQuiet
import Derived.Deep.RegionHeld3
import Derived.Lib.Bytealg
set_option linter.unusedSimpArgs false
set_option linter.unusedVariables false
namespace Go.Proofs.Ytmpcbijkbgmjkaa
open Go.RowKit
theorem okRow_String {r : List C} (h : okRow (fieldsOf .str) r) : ∃ x0 : ByteArray, r = [.lit (.string x0)] ∧ x0.size ≤ maxLen := by
  obtain ⟨c0, rfl⟩ := len1 h.len
  simp only [fieldsOf, okRow, and_true] at h
  have h0 := h
  obtain ⟨x0, rfl, g0⟩ := okC_str h0
  exact ⟨x0, rfl, g0⟩
theorem mkRow_String {x0 : ByteArray} (g0 : x0.size ≤ maxLen) : okRow (fieldsOf .str) [.lit (.string x0)] := by
  simp only [fieldsOf, okRow, and_true]
  exact mk_str g0
def szStringSC (rows : List (List C)) : Prop := ∀ (S : Nat → Prop) (v : Value) (left : Int) (w : World), okRows (fieldsOf .str) rows → Rep w S (.sl rows) v → 0 ≤ left → left ≤ 1048576 →
  Calls Try.prog 72 #[v, .int .i64 left] w fun e w' => e = .returned (.int .i64 (sub left (rows.length + bulkRows rows))) ∧ Below w.heap.size w w'
def eqStringSC (rows : List (List C)) : Prop := ∀ (S S' : Nat → Prop) (v v' : Value) (w : World), okRows (fieldsOf .str) rows → Rep w S (.sl rows) v → Rep w S' (.sl rows) v' →
  Calls Try.prog 84 #[v, v'] w fun e w' => e = .returned (.bool true) ∧ Below w.heap.size w w'
def toStringSC (rows : List (List C)) : Prop := ∀ (S : Nat → Prop) (v : Value) (w : World), okRows (fieldsOf .str) rows → Rep w S (.sl rows) v → rows.length + bulkRows rows ≤ 1048576 →
  Calls Try.prog 80 #[v] w fun e w' => ∃ v', e = .returned v' ∧ Own w' (.sl rows) (fun x => w.heap.size ≤ x ∧ x < w'.heap.size) v' ∧ Below w.heap.size w w'
set_option maxHeartbeats 1000000 in
theorem szStringS_any (rows : List (List C)) : szStringSC rows := by
  intro S v left w hok hv h0 h1
  obtain ⟨A, m, cap, rfl, hm, hmc, hcm⟩ := hv.form
  have HV := Lib.hid hv
  have HM := Lib.hid hm
  have HOK := Lib.hid hok
  clear hv hm hok
  unfold maxLen at hcm
  by_cases hlt : left - m < 0
  · rw [sub_neg (by have := HM.out; omega)]
    go_enter Try.func72, Try.ntmps72
    go_wp2
    go_ret
    exact ⟨rfl, Below.refl _ _⟩
  · go_enter Try.func72, Try.ntmps72
    go_wp2
    go_loopw [1, 5] (fun l i wr => ∃ k : Nat, k ≤ m ∧ i = .int .i64 k ∧ l = .int .i64 (left - m - (bulkRows (rows.take k) : Int)) ∧ 0 ≤ left - m - (bulkRows (rows.take k) : Int) ∧ Below w.heap.size w wr) (fun _ i _ => m - (intOf i).toNat)
    case atStart => exact ⟨0, Nat.zero_le _, rfl, by simp [bulkRows], by simp [bulkRows]; omega, Below.refl _ _⟩
    case round =>
      obtain ⟨k, hk, rfl, rfl, hl0, hb⟩ := hrel
      by_cases hkm : k < m
      · obtain ⟨b, off, r, rfl, hS, hbz, hget, hokr, hrow⟩ := (HV.out.below hb).get HOK.out hkm
        obtain ⟨u0, c0, hvals⟩ := hrow.vals1 hokr.len
        obtain ⟨x0, rfl, g0⟩ := okRow_String hokr
        simp only [RepVals, Rep.lit_iff, and_true] at hvals
        subst hvals
        unfold maxLen at g0
        have hle := bulk_take_le rows (k+1)
        have HBT := Lib.hid (bulk_take hget)
        simp only [bulkRow, bulkC, Nat.add_zero] at HBT
        clear hokr hrow hget
        simp only [fieldsOf, List.length_cons, List.length_nil, Nat.reduceAdd, Nat.mul_one] at c0
        by_cases h2 : left - m - (bulkRows (rows.take k) : Int) - x0.size < 0
        · go_wp2
          go_ret
          exact ⟨ret_int (a := -1) (sub_neg (by have := HBT.out; have := HM.out; omega)).symm, hb⟩
        · go_wp2
          go_roundw
          case rel => exact ⟨k + 1, by omega, by go_num, by have := HBT.out; congr 1; omega, by have := HBT.out; omega, hb⟩
          case measure => simp [intOf]; omega
      · go_wp2
        go_ret
        have e : k = m := by omega
        subst e
        have : rows.take k = rows := List.take_of_length_le (by have := HM.out; omega)
        rw [this] at hl0 ⊢
        exact ⟨ret_int (by have := HM.out; rw [sub_pos (by omega)]; omega), hb⟩
set_option maxHeartbeats 1000000 in
theorem eqStringS_any (rows : List (List C)) : eqStringSC rows := by
  intro S S' v v' w hok hv hv'
  obtain ⟨A, m, cap, rfl, hm, hmc, hcm⟩ := hv.form
  obtain ⟨A', m', cap', rfl, hm', hmc', hcm'⟩ := hv'.form
  obtain rfl : m = m' := by omega
  have HV := Lib.hid hv
  have HV' := Lib.hid hv'
  have HM := Lib.hid hm
  have HOK := Lib.hid hok
  clear hv hm hok hm' hv'
  unfold maxLen at hcm hcm'
  go_enter Try.func84, Try.ntmps84
  go_wp2
  go_loopw [5] (fun i wr => ∃ k : Nat, k ≤ m ∧ i = .int .i64 k ∧ Below w.heap.size w wr) (fun i _ => m - (intOf i).toNat)
  case atStart => exact ⟨0, Nat.zero_le _, rfl, Below.refl _ _⟩
  case round =>
    obtain ⟨k, hk, rfl, hb⟩ := hrel
    by_cases hkm : k < m
    · obtain ⟨b, off, r, rfl, hS, hbz, hget, hokr, hrow⟩ := (HV.out.below hb).get HOK.out hkm
      obtain ⟨b', off', r', rfl, hS', hbz', hget', hokr', hrow'⟩ := (HV'.out.below hb).get HOK.out hkm
      obtain rfl : r = r' := by rw [hget] at hget'; exact Option.some.inj hget'
      obtain ⟨u0, c0, hvals⟩ := hrow.vals1 hokr.len
      obtain ⟨u1, d0, hvals'⟩ := hrow'.vals1 hokr.len
      obtain ⟨x0, rfl, g0⟩ := okRow_String hokr
      simp only [RepVals, Rep.lit_iff, and_true] at hvals hvals'
      subst hvals
      subst hvals'
      clear hokr hokr' hrow hrow' hget hget' g0
      simp only [fieldsOf, List.length_cons, List.length_nil, Nat.reduceAdd, Nat.mul_one] at c0 d0
      have k0 : (0 : Int) ≤ (k : Int) := by omega
      have k1 : (k : Int) < (m : Int) := by omega
      go_wp2_with fail
      go_quiet (fail)
      go_wp2
      go_roundw
      case rel => exact ⟨k + 1, by omega, by go_num, hb.trans (below_drewN (Below.refl _ _) _)⟩
      case measure => simp [intOf]; omega
    · go_wp2
      go_ret
      exact ⟨rfl, hb⟩
theorem info_String : (Try.prog.info? 9).map (fun i => (i.zero, i.size, i.bytes)) = some (some (.string .empty), 1, 16) := by kernel_rfl
set_option maxHeartbeats 1000000 in
theorem toStringS_any (rows : List (List C)) : toStringSC rows := by
  intro S v w hok hv hlen
  obtain ⟨A, m, cap, rfl, hm, hmc, hcm⟩ := hv.form
  obtain ⟨i0, hi, hz0, hz1, hz2⟩ := info_parts info_String
  have HV := Lib.hid hv
  have HM := Lib.hid hm
  have HOK := Lib.hid hok
  have hml : m ≤ 1048576 := by omega
  clear hv hm hok
  unfold maxLen at hcm
  have hmk := run_make (P := Try.prog) w 39 9 i0 _ Try.underlying39 hi hz0 .i64 .i64 (m : Int) (m : Int) (by omega) (by omega) (by rw [hz2]; omega) (by omega)
  go_enter Try.func80, Try.ntmps80
  go_wp2
  clear hmk
  go_loopw [4] (fun i wr => ∃ k : Nat, k ≤ m ∧ i = .int .i64 k ∧ Filling w w.heap.size 9 m 1 rows k wr) (fun i _ => m - (intOf i).toNat)
  case atStart => exact ⟨0, Nat.zero_le _, rfl, Filling.start (by rw [size_madeCells]; omega)⟩
  case round =>
    obtain ⟨k, hk, rfl, hfill⟩ := hrel
    have hb := hfill.1
    by_cases hkm : k < m
    · obtain ⟨b, off, r, rfl, hS, hbz, hget, hokr, hrow⟩ := (HV.out.below hb).get HOK.out hkm
      obtain ⟨u0, c0, hvals⟩ := hrow.vals1 hokr.len
      obtain ⟨x0, rfl, g0⟩ := okRow_String hokr
      simp only [RepVals, Rep.lit_iff, and_true] at hvals
      subst hvals
      have HGET := Lib.hid hget
      have HF := Lib.hid hfill
      obtain ⟨cur, hcur, hcs⟩ := HF.out.row (Below.refl _ _)
      have HCUR := Lib.hid hcur
      have HCS := Lib.hid hcs
      clear hokr hrow hget hfill g0 hcur hcs
      simp only [fieldsOf, List.length_cons, List.length_nil, Nat.reduceAdd, Nat.mul_one] at c0
      go_wp2_with (refine wpList_store_put rfl 9 _ _ rfl w.heap.size k rfl [.string x0] rfl i0 hi hz1 9 cur HCUR.out (by have := HCS.out; simp only [List.length_cons, List.length_nil]; omega) (by simp [Value.oneCell']) ?_; intro w3 hput)
      go_roundw
      case rel => exact ⟨k + 1, by omega, by go_num, HF.out.step (fs := fieldsOf .str) HOK.out HGET.out (Below.refl _ _) (OwnVals.lit OwnVals.nil) (by simpa [fieldsOf] using hput)⟩
      case measure => simp [intOf]; omega
    · go_wp2
      go_ret
      have e : k = m := by omega
      subst e
      exact ⟨_, rfl, hfill.done HM.out (by unfold maxLen; omega) (by decide) HOK.out.lens⟩
end Go.Proofs.Ytmpcbijkbgmjkaa

namespace Go.Proofs.Ytmpcbijkbgmjkaa
open Go.RowKit
theorem okRow_Sub {r : List C} (h : okRow (fieldsOf .sub) r) : ∃ (i0 : Int) (i1 : Int), r = [.lit (.int .i64 i0), .lit (.int .i64 i1)] ∧ I64 i0 ∧ I64 i1 := by
  obtain ⟨c0, c1, rfl⟩ := len2 h.len
  simp only [fieldsOf, termF, occF, sortsF, sigF, moduleF, algF, List.cons_append, List.nil_append, okRow, and_true] at h
  obtain ⟨h0, h1⟩ := h
  obtain ⟨i0, rfl, g0⟩ := okC_int h0
  obtain ⟨i1, rfl, g1⟩ := okC_int h1
  exact ⟨i0, i1, rfl, g0, g1⟩
theorem mkRow_Sub {i0 : Int} {i1 : Int} (g0 : I64 i0) (g1 : I64 i1) : okRow (fieldsOf .sub) [.lit (.int .i64 i0), .lit (.int .i64 i1)] := by
  simp only [fieldsOf, termF, occF, sortsF, sigF, moduleF, algF, List.cons_append, List.nil_append, okRow, and_true]
  exact ⟨mk_int g0, mk_int g1⟩
theorem repVals_Sub {w : World} {S : Nat → Prop} {i0 : Int} {i1 : Int} {us : List Value} (h : RepVals w S [.lit (.int .i64 i0), .lit (.int .i64 i1)] us) : us = [.int .i64 i0, .int .i64 i1] := by
  obtain ⟨u0, u1, rfl⟩ := len2 h.len
  simp only [RepVals, Rep.lit_iff, and_true] at h
  obtain ⟨rfl, rfl⟩ := h
  exact rfl
theorem mkVals_Sub {w : World} {S : Nat → Prop} {i0 : Int} {i1 : Int}   : RepVals w S [.lit (.int .i64 i0), .lit (.int .i64 i1)] [.int .i64 i0, .int .i64 i1] := by
  simp only [RepVals, Rep.lit_iff, and_true]
def eqSubC (row : List C) : Prop := ∀ (S S' : Nat → Prop) (us us' : List Value) (w : World), okRow (fieldsOf .sub) row → RepVals w S row us → RepVals w S' row us' →
  Calls Try.prog 124 #[.agg us.toArray, .agg us'.toArray] w fun e w' => e = .returned (.bool true) ∧ Below w.heap.size w w'
def toSubC (row : List C) : Prop := ∀ (S : Nat → Prop) (us : List Value) (w : World), okRow (fieldsOf .sub) row → RepVals w S row us → bulkRow row ≤ 1048576 →
  Calls Try.prog 119 #[.agg us.toArray] w fun e w' => ∃ us' : List Value, e = .returned (.agg us'.toArray) ∧ OwnVals w' row (fun x => w.heap.size ≤ x ∧ x < w'.heap.size) us' ∧ Below w.heap.size w w'
def szSubSC (rows : List (List C)) : Prop := ∀ (S : Nat → Prop) (v : Value) (left : Int) (w : World), okRows (fieldsOf .sub) rows → Rep w S (.sl rows) v → 0 ≤ left → left ≤ 1048576 →
  Calls Try.prog 73 #[v, .int .i64 left] w fun e w' => e = .returned (.int .i64 (sub left (rows.length + bulkRows rows))) ∧ Below w.heap.size w w'
def eqSubSC (rows : List (List C)) : Prop := ∀ (S S' : Nat → Prop) (v v' : Value) (w : World), okRows (fieldsOf .sub) rows → Rep w S (.sl rows) v → Rep w S' (.sl rows) v' →
  Calls Try.prog 85 #[v, v'] w fun e w' => e = .returned (.bool true) ∧ Below w.heap.size w w'
def toSubSC (rows : List (List C)) : Prop := ∀ (S : Nat → Prop) (v : Value) (w : World), okRows (fieldsOf .sub) rows → Rep w S (.sl rows) v → rows.length + bulkRows rows ≤ 1048576 →
  Calls Try.prog 81 #[v] w fun e w' => ∃ v', e = .returned v' ∧ Own w' (.sl rows) (fun x => w.heap.size ≤ x ∧ x < w'.heap.size) v' ∧ Below w.heap.size w w'

set_option maxHeartbeats 1000000 in
theorem eqSub_of (row : List C) : eqSubC row := by
  intro S S' us us' w hok hv hv'
  obtain ⟨i0, i1, rfl, g0, g1⟩ := okRow_Sub hok
  obtain rfl := repVals_Sub hv
  obtain rfl := repVals_Sub hv'
  have G0 := Lib.hid g0
  have G1 := Lib.hid g1
  clear g0 g1 hok
  clear hv hv' 
  have hbw := ((Below.refl w.heap.size w).alloc (Nat.le_refl _) (.cells #[.int .i64 i0, .int .i64 i1] 168)).alloc (by simp) (.cells #[.int .i64 i0, .int .i64 i1] 168)
  go_enter Try.func124, Try.ntmps124
  go_wp2
  go_ret
  exact ⟨rfl, hbw⟩

set_option maxHeartbeats 2000000 in
theorem toSub_of (row : List C) : toSubC row := by
  intro S us w hok hv hlen
  obtain ⟨i0, i1, rfl, g0, g1⟩ := okRow_Sub hok
  obtain rfl := repVals_Sub hv
  have G0 := Lib.hid g0
  have G1 := Lib.hid g1
  clear g0 g1 hok
  clear hv 
  clear hlen
  go_enter Try.func119, Try.ntmps119
  go_wp2
  refine bodyPost_ret (v := .agg #[.int .i64 i0, .int .i64 i1]) (by simp [results, Try.results119, go_sem]) rfl ⟨[.int .i64 i0, .int .i64 i1], rfl, ?_, (by repeat (first | refine Below.alloc ?_ (by simp; try omega) _ | exact Below.refl _ _))⟩
  simp
  exact (OwnVals.lit (OwnVals.lit OwnVals.nil))
theorem eqSub_any (row : List C) : eqSubC row := eqSub_of row
theorem toSub_any (row : List C) : toSubC row := toSub_of row

theorem bulk_Sub : ∀ (rows : List (List C)), okRows (fieldsOf .sub) rows → bulkRows rows = 0
  | [], _ => by simp [bulkRows]
  | r :: rs, h => by
    obtain ⟨i0, i1, rfl, _⟩ := okRow_Sub h.1
    simp [bulkRows, bulkRow, bulkC, bulk_Sub rs h.2]
set_option maxHeartbeats 1000000 in
theorem szSubS_any (rows : List (List C)) : szSubSC rows := by
  intro S v left w hok hv h0 h1
  obtain ⟨A, m, cap, rfl, hm, hmc, hcm⟩ := hv.form
  have hz := bulk_Sub rows hok
  rw [hz, hm]
  clear hv hm hok hz
  unfold maxLen at hcm
  by_cases hlt : left - m < 0
  · rw [sub_neg (by omega)]
    go_enter Try.func73, Try.ntmps73
    go_wp2
    go_ret
    exact ⟨rfl, Below.refl _ _⟩
  · rw [sub_pos (by omega)]
    go_enter Try.func73, Try.ntmps73
    go_wp2
    go_ret
    exact ⟨ret_int (by omega), Below.refl _ _⟩

set_option maxHeartbeats 1000000 in
theorem eqSubS_of (rows : List (List C)) (h : ∀ (i : Nat) r, rows[i]? = some r → eqSubC r) : eqSubSC rows := by
  intro S S' v v' w hok hv hv'
  obtain ⟨A, m, cap, rfl, hm, hmc, hcm⟩ := hv.form
  obtain ⟨A', m', cap', rfl, hm', hmc', hcm'⟩ := hv'.form
  obtain rfl : m = m' := by omega
  have H := Lib.hid h
  have HV := Lib.hid hv
  have HV' := Lib.hid hv'
  have HM := Lib.hid hm
  have HOK := Lib.hid hok
  clear h hv hm hok hm' hv'
  unfold maxLen at hcm hcm'
  go_enter Try.func85, Try.ntmps85
  go_wp2
  go_loopw [5] (fun i wr => ∃ k : Nat, k ≤ m ∧ i = .int .i64 k ∧ Below w.heap.size w wr) (fun i _ => m - (intOf i).toNat)
  case atStart => exact ⟨0, Nat.zero_le _, rfl, Below.refl _ _⟩
  case round =>
    obtain ⟨k, hk, rfl, hb⟩ := hrel
    by_cases hkm : k < m
    · obtain ⟨b, off, r, rfl, hS, hbz, hget, hokr, hrow⟩ := (HV.out.below hb).get HOK.out hkm
      obtain ⟨b', off', r', rfl, hS', hbz', hget', hokr', hrow'⟩ := (HV'.out.below hb).get HOK.out hkm
      obtain rfl : r = r' := by rw [hget] at hget'; exact Option.some.inj hget'
      obtain ⟨u0, u1, c0, c1, hvals⟩ := hrow.vals2 hokr.len
      obtain ⟨x0, x1, d0, d1, hvals'⟩ := hrow'.vals2 hokr.len
      have HT := H.out k r hget
      have HVALS := Lib.hid hvals
      have HVALS' := Lib.hid hvals'
      have HOKR := Lib.hid hokr
      clear hvals hvals' hokr hokr' hrow hrow' hget hget'
      simp only [fieldsOf, termF, occF, sortsF, sigF, moduleF, algF, List.cons_append, List.nil_append, List.length_cons, List.length_nil, Nat.reduceAdd, Nat.mul_one] at c0 c1 d0 d1
      have k0 : (0 : Int) ≤ (k : Int) := by omega
      have k1 : (k : Int) < (m : Int) := by omega
      go_wp2_with fail
      go_region_held3 (fun w' => ∀ b o, b < wr.heap.size → w'.cell? ⟨b, o, none⟩ = wr.cell? ⟨b, o, none⟩) (first | go_keep | exact fun b o h => hb2.cell (p := ⟨b, o, none⟩) h) (first | (go_at_call 124; refine (HT S S' _ _ _ HOKR.out (HVALS.out.below (Below.refl _ _).drew) (HVALS'.out.below (Below.refl _ _).drew)).mono ?_; rintro e w' ⟨rfl, hb2⟩))
      go_wp2
      go_roundw
      case rel => exact ⟨k + 1, by omega, by go_num, hb.trans ((Below.refl _ _).drew.trans (hb2.mono hb.size))⟩
      case measure => simp [intOf]; omega
    · go_wp2
      go_ret
      exact ⟨rfl, hb⟩
theorem info_Sub : (Try.prog.info? 168).map (fun i => (i.zero, i.size, i.bytes)) = some (some (.agg #[.int .i64 0, .int .i64 0]), 2, 16) := by kernel_rfl
set_option maxHeartbeats 1000000 in
theorem toSubS_of (rows : List (List C)) (h : ∀ (i : Nat) r, rows[i]? = some r → toSubC r) : toSubSC rows := by
  intro S v w hok hv hlen
  obtain ⟨A, m, cap, rfl, hm, hmc, hcm⟩ := hv.form
  obtain ⟨i0, hi, hz0, hz1, hz2⟩ := info_parts info_Sub
  have H := Lib.hid h
  have HV := Lib.hid hv
  have HM := Lib.hid hm
  have HOK := Lib.hid hok
  have hml : m ≤ 1048576 := by omega
  clear h hv hm hok
  unfold maxLen at hcm
  have hmk := run_make (P := Try.prog) w 52 168 i0 _ Try.underlying52 hi hz0 .i64 .i64 (m : Int) (m : Int) (by omega) (by omega) (by rw [hz2]; omega) (by omega)
  go_enter Try.func81, Try.ntmps81
  go_wp2
  clear hmk
  go_loopw [4] (fun i wr => ∃ k : Nat, k ≤ m ∧ i = .int .i64 k ∧ Filling w w.heap.size 168 m 2 rows k wr) (fun i _ => m - (intOf i).toNat)
  case atStart => exact ⟨0, Nat.zero_le _, rfl, Filling.start (size_madeCells _ _)⟩
  case round =>
    obtain ⟨k, hk, rfl, hfill⟩ := hrel
    have hb := hfill.1
    by_cases hkm : k < m
    · obtain ⟨b, off, r, rfl, hS, hbz, hget, hokr, hrow⟩ := (HV.out.below hb).get HOK.out hkm
      obtain ⟨u0, u1, c0, c1, hvals⟩ := hrow.vals2 hokr.len
      have HT := H.out k r hget
      have HVALS := Lib.hid hvals
      have HOKR := Lib.hid hokr
      have HGET := Lib.hid hget
      have HF := Lib.hid hfill
      have hbg := bulk_get hget
      clear hvals hokr hrow hget hfill
      simp only [fieldsOf, termF, occF, sortsF, sigF, moduleF, algF, List.cons_append, List.nil_append, List.length_cons, List.length_nil, Nat.reduceAdd, Nat.mul_one] at c0 c1
      go_wp2_with fail
      refine (HT S _ _ HOKR.out HVALS.out (by omega)).mono ?_
      rintro e w2 ⟨us, rfl, hown, hb2⟩
      have hone := HOKR.out.one (OwnVals.rep _ _ (fun _ => True) _ (fun _ _ => trivial) hown)
      obtain ⟨y0, y1, rfl⟩ := len2 (hown.len.trans HOKR.out.len)
      have HOWN := Lib.hid hown
      have HONE := Lib.hid hone
      obtain ⟨cur, hcur, hcs⟩ := HF.out.row hb2
      have HCUR := Lib.hid hcur
      have HCS := Lib.hid hcs
      clear hown hone hcur hcs
      go_wp2_with (refine wpList_store_put rfl 168 _ _ rfl w.heap.size (k * 2) rfl [y0, y1] rfl i0 hi hz1 168 cur HCUR.out (by have := HCS.out; simp only [List.length_cons, List.length_nil]; omega) HONE.out ?_; intro w3 hput)
      go_roundw
      case rel => exact ⟨k + 1, by omega, by go_num, HF.out.step (fs := fieldsOf .sub) HOK.out HGET.out hb2 HOWN.out hput⟩
      case measure => simp [intOf]; omega
    · go_wp2
      go_ret
      have e : k = m := by omega
      subst e
      exact ⟨_, rfl, hfill.done HM.out (by unfold maxLen; omega) (by decide) HOK.out.lens⟩
theorem eqSubS_any (rows : List (List C)) : eqSubSC rows := eqSubS_of rows (fun _ r _ => eqSub_any r)
theorem toSubS_any (rows : List (List C)) : toSubSC rows := toSubS_of rows (fun _ r _ => toSub_any r)
end Go.Proofs.Ytmpcbijkbgmjkaa

namespace Go.Proofs.Ytmpcbijkbgmjkaa
open Go.RowKit
theorem okRow_Sorts {r : List C} (h : okRow (sortsF) r) : ∃ (r0 : List (List C)) (r1 : List (List C)), r = [.sl r0, .sl r1] ∧ okRows (fieldsOf .str) r0 ∧ okRows (fieldsOf .sub) r1 := by
  obtain ⟨c0, c1, rfl⟩ := len2 h.len
  simp only [fieldsOf, termF, occF, sortsF, sigF, moduleF, algF, List.cons_append, List.nil_append, okRow, and_true] at h
  obtain ⟨h0, h1⟩ := h
  obtain ⟨r0, rfl, g0⟩ := okC_sl h0
  obtain ⟨r1, rfl, g1⟩ := okC_sl h1
  exact ⟨r0, r1, rfl, g0, g1⟩
theorem mkRow_Sorts {r0 : List (List C)} {r1 : List (List C)} (g0 : okRows (fieldsOf .str) r0) (g1 : okRows (fieldsOf .sub) r1) : okRow (sortsF) [.sl r0, .sl r1] := by
  simp only [fieldsOf, termF, occF, sortsF, sigF, moduleF, algF, List.cons_append, List.nil_append, okRow, and_true]
  exact ⟨mk_sl g0, mk_sl g1⟩
theorem repVals_Sorts {w : World} {S : Nat → Prop} {r0 : List (List C)} {r1 : List (List C)} {us : List Value} (h : RepVals w S [.sl r0, .sl r1] us) : ∃ v0 v1, us = [v0, v1] ∧ Rep w S (.sl r0) v0 ∧ Rep w S (.sl r1) v1 := by
  obtain ⟨u0, u1, rfl⟩ := len2 h.len
  simp only [RepVals, Rep.lit_iff, and_true] at h
  obtain ⟨e0, e1⟩ := h
  exact ⟨u0, u1, rfl, e0, e1⟩
theorem mkVals_Sorts {w : World} {S : Nat → Prop} {r0 : List (List C)} {r1 : List (List C)} {v0 : Value} {v1 : Value} (e0 : Rep w S (.sl r0) v0) (e1 : Rep w S (.sl r1) v1) : RepVals w S [.sl r0, .sl r1] [v0, v1] := by
  simp only [RepVals, Rep.lit_iff, and_true, true_and]
  exact ⟨e0, e1⟩
def szSortsC (row : List C) : Prop := ∀ (S : Nat → Prop) (us : List Value) (left : Int) (w : World), okRow (sortsF) row → RepVals w S row us → 0 ≤ left → left ≤ 1048576 →
  Calls Try.prog 42 #[.agg us.toArray, .int .i64 left] w fun e w' => e = .returned (.int .i64 (sub left (bulkRow row))) ∧ Below w.heap.size w w'
def eqSortsC (row : List C) : Prop := ∀ (S S' : Nat → Prop) (us us' : List Value) (w : World), okRow (sortsF) row → RepVals w S row us → RepVals w S' row us' →
  Calls Try.prog 52 #[.agg us.toArray, .agg us'.toArray] w fun e w' => e = .returned (.bool true) ∧ Below w.heap.size w w'
def toSortsC (row : List C) : Prop := ∀ (S : Nat → Prop) (us : List Value) (w : World), okRow (sortsF) row → RepVals w S row us → bulkRow row ≤ 1048576 →
  Calls Try.prog 47 #[.agg us.toArray] w fun e w' => ∃ us' : List Value, e = .returned (.agg us'.toArray) ∧ OwnVals w' row (fun x => w.heap.size ≤ x ∧ x < w'.heap.size) us' ∧ Below w.heap.size w w'

set_option maxHeartbeats 1000000 in
theorem szSorts_of (row : List C) : szSortsC row := by
  intro S us left w hok hv h0 h1
  obtain ⟨r0, r1, rfl, g0, g1⟩ := okRow_Sorts hok
  obtain ⟨v0, v1, rfl, e0, e1⟩ := repVals_Sorts hv
  have HC0 := Lib.hid (szStringS_any r0)
  have HC1 := Lib.hid (szSubS_any r1)
  have HB := Lib.hid (show bulkRow [.sl r0, .sl r1] = (r0.length + bulkRows r0) + (r1.length + bulkRows r1) from by simp only [bulkRow, bulkC]; omega)
  have G0 := Lib.hid g0
  have G1 := Lib.hid g1
  clear g0 g1 hok
  have E0 := Lib.hid e0
  have E1 := Lib.hid e1
  clear hv e0 e1
  generalize hrow : bulkRow [.sl r0, .sl r1] = total at HB ⊢
  clear hrow
  have hbw := (Below.refl w.heap.size w).alloc (Nat.le_refl _) (.cells #[v0, v1] 42)
  go_enter Try.func42, Try.ntmps42
  go_wp2_with fail
  by_cases q0 : left < ((r0.length + bulkRows r0) : Nat)
  · refine (HC0.out S _ _ _ G0.out (E0.out.below hbw) (by omega) (by omega)).mono ?_
    rw [sub_neg (by omega)]
    rintro e w1 ⟨rfl, hb1⟩
    go_wp2
    go_ret
    exact ⟨ret_int (a := -1) (sub_neg (by have := HB.out; omega)).symm, hbw.trans (hb1.mono hbw.size)⟩
  refine (HC0.out S _ _ _ G0.out (E0.out.below hbw) (by omega) (by omega)).mono ?_
  rw [sub_pos (by omega)]
  rintro e w1 ⟨rfl, hb1⟩
  obtain ⟨hc1, hf1⟩ := bcell hb1
  have hz1 : w.heap.size < w1.heap.size := (by have := hb1.size; (try simp at this); omega)
  replace hbw := hbw.trans (hb1.mono hbw.size)
  go_wp2_with fail
  by_cases q1 : (left - (((r0.length + bulkRows r0) : Nat) : Int)) < ((r1.length + bulkRows r1) : Nat)
  · refine (HC1.out S _ _ _ G1.out (E1.out.below hbw) (by omega) (by omega)).mono ?_
    rw [sub_neg (by omega)]
    rintro e w2 ⟨rfl, hb2⟩
    go_wp2
    go_ret
    exact ⟨ret_int (a := -1) (sub_neg (by have := HB.out; omega)).symm, hbw.trans (hb2.mono hbw.size)⟩
  refine (HC1.out S _ _ _ G1.out (E1.out.below hbw) (by omega) (by omega)).mono ?_
  rw [sub_pos (by omega)]
  rintro e w2 ⟨rfl, hb2⟩
  obtain ⟨hc2, hf2⟩ := bcell hb2
  have hz2 : w.heap.size < w2.heap.size := (by have := hb2.size; (try simp at this); omega)
  replace hbw := hbw.trans (hb2.mono hbw.size)
  go_wp2
  go_ret
  exact ⟨ret_int (by have := HB.out; rw [sub_pos (by omega)]; omega), hbw⟩

set_option maxHeartbeats 1000000 in
theorem eqSorts_of (row : List C) : eqSortsC row := by
  intro S S' us us' w hok hv hv'
  obtain ⟨r0, r1, rfl, g0, g1⟩ := okRow_Sorts hok
  obtain ⟨v0, v1, rfl, e0, e1⟩ := repVals_Sorts hv
  obtain ⟨x0, x1, rfl, d0, d1⟩ := repVals_Sorts hv'
  have HC0 := Lib.hid (eqStringS_any r0)
  have HC1 := Lib.hid (eqSubS_any r1)
  have G0 := Lib.hid g0
  have G1 := Lib.hid g1
  clear g0 g1 hok
  have E0 := Lib.hid e0
  have D0 := Lib.hid d0
  have E1 := Lib.hid e1
  have D1 := Lib.hid d1
  clear hv hv' e0 d0 e1 d1
  have hbw := ((Below.refl w.heap.size w).alloc (Nat.le_refl _) (.cells #[v0, v1] 54)).alloc (by simp) (.cells #[x0, x1] 54)
  go_enter Try.func52, Try.ntmps52
  go_wp2_with fail
  refine (HC0.out S S' _ _ _ G0.out (E0.out.below hbw) (D0.out.below hbw)).mono ?_
  rintro e w1 ⟨rfl, hb1⟩
  obtain ⟨hc1, hf1⟩ := bcell hb1
  have hz1 : w.heap.size + 1 < w1.heap.size := (by have := hb1.size; (try simp at this); omega)
  have ha1 : w.heap.size < w1.heap.size := by omega
  replace hbw := hbw.trans (hb1.mono hbw.size)
  go_wp2_with fail
  refine (HC1.out S S' _ _ _ G1.out (E1.out.below hbw) (D1.out.below hbw)).mono ?_
  rintro e w2 ⟨rfl, hb2⟩
  obtain ⟨hc2, hf2⟩ := bcell hb2
  have hz2 : w.heap.size + 1 < w2.heap.size := (by have := hb2.size; (try simp at this); omega)
  have ha2 : w.heap.size < w2.heap.size := by omega
  replace hbw := hbw.trans (hb2.mono hbw.size)
  go_wp2
  go_ret
  exact ⟨rfl, hbw⟩

set_option maxHeartbeats 2000000 in
theorem toSorts_of (row : List C) : toSortsC row := by
  intro S us w hok hv hlen
  obtain ⟨r0, r1, rfl, g0, g1⟩ := okRow_Sorts hok
  obtain ⟨v0, v1, rfl, e0, e1⟩ := repVals_Sorts hv
  have HC0 := Lib.hid (toStringS_any r0)
  have HC1 := Lib.hid (toSubS_any r1)
  have G0 := Lib.hid g0
  have G1 := Lib.hid g1
  clear g0 g1 hok
  have E0 := Lib.hid e0
  have E1 := Lib.hid e1
  clear hv e0 e1
  have hl0 : (r0.length + bulkRows r0) ≤ 1048576 := by
    have e : (r0.length + bulkRows r0) ≤ bulkRow [.sl r0, .sl r1] := by simp only [bulkRow, bulkC]; omega
    exact Nat.le_trans e hlen
  have hl1 : (r1.length + bulkRows r1) ≤ 1048576 := by
    have e : (r1.length + bulkRows r1) ≤ bulkRow [.sl r0, .sl r1] := by simp only [bulkRow, bulkC]; omega
    exact Nat.le_trans e hlen
  clear hlen
  go_enter Try.func47, Try.ntmps47
  go_wp2_with fail
  refine (HC0.out S _ _ G0.out (by exact E0.out.below (by repeat (first | refine Below.alloc ?_ (by simp; try omega) _ | exact Below.refl _ _))) hl0).mono ?_
  rintro e w1 ⟨y0, rfl, hown0, hb1⟩
  obtain ⟨A0, n0, cap0, rfl, _, _, _⟩ := (Own.rep _ _ _ hown0).form
  have hz1 := hb1.size
  simp at hz1 hown0
  have HOWN0 := Lib.hid hown0
  clear hown0
  have hbw1 : Below w.heap.size w w1 := Below.trans (by repeat (first | refine Below.alloc ?_ (by simp; try omega) _ | exact Below.refl _ _)) (hb1.mono (by simp; try omega))
  obtain ⟨hc1, hf1⟩ := bcell hb1
  have ha1 : w.heap.size < w1.heap.size := by omega
  have hbb1 : w.heap.size + 1 < w1.heap.size := by omega
  have hcc1 : w.heap.size + 1 + 1 < w1.heap.size := by omega
  go_wp2_with fail
  refine (HC1.out S _ _ G1.out (by exact E1.out.below (by repeat (first | refine Below.setCell ?_ (by simp; try omega) _ | exact hbw1))) hl1).mono ?_
  rintro e w2 ⟨y1, rfl, hown1, hb2⟩
  obtain ⟨A1, n1, cap1, rfl, _, _, _⟩ := (Own.rep _ _ _ hown1).form
  have hz2 := hb2.size
  simp at hz2 hown1
  have HOWN1 := Lib.hid hown1
  clear hown1
  have hbw2 : Below w.heap.size w w2 := Below.trans (by repeat (first | refine Below.setCell ?_ (by simp; try omega) _ | exact hbw1)) (hb2.mono (by simp; try omega))
  obtain ⟨hc2, hf2⟩ := bcell hb2
  have ha2 : w.heap.size < w2.heap.size := by omega
  have hbb2 : w.heap.size + 1 < w2.heap.size := by omega
  have hcc2 : w.heap.size + 1 + 1 < w2.heap.size := by omega
  go_wp2
  refine bodyPost_ret (v := .agg #[.slice A0 n0 cap0, .slice A1 n1 cap1]) (by simp [results, Try.results47, go_sem, hc1, ha1, hbb1, hcc1, hc2, ha2, hbb2, hcc2]) rfl ⟨[.slice A0 n0 cap0, .slice A1 n1 cap1], rfl, ?_, (by repeat (first | refine Below.setCell ?_ (by simp; try omega) _ | exact hbw2))⟩
  simp
  exact (OwnVals.cons (fun x => w.heap.size + 1 + 1 + 1 ≤ x ∧ x < w1.heap.size) (fun x => w1.heap.size ≤ x ∧ x < w2.heap.size) (HOWN0.out.same (by repeat (first | refine Same.trans ?_ (Same.setCell _ _ _ _ (by simp; try omega)) | refine Same.trans ?_ ((Same.below hb2).mono (fun x hx => by simp at hx ⊢; omega)) | exact Same.refl _ _))) (OwnVals.cons (fun x => w1.heap.size ≤ x ∧ x < w2.heap.size) (fun x => w2.heap.size ≤ x ∧ x < w2.heap.size) (HOWN1.out.same (by repeat (first | refine Same.trans ?_ (Same.setCell _ _ _ _ (by simp; try omega)) | exact Same.refl _ _))) OwnVals.nil (fun x hx => ⟨by omega, by omega⟩) (fun x hx => ⟨by omega, by omega⟩) (fun x hx hy => by omega)) (fun x hx => ⟨by omega, by omega⟩) (fun x hx => ⟨by omega, by omega⟩) (fun x hx hy => by omega))
theorem szSorts_any (row : List C) : szSortsC row := szSorts_of row
theorem eqSorts_any (row : List C) : eqSortsC row := eqSorts_of row
theorem toSorts_any (row : List C) : toSortsC row := toSorts_of row
end Go.Proofs.Ytmpcbijkbgmjkaa

namespace Go.Proofs.Ytmpcbijkbgmjkaa
open Go.RowKit
theorem okRow_Int {r : List C} (h : okRow (fieldsOf .int) r) : ∃ x0 : Int, r = [.lit (.int .i64 x0)] ∧ I64 x0 := by
  obtain ⟨c0, rfl⟩ := len1 h.len
  simp only [fieldsOf, okRow, and_true] at h
  have h0 := h
  obtain ⟨x0, rfl, g0⟩ := okC_int h0
  exact ⟨x0, rfl, g0⟩
theorem mkRow_Int {x0 : Int} (g0 : I64 x0) : okRow (fieldsOf .int) [.lit (.int .i64 x0)] := by
  simp only [fieldsOf, okRow, and_true]
  exact mk_int g0
def szIntSC (rows : List (List C)) : Prop := ∀ (S : Nat → Prop) (v : Value) (left : Int) (w : World), okRows (fieldsOf .int) rows → Rep w S (.sl rows) v → 0 ≤ left → left ≤ 1048576 →
  Calls Try.prog 75 #[v, .int .i64 left] w fun e w' => e = .returned (.int .i64 (sub left (rows.length + bulkRows rows))) ∧ Below w.heap.size w w'
def eqIntSC (rows : List (List C)) : Prop := ∀ (S S' : Nat → Prop) (v v' : Value) (w : World), okRows (fieldsOf .int) rows → Rep w S (.sl rows) v → Rep w S' (.sl rows) v' →
  Calls Try.prog 13 #[v, v'] w fun e w' => e = .returned (.bool true) ∧ Below w.heap.size w w'
def toIntSC (rows : List (List C)) : Prop := ∀ (S : Nat → Prop) (v : Value) (w : World), okRows (fieldsOf .int) rows → Rep w S (.sl rows) v → rows.length + bulkRows rows ≤ 1048576 →
  Calls Try.prog 10 #[v] w fun e w' => ∃ v', e = .returned v' ∧ Own w' (.sl rows) (fun x => w.heap.size ≤ x ∧ x < w'.heap.size) v' ∧ Below w.heap.size w w'
theorem bulk_Int : ∀ (rows : List (List C)), okRows (fieldsOf .int) rows → bulkRows rows = 0
  | [], _ => by simp [bulkRows]
  | r :: rs, h => by
    obtain ⟨x0, rfl, _⟩ := okRow_Int h.1
    simp [bulkRows, bulkRow, bulkC, bulk_Int rs h.2]
set_option maxHeartbeats 1000000 in
theorem szIntS_any (rows : List (List C)) : szIntSC rows := by
  intro S v left w hok hv h0 h1
  obtain ⟨A, m, cap, rfl, hm, hmc, hcm⟩ := hv.form
  have hz := bulk_Int rows hok
  rw [hz, hm]
  clear hv hm hok hz
  unfold maxLen at hcm
  by_cases hlt : left - m < 0
  · rw [sub_neg (by omega)]
    go_enter Try.func75, Try.ntmps75
    go_wp2
    go_ret
    exact ⟨rfl, Below.refl _ _⟩
  · rw [sub_pos (by omega)]
    go_enter Try.func75, Try.ntmps75
    go_wp2
    go_ret
    exact ⟨ret_int (by omega), Below.refl _ _⟩
set_option maxHeartbeats 1000000 in
theorem eqIntS_any (rows : List (List C)) : eqIntSC rows := by
  intro S S' v v' w hok hv hv'
  obtain ⟨A, m, cap, rfl, hm, hmc, hcm⟩ := hv.form
  obtain ⟨A', m', cap', rfl, hm', hmc', hcm'⟩ := hv'.form
  obtain rfl : m = m' := by omega
  have HV := Lib.hid hv
  have HV' := Lib.hid hv'
  have HM := Lib.hid hm
  have HOK := Lib.hid hok
  clear hv hm hok hm' hv'
  unfold maxLen at hcm hcm'
  go_enter Try.func13, Try.ntmps13
  go_wp2
  go_loopw [5] (fun i wr => ∃ k : Nat, k ≤ m ∧ i = .int .i64 k ∧ Below w.heap.size w wr) (fun i _ => m - (intOf i).toNat)
  case atStart => exact ⟨0, Nat.zero_le _, rfl, Below.refl _ _⟩
  case round =>
    obtain ⟨k, hk, rfl, hb⟩ := hrel
    by_cases hkm : k < m
    · obtain ⟨b, off, r, rfl, hS, hbz, hget, hokr, hrow⟩ := (HV.out.below hb).get HOK.out hkm
      obtain ⟨b', off', r', rfl, hS', hbz', hget', hokr', hrow'⟩ := (HV'.out.below hb).get HOK.out hkm
      obtain rfl : r = r' := by rw [hget] at hget'; exact Option.some.inj hget'
      obtain ⟨u0, c0, hvals⟩ := hrow.vals1 hokr.len
      obtain ⟨u1, d0, hvals'⟩ := hrow'.vals1 hokr.len
      obtain ⟨x0, rfl, g0⟩ := okRow_Int hokr
      simp only [RepVals, Rep.lit_iff, and_true] at hvals hvals'
      subst hvals
      subst hvals'
      clear hokr hokr' hrow hrow' hget hget' g0
      simp only [fieldsOf, List.length_cons, List.length_nil, Nat.reduceAdd, Nat.mul_one] at c0 d0
      have k0 : (0 : Int) ≤ (k : Int) := by omega
      have k1 : (k : Int) < (m : Int) := by omega
      go_wp2_with fail
      go_quiet (fail)
      go_wp2
      go_roundw
      case rel => exact ⟨k + 1, by omega, by go_num, hb.trans (below_drewN (Below.refl _ _) _)⟩
      case measure => simp [intOf]; omega
    · go_wp2
      go_ret
      exact ⟨rfl, hb⟩
theorem info_Int : (Try.prog.info? 3).map (fun i => (i.zero, i.size, i.bytes)) = some (some (.int .i64 0), 1, 8) := by kernel_rfl
set_option maxHeartbeats 1000000 in
theorem toIntS_any (rows : List (List C)) : toIntSC rows := by
  intro S v w hok hv hlen
  obtain ⟨A, m, cap, rfl, hm, hmc, hcm⟩ := hv.form
  obtain ⟨i0, hi, hz0, hz1, hz2⟩ := info_parts info_Int
  have HV := Lib.hid hv
  have HM := Lib.hid hm
  have HOK := Lib.hid hok
  have hml : m ≤ 1048576 := by omega
  clear hv hm hok
  unfold maxLen at hcm
  have hmk := run_make (P := Try.prog) w 25 3 i0 _ Try.underlying25 hi hz0 .i64 .i64 (m : Int) (m : Int) (by omega) (by omega) (by rw [hz2]; omega) (by omega)
  go_enter Try.func10, Try.ntmps10
  go_wp2
  clear hmk
  go_loopw [4] (fun i wr => ∃ k : Nat, k ≤ m ∧ i = .int .i64 k ∧ Filling w w.heap.size 3 m 1 rows k wr) (fun i _ => m - (intOf i).toNat)
  case atStart => exact ⟨0, Nat.zero_le _, rfl, Filling.start (by rw [size_madeCells]; omega)⟩
  case round =>
    obtain ⟨k, hk, rfl, hfill⟩ := hrel
    have hb := hfill.1
    by_cases hkm : k < m
    · obtain ⟨b, off, r, rfl, hS, hbz, hget, hokr, hrow⟩ := (HV.out.below hb).get HOK.out hkm
      obtain ⟨u0, c0, hvals⟩ := hrow.vals1 hokr.len
      obtain ⟨x0, rfl, g0⟩ := okRow_Int hokr
      simp only [RepVals, Rep.lit_iff, and_true] at hvals
      subst hvals
      have HGET := Lib.hid hget
      have HF := Lib.hid hfill
      obtain ⟨cur, hcur, hcs⟩ := HF.out.row (Below.refl _ _)
      have HCUR := Lib.hid hcur
      have HCS := Lib.hid hcs
      clear hokr hrow hget hfill g0 hcur hcs
      simp only [fieldsOf, List.length_cons, List.length_nil, Nat.reduceAdd, Nat.mul_one] at c0
      go_wp2_with (refine wpList_store_put rfl 3 _ _ rfl w.heap.size k rfl [.int .i64 x0] rfl i0 hi hz1 3 cur HCUR.out (by have := HCS.out; simp only [List.length_cons, List.length_nil]; omega) (by simp [Value.oneCell']) ?_; intro w3 hput)
      go_roundw
      case rel => exact ⟨k + 1, by omega, by go_num, HF.out.step (fs := fieldsOf .int) HOK.out HGET.out (Below.refl _ _) (OwnVals.lit OwnVals.nil) (by simpa [fieldsOf] using hput)⟩
      case measure => simp [intOf]; omega
    · go_wp2
      go_ret
      have e : k = m := by omega
      subst e
      exact ⟨_, rfl, hfill.done HM.out (by unfold maxLen; omega) (by decide) HOK.out.lens⟩
end Go.Proofs.Ytmpcbijkbgmjkaa

namespace Go.Proofs.Ytmpcbijkbgmjkaa
open Go.RowKit
theorem okRow_Decl {r : List C} (h : okRow (fieldsOf .decl) r) : ∃ (r0 : List (List C)) (i1 : Int), r = [.sl r0, .lit (.int .i64 i1)] ∧ okRows (fieldsOf .int) r0 ∧ I64 i1 := by
  obtain ⟨c0, c1, rfl⟩ := len2 h.len
  simp only [fieldsOf, termF, occF, sortsF, sigF, moduleF, algF, List.cons_append, List.nil_append, okRow, and_true] at h
  obtain ⟨h0, h1⟩ := h
  obtain ⟨r0, rfl, g0⟩ := okC_sl h0
  obtain ⟨i1, rfl, g1⟩ := okC_int h1
  exact ⟨r0, i1, rfl, g0, g1⟩
theorem mkRow_Decl {r0 : List (List C)} {i1 : Int} (g0 : okRows (fieldsOf .int) r0) (g1 : I64 i1) : okRow (fieldsOf .decl) [.sl r0, .lit (.int .i64 i1)] := by
  simp only [fieldsOf, termF, occF, sortsF, sigF, moduleF, algF, List.cons_append, List.nil_append, okRow, and_true]
  exact ⟨mk_sl g0, mk_int g1⟩
theorem repVals_Decl {w : World} {S : Nat → Prop} {r0 : List (List C)} {i1 : Int} {us : List Value} (h : RepVals w S [.sl r0, .lit (.int .i64 i1)] us) : ∃ v0, us = [v0, .int .i64 i1] ∧ Rep w S (.sl r0) v0 := by
  obtain ⟨u0, u1, rfl⟩ := len2 h.len
  simp only [RepVals, Rep.lit_iff, and_true] at h
  obtain ⟨e0, rfl⟩ := h
  exact ⟨u0, rfl, e0⟩
theorem mkVals_Decl {w : World} {S : Nat → Prop} {r0 : List (List C)} {i1 : Int} {v0 : Value} (e0 : Rep w S (.sl r0) v0) : RepVals w S [.sl r0, .lit (.int .i64 i1)] [v0, .int .i64 i1] := by
  simp only [RepVals, Rep.lit_iff, and_true, true_and]
  exact e0
def szDeclC (row : List C) : Prop := ∀ (S : Nat → Prop) (us : List Value) (left : Int) (w : World), okRow (fieldsOf .decl) row → RepVals w S row us → 0 ≤ left → left ≤ 1048576 →
  Calls Try.prog 152 #[.agg us.toArray, .int .i64 left] w fun e w' => e = .returned (.int .i64 (sub left (bulkRow row))) ∧ Below w.heap.size w w'
def eqDeclC (row : List C) : Prop := ∀ (S S' : Nat → Prop) (us us' : List Value) (w : World), okRow (fieldsOf .decl) row → RepVals w S row us → RepVals w S' row us' →
  Calls Try.prog 159 #[.agg us.toArray, .agg us'.toArray] w fun e w' => e = .returned (.bool true) ∧ Below w.heap.size w w'
def toDeclC (row : List C) : Prop := ∀ (S : Nat → Prop) (us : List Value) (w : World), okRow (fieldsOf .decl) row → RepVals w S row us → bulkRow row ≤ 1048576 →
  Calls Try.prog 156 #[.agg us.toArray] w fun e w' => ∃ us' : List Value, e = .returned (.agg us'.toArray) ∧ OwnVals w' row (fun x => w.heap.size ≤ x ∧ x < w'.heap.size) us' ∧ Below w.heap.size w w'
def szDeclSC (rows : List (List C)) : Prop := ∀ (S : Nat → Prop) (v : Value) (left : Int) (w : World), okRows (fieldsOf .decl) rows → Rep w S (.sl rows) v → 0 ≤ left → left ≤ 1048576 →
  Calls Try.prog 114 #[v, .int .i64 left] w fun e w' => e = .returned (.int .i64 (sub left (rows.length + bulkRows rows))) ∧ Below w.heap.size w w'
def eqDeclSC (rows : List (List C)) : Prop := ∀ (S S' : Nat → Prop) (v v' : Value) (w : World), okRows (fieldsOf .decl) rows → Rep w S (.sl rows) v → Rep w S' (.sl rows) v' →
  Calls Try.prog 125 #[v, v'] w fun e w' => e = .returned (.bool true) ∧ Below w.heap.size w w'
def toDeclSC (rows : List (List C)) : Prop := ∀ (S : Nat → Prop) (v : Value) (w : World), okRows (fieldsOf .decl) rows → Rep w S (.sl rows) v → rows.length + bulkRows rows ≤ 1048576 →
  Calls Try.prog 120 #[v] w fun e w' => ∃ v', e = .returned v' ∧ Own w' (.sl rows) (fun x => w.heap.size ≤ x ∧ x < w'.heap.size) v' ∧ Below w.heap.size w w'

set_option maxHeartbeats 1000000 in
theorem szDecl_of (row : List C) : szDeclC row := by
  intro S us left w hok hv h0 h1
  obtain ⟨r0, i1, rfl, g0, g1⟩ := okRow_Decl hok
  obtain ⟨v0, rfl, e0⟩ := repVals_Decl hv
  have HC0 := Lib.hid (szIntS_any r0)
  have HB := Lib.hid (show bulkRow [.sl r0, .lit (.int .i64 i1)] = (r0.length + bulkRows r0) from by simp only [bulkRow, bulkC]; omega)
  have G0 := Lib.hid g0
  have G1 := Lib.hid g1
  clear g0 g1 hok
  have E0 := Lib.hid e0
  clear hv e0
  generalize hrow : bulkRow [.sl r0, .lit (.int .i64 i1)] = total at HB ⊢
  clear hrow
  have hbw := (Below.refl w.heap.size w).alloc (Nat.le_refl _) (.cells #[v0, .int .i64 i1] 194)
  go_enter Try.func152, Try.ntmps152
  go_wp2_with fail
  by_cases q0 : left < ((r0.length + bulkRows r0) : Nat)
  · refine (HC0.out S _ _ _ G0.out (E0.out.below hbw) (by omega) (by omega)).mono ?_
    rw [sub_neg (by omega)]
    rintro e w1 ⟨rfl, hb1⟩
    go_wp2
    go_ret
    exact ⟨ret_int (a := -1) (sub_neg (by have := HB.out; omega)).symm, hbw.trans (hb1.mono hbw.size)⟩
  refine (HC0.out S _ _ _ G0.out (E0.out.below hbw) (by omega) (by omega)).mono ?_
  rw [sub_pos (by omega)]
  rintro e w1 ⟨rfl, hb1⟩
  obtain ⟨hc1, hf1⟩ := bcell hb1
  have hz1 : w.heap.size < w1.heap.size := (by have := hb1.size; (try simp at this); omega)
  replace hbw := hbw.trans (hb1.mono hbw.size)
  go_wp2
  go_ret
  exact ⟨ret_int (by have := HB.out; rw [sub_pos (by omega)]; omega), hbw⟩

set_option maxHeartbeats 1000000 in
theorem eqDecl_of (row : List C) : eqDeclC row := by
  intro S S' us us' w hok hv hv'
  obtain ⟨r0, i1, rfl, g0, g1⟩ := okRow_Decl hok
  obtain ⟨v0, rfl, e0⟩ := repVals_Decl hv
  obtain ⟨x0, rfl, d0⟩ := repVals_Decl hv'
  have HC0 := Lib.hid (eqIntS_any r0)
  have G0 := Lib.hid g0
  have G1 := Lib.hid g1
  clear g0 g1 hok
  have E0 := Lib.hid e0
  have D0 := Lib.hid d0
  clear hv hv' e0 d0
  have hbw := ((Below.refl w.heap.size w).alloc (Nat.le_refl _) (.cells #[v0, .int .i64 i1] 125)).alloc (by simp) (.cells #[x0, .int .i64 i1] 125)
  go_enter Try.func159, Try.ntmps159
  go_wp2_with fail
  refine (HC0.out S S' _ _ _ G0.out (E0.out.below hbw) (D0.out.below hbw)).mono ?_
  rintro e w1 ⟨rfl, hb1⟩
  obtain ⟨hc1, hf1⟩ := bcell hb1
  have hz1 : w.heap.size + 1 < w1.heap.size := (by have := hb1.size; (try simp at this); omega)
  have ha1 : w.heap.size < w1.heap.size := by omega
  replace hbw := hbw.trans (hb1.mono hbw.size)
  go_wp2
  go_ret
  exact ⟨rfl, hbw⟩

set_option maxHeartbeats 2000000 in
theorem toDecl_of (row : List C) : toDeclC row := by
  intro S us w hok hv hlen
  obtain ⟨r0, i1, rfl, g0, g1⟩ := okRow_Decl hok
  obtain ⟨v0, rfl, e0⟩ := repVals_Decl hv
  have HC0 := Lib.hid (toIntS_any r0)
  have G0 := Lib.hid g0
  have G1 := Lib.hid g1
  clear g0 g1 hok
  have E0 := Lib.hid e0
  clear hv e0
  have hl0 : (r0.length + bulkRows r0) ≤ 1048576 := by
    have e : (r0.length + bulkRows r0) ≤ bulkRow [.sl r0, .lit (.int .i64 i1)] := by simp only [bulkRow, bulkC]; omega
    exact Nat.le_trans e hlen
  clear hlen
  go_enter Try.func156, Try.ntmps156
  go_wp2_with fail
  refine (HC0.out S _ _ G0.out (by exact E0.out.below (by repeat (first | refine Below.alloc ?_ (by simp; try omega) _ | exact Below.refl _ _))) hl0).mono ?_
  rintro e w1 ⟨y0, rfl, hown0, hb1⟩
  obtain ⟨A0, n0, cap0, rfl, _, _, _⟩ := (Own.rep _ _ _ hown0).form
  have hz1 := hb1.size
  simp at hz1 hown0
  have HOWN0 := Lib.hid hown0
  clear hown0
  have hbw1 : Below w.heap.size w w1 := Below.trans (by repeat (first | refine Below.alloc ?_ (by simp; try omega) _ | exact Below.refl _ _)) (hb1.mono (by simp; try omega))
  obtain ⟨hc1, hf1⟩ := bcell hb1
  have ha1 : w.heap.size < w1.heap.size := by omega
  have hbb1 : w.heap.size + 1 < w1.heap.size := by omega
  have hcc1 : w.heap.size + 1 + 1 < w1.heap.size := by omega
  go_wp2
  refine bodyPost_ret (v := .agg #[.slice A0 n0 cap0, .int .i64 i1]) (by simp [results, Try.results156, go_sem, hc1, ha1, hbb1, hcc1]) rfl ⟨[.slice A0 n0 cap0, .int .i64 i1], rfl, ?_, (by repeat (first | refine Below.setCell ?_ (by simp; try omega) _ | exact hbw1))⟩
  simp
  exact (OwnVals.cons (fun x => w.heap.size + 1 + 1 + 1 ≤ x ∧ x < w1.heap.size) (fun x => w1.heap.size ≤ x ∧ x < w1.heap.size) (HOWN0.out.same (by repeat (first | refine Same.trans ?_ (Same.setCell _ _ _ _ (by simp; try omega)) | exact Same.refl _ _))) (OwnVals.lit OwnVals.nil) (fun x hx => ⟨by omega, by omega⟩) (fun x hx => ⟨by omega, by omega⟩) (fun x hx hy => by omega))
theorem szDecl_any (row : List C) : szDeclC row := szDecl_of row
theorem eqDecl_any (row : List C) : eqDeclC row := eqDecl_of row
theorem toDecl_any (row : List C) : toDeclC row := toDecl_of row

set_option maxHeartbeats 1000000 in
theorem szDeclS_of (rows : List (List C)) (h : ∀ (i : Nat) r, rows[i]? = some r → szDeclC r) : szDeclSC rows := by
  intro S v left w hok hv h0 h1
  obtain ⟨A, m, cap, rfl, hm, hmc, hcm⟩ := hv.form
  have H := Lib.hid h
  have HV := Lib.hid hv
  have HM := Lib.hid hm
  have HOK := Lib.hid hok
  clear h hv hm hok
  unfold maxLen at hcm
  by_cases hlt : left - m < 0
  · rw [sub_neg (by have := HM.out; omega)]
    go_enter Try.func114, Try.ntmps114
    go_wp2
    go_ret
    exact ⟨rfl, Below.refl _ _⟩
  · go_enter Try.func114, Try.ntmps114
    go_wp2
    go_loopw [1, 5] (fun l i wr => ∃ k : Nat, k ≤ m ∧ i = .int .i64 k ∧ l = .int .i64 (left - m - (bulkRows (rows.take k) : Int)) ∧ 0 ≤ left - m - (bulkRows (rows.take k) : Int) ∧ Below w.heap.size w wr) (fun _ i _ => m - (intOf i).toNat)
    case atStart => exact ⟨0, Nat.zero_le _, rfl, by simp [bulkRows], by simp [bulkRows]; omega, Below.refl _ _⟩
    case round =>
      obtain ⟨k, hk, rfl, rfl, hl0, hb⟩ := hrel
      by_cases hkm : k < m
      · obtain ⟨b, off, r, rfl, hS, hbz, hget, hokr, hrow⟩ := (HV.out.below hb).get HOK.out hkm
        obtain ⟨u0, u1, c0, c1, hvals⟩ := hrow.vals2 hokr.len
        have HT := H.out k r hget
        have HVALS := Lib.hid hvals
        have HOKR := Lib.hid hokr
        have HBT := Lib.hid (bulk_take hget)
        have hle := bulk_take_le rows (k+1)
        clear hvals hokr hrow hget
        simp only [fieldsOf, termF, occF, sortsF, sigF, moduleF, algF, List.cons_append, List.nil_append, List.length_cons, List.length_nil, Nat.reduceAdd, Nat.mul_one] at c0 c1
        by_cases h2 : left - m - (bulkRows (rows.take k) : Int) < bulkRow r
        · go_wp2_with fail
          refine (HT S _ _ _ HOKR.out HVALS.out (by omega) (by omega)).mono ?_
          rw [sub_neg h2]
          rintro e w' ⟨rfl, hb2⟩
          go_wp2
          go_ret
          exact ⟨ret_int (a := -1) (sub_neg (by have := HBT.out; have := HM.out; omega)).symm, hb.trans (hb2.mono hb.size)⟩
        · go_wp2_with fail
          refine (HT S _ _ _ HOKR.out HVALS.out (by omega) (by omega)).mono ?_
          rw [sub_pos (by omega)]
          rintro e w' ⟨rfl, hb2⟩
          go_wp2
          go_roundw
          case rel => exact ⟨k + 1, by omega, by go_num, by have := HBT.out; congr 1; omega, by have := HBT.out; omega, hb.trans (hb2.mono hb.size)⟩
          case measure => simp [intOf]; omega
      · go_wp2
        go_ret
        have e : k = m := by omega
        subst e
        have : rows.take k = rows := List.take_of_length_le (by have := HM.out; omega)
        rw [this] at hl0 ⊢
        exact ⟨ret_int (by have := HM.out; rw [sub_pos (by omega)]; omega), hb⟩

set_option maxHeartbeats 1000000 in
theorem eqDeclS_of (rows : List (List C)) (h : ∀ (i : Nat) r, rows[i]? = some r → eqDeclC r) : eqDeclSC rows := by
  intro S S' v v' w hok hv hv'
  obtain ⟨A, m, cap, rfl, hm, hmc, hcm⟩ := hv.form
  obtain ⟨A', m', cap', rfl, hm', hmc', hcm'⟩ := hv'.form
  obtain rfl : m = m' := by omega
  have H := Lib.hid h
  have HV := Lib.hid hv
  have HV' := Lib.hid hv'
  have HM := Lib.hid hm
  have HOK := Lib.hid hok
  clear h hv hm hok hm' hv'
  unfold maxLen at hcm hcm'
  go_enter Try.func125, Try.ntmps125
  go_wp2
  go_loopw [5] (fun i wr => ∃ k : Nat, k ≤ m ∧ i = .int .i64 k ∧ Below w.heap.size w wr) (fun i _ => m - (intOf i).toNat)
  case atStart => exact ⟨0, Nat.zero_le _, rfl, Below.refl _ _⟩
  case round =>
    obtain ⟨k, hk, rfl, hb⟩ := hrel
    by_cases hkm : k < m
    · obtain ⟨b, off, r, rfl, hS, hbz, hget, hokr, hrow⟩ := (HV.out.below hb).get HOK.out hkm
      obtain ⟨b', off', r', rfl, hS', hbz', hget', hokr', hrow'⟩ := (HV'.out.below hb).get HOK.out hkm
      obtain rfl : r = r' := by rw [hget] at hget'; exact Option.some.inj hget'
      obtain ⟨u0, u1, c0, c1, hvals⟩ := hrow.vals2 hokr.len
      obtain ⟨x0, x1, d0, d1, hvals'⟩ := hrow'.vals2 hokr.len
      have HT := H.out k r hget
      have HVALS := Lib.hid hvals
      have HVALS' := Lib.hid hvals'
      have HOKR := Lib.hid hokr
      clear hvals hvals' hokr hokr' hrow hrow' hget hget'
      simp only [fieldsOf, termF, occF, sortsF, sigF, moduleF, algF, List.cons_append, List.nil_append, List.length_cons, List.length_nil, Nat.reduceAdd, Nat.mul_one] at c0 c1 d0 d1
      have k0 : (0 : Int) ≤ (k : Int) := by omega
      have k1 : (k : Int) < (m : Int) := by omega
      go_wp2_with fail
      go_region_held3 (fun w' => ∀ b o, b < wr.heap.size → w'.cell? ⟨b, o, none⟩ = wr.cell? ⟨b, o, none⟩) (first | go_keep | exact fun b o h => hb2.cell (p := ⟨b, o, none⟩) h) (first | (go_at_call 159; refine (HT S S' _ _ _ HOKR.out (HVALS.out.below (Below.refl _ _).drew) (HVALS'.out.below (Below.refl _ _).drew)).mono ?_; rintro e w' ⟨rfl, hb2⟩))
      go_wp2
      go_roundw
      case rel => exact ⟨k + 1, by omega, by go_num, hb.trans ((Below.refl _ _).drew.trans (hb2.mono hb.size))⟩
      case measure => simp [intOf]; omega
    · go_wp2
      go_ret
      exact ⟨rfl, hb⟩
theorem info_Decl : (Try.prog.info? 125).map (fun i => (i.zero, i.size, i.bytes)) = some (some (.agg #[.slice none 0 0, .int .i64 0]), 2, 32) := by kernel_rfl
set_option maxHeartbeats 1000000 in
theorem toDeclS_of (rows : List (List C)) (h : ∀ (i : Nat) r, rows[i]? = some r → toDeclC r) : toDeclSC rows := by
  intro S v w hok hv hlen
  obtain ⟨A, m, cap, rfl, hm, hmc, hcm⟩ := hv.form
  obtain ⟨i0, hi, hz0, hz1, hz2⟩ := info_parts info_Decl
  have H := Lib.hid h
  have HV := Lib.hid hv
  have HM := Lib.hid hm
  have HOK := Lib.hid hok
  have hml : m ≤ 1048576 := by omega
  clear h hv hm hok
  unfold maxLen at hcm
  have hmk := run_make (P := Try.prog) w 91 125 i0 _ Try.underlying91 hi hz0 .i64 .i64 (m : Int) (m : Int) (by omega) (by omega) (by rw [hz2]; omega) (by omega)
  go_enter Try.func120, Try.ntmps120
  go_wp2
  clear hmk
  go_loopw [4] (fun i wr => ∃ k : Nat, k ≤ m ∧ i = .int .i64 k ∧ Filling w w.heap.size 125 m 2 rows k wr) (fun i _ => m - (intOf i).toNat)
  case atStart => exact ⟨0, Nat.zero_le _, rfl, Filling.start (size_madeCells _ _)⟩
  case round =>
    obtain ⟨k, hk, rfl, hfill⟩ := hrel
    have hb := hfill.1
    by_cases hkm : k < m
    · obtain ⟨b, off, r, rfl, hS, hbz, hget, hokr, hrow⟩ := (HV.out.below hb).get HOK.out hkm
      obtain ⟨u0, u1, c0, c1, hvals⟩ := hrow.vals2 hokr.len
      have HT := H.out k r hget
      have HVALS := Lib.hid hvals
      have HOKR := Lib.hid hokr
      have HGET := Lib.hid hget
      have HF := Lib.hid hfill
      have hbg := bulk_get hget
      clear hvals hokr hrow hget hfill
      simp only [fieldsOf, termF, occF, sortsF, sigF, moduleF, algF, List.cons_append, List.nil_append, List.length_cons, List.length_nil, Nat.reduceAdd, Nat.mul_one] at c0 c1
      go_wp2_with fail
      refine (HT S _ _ HOKR.out HVALS.out (by omega)).mono ?_
      rintro e w2 ⟨us, rfl, hown, hb2⟩
      have hone := HOKR.out.one (OwnVals.rep _ _ (fun _ => True) _ (fun _ _ => trivial) hown)
      obtain ⟨y0, y1, rfl⟩ := len2 (hown.len.trans HOKR.out.len)
      have HOWN := Lib.hid hown
      have HONE := Lib.hid hone
      obtain ⟨cur, hcur, hcs⟩ := HF.out.row hb2
      have HCUR := Lib.hid hcur
      have HCS := Lib.hid hcs
      clear hown hone hcur hcs
      go_wp2_with (refine wpList_store_put rfl 125 _ _ rfl w.heap.size (k * 2) rfl [y0, y1] rfl i0 hi hz1 125 cur HCUR.out (by have := HCS.out; simp only [List.length_cons, List.length_nil]; omega) HONE.out ?_; intro w3 hput)
      go_roundw
      case rel => exact ⟨k + 1, by omega, by go_num, HF.out.step (fs := fieldsOf .decl) HOK.out HGET.out hb2 HOWN.out hput⟩
      case measure => simp [intOf]; omega
    · go_wp2
      go_ret
      have e : k = m := by omega
      subst e
      exact ⟨_, rfl, hfill.done HM.out (by unfold maxLen; omega) (by decide) HOK.out.lens⟩
theorem szDeclS_any (rows : List (List C)) : szDeclSC rows := szDeclS_of rows (fun _ r _ => szDecl_any r)
theorem eqDeclS_any (rows : List (List C)) : eqDeclSC rows := eqDeclS_of rows (fun _ r _ => eqDecl_any r)
theorem toDeclS_any (rows : List (List C)) : toDeclSC rows := toDeclS_of rows (fun _ r _ => toDecl_any r)
end Go.Proofs.Ytmpcbijkbgmjkaa

namespace Go.Proofs.Ytmpcbijkbgmjkaa
open Go.RowKit
theorem okRow_Op {r : List C} (h : okRow (fieldsOf .op) r) : ∃ (t0 : ByteArray) (r1 : List (List C)) (p2 : Bool) (p3 : Bool) (i4 : Int), r = [.lit (.string t0), .sl r1, .lit (.bool p2), .lit (.bool p3), .lit (.int .i64 i4)] ∧ t0.size ≤ maxLen ∧ okRows (fieldsOf .decl) r1 ∧ True ∧ True ∧ I64 i4 := by
  obtain ⟨c0, c1, c2, c3, c4, rfl⟩ := len5 h.len
  simp only [fieldsOf, termF, occF, sortsF, sigF, moduleF, algF, List.cons_append, List.nil_append, okRow, and_true] at h
  obtain ⟨h0, h1, h2, h3, h4⟩ := h
  obtain ⟨t0, rfl, g0⟩ := okC_str h0
  obtain ⟨r1, rfl, g1⟩ := okC_sl h1
  obtain ⟨p2, rfl⟩ := okC_bool h2
  obtain ⟨p3, rfl⟩ := okC_bool h3
  obtain ⟨i4, rfl, g4⟩ := okC_int h4
  exact ⟨t0, r1, p2, p3, i4, rfl, g0, g1, trivial, trivial, g4⟩
theorem mkRow_Op {t0 : ByteArray} {r1 : List (List C)} {p2 : Bool} {p3 : Bool} {i4 : Int} (g0 : t0.size ≤ maxLen) (g1 : okRows (fieldsOf .decl) r1) (g2 : True) (g3 : True) (g4 : I64 i4) : okRow (fieldsOf .op) [.lit (.string t0), .sl r1, .lit (.bool p2), .lit (.bool p3), .lit (.int .i64 i4)] := by
  simp only [fieldsOf, termF, occF, sortsF, sigF, moduleF, algF, List.cons_append, List.nil_append, okRow, and_true]
  exact ⟨mk_str g0, mk_sl g1, mk_bool, mk_bool, mk_int g4⟩
theorem repVals_Op {w : World} {S : Nat → Prop} {t0 : ByteArray} {r1 : List (List C)} {p2 : Bool} {p3 : Bool} {i4 : Int} {us : List Value} (h : RepVals w S [.lit (.string t0), .sl r1, .lit (.bool p2), .lit (.bool p3), .lit (.int .i64 i4)] us) : ∃ v1, us = [.string t0, v1, .bool p2, .bool p3, .int .i64 i4] ∧ Rep w S (.sl r1) v1 := by
  obtain ⟨u0, u1, u2, u3, u4, rfl⟩ := len5 h.len
  simp only [RepVals, Rep.lit_iff, and_true] at h
  obtain ⟨rfl, e1, rfl, rfl, rfl⟩ := h
  exact ⟨u1, rfl, e1⟩
theorem mkVals_Op {w : World} {S : Nat → Prop} {t0 : ByteArray} {r1 : List (List C)} {p2 : Bool} {p3 : Bool} {i4 : Int} {v1 : Value} (e1 : Rep w S (.sl r1) v1) : RepVals w S [.lit (.string t0), .sl r1, .lit (.bool p2), .lit (.bool p3), .lit (.int .i64 i4)] [.string t0, v1, .bool p2, .bool p3, .int .i64 i4] := by
  simp only [RepVals, Rep.lit_iff, and_true, true_and]
  exact e1
def szOpC (row : List C) : Prop := ∀ (S : Nat → Prop) (us : List Value) (left : Int) (w : World), okRow (fieldsOf .op) row → RepVals w S row us → 0 ≤ left → left ≤ 1048576 →
  Calls Try.prog 74 #[.agg us.toArray, .int .i64 left] w fun e w' => e = .returned (.int .i64 (sub left (bulkRow row))) ∧ Below w.heap.size w w'
def eqOpC (row : List C) : Prop := ∀ (S S' : Nat → Prop) (us us' : List Value) (w : World), okRow (fieldsOf .op) row → RepVals w S row us → RepVals w S' row us' →
  Calls Try.prog 86 #[.agg us.toArray, .agg us'.toArray] w fun e w' => e = .returned (.bool true) ∧ Below w.heap.size w w'
def toOpC (row : List C) : Prop := ∀ (S : Nat → Prop) (us : List Value) (w : World), okRow (fieldsOf .op) row → RepVals w S row us → bulkRow row ≤ 1048576 →
  Calls Try.prog 82 #[.agg us.toArray] w fun e w' => ∃ us' : List Value, e = .returned (.agg us'.toArray) ∧ OwnVals w' row (fun x => w.heap.size ≤ x ∧ x < w'.heap.size) us' ∧ Below w.heap.size w w'
def szOpSC (rows : List (List C)) : Prop := ∀ (S : Nat → Prop) (v : Value) (left : Int) (w : World), okRows (fieldsOf .op) rows → Rep w S (.sl rows) v → 0 ≤ left → left ≤ 1048576 →
  Calls Try.prog 43 #[v, .int .i64 left] w fun e w' => e = .returned (.int .i64 (sub left (rows.length + bulkRows rows))) ∧ Below w.heap.size w w'
def eqOpSC (rows : List (List C)) : Prop := ∀ (S S' : Nat → Prop) (v v' : Value) (w : World), okRows (fieldsOf .op) rows → Rep w S (.sl rows) v → Rep w S' (.sl rows) v' →
  Calls Try.prog 53 #[v, v'] w fun e w' => e = .returned (.bool true) ∧ Below w.heap.size w w'
def toOpSC (rows : List (List C)) : Prop := ∀ (S : Nat → Prop) (v : Value) (w : World), okRows (fieldsOf .op) rows → Rep w S (.sl rows) v → rows.length + bulkRows rows ≤ 1048576 →
  Calls Try.prog 48 #[v] w fun e w' => ∃ v', e = .returned v' ∧ Own w' (.sl rows) (fun x => w.heap.size ≤ x ∧ x < w'.heap.size) v' ∧ Below w.heap.size w w'

set_option maxHeartbeats 1000000 in
theorem szOp_of (row : List C) : szOpC row := by
  intro S us left w hok hv h0 h1
  obtain ⟨t0, r1, p2, p3, i4, rfl, g0, g1, _, _, g4⟩ := okRow_Op hok
  obtain ⟨v1, rfl, e1⟩ := repVals_Op hv
  have HC1 := Lib.hid (szDeclS_any r1)
  have HB := Lib.hid (show bulkRow [.lit (.string t0), .sl r1, .lit (.bool p2), .lit (.bool p3), .lit (.int .i64 i4)] = t0.size + (r1.length + bulkRows r1) from by simp only [bulkRow, bulkC]; omega)
  have hs0 := g0
  unfold maxLen at hs0
  have G0 := Lib.hid g0
  have G1 := Lib.hid g1
  have G4 := Lib.hid g4
  clear g0 g1 g4 hok
  have E1 := Lib.hid e1
  clear hv e1
  generalize hrow : bulkRow [.lit (.string t0), .sl r1, .lit (.bool p2), .lit (.bool p3), .lit (.int .i64 i4)] = total at HB ⊢
  clear hrow
  have hbw := (Below.refl w.heap.size w).alloc (Nat.le_refl _) (.cells #[.string t0, v1, .bool p2, .bool p3, .int .i64 i4] 117)
  by_cases q0 : left - (t0.size : Int) < 0
  · go_enter Try.func74, Try.ntmps74
    go_wp2
    go_ret
    exact ⟨ret_int (a := -1) (sub_neg (by have := HB.out; omega)).symm, hbw⟩
  go_enter Try.func74, Try.ntmps74
  go_wp2_with fail
  by_cases q1 : (left - (t0.size : Int)) < ((r1.length + bulkRows r1) : Nat)
  · refine (HC1.out S _ _ _ G1.out (E1.out.below hbw) (by omega) (by omega)).mono ?_
    rw [sub_neg (by omega)]
    rintro e w1 ⟨rfl, hb1⟩
    go_wp2
    go_ret
    exact ⟨ret_int (a := -1) (sub_neg (by have := HB.out; omega)).symm, hbw.trans (hb1.mono hbw.size)⟩
  refine (HC1.out S _ _ _ G1.out (E1.out.below hbw) (by omega) (by omega)).mono ?_
  rw [sub_pos (by omega)]
  rintro e w1 ⟨rfl, hb1⟩
  obtain ⟨hc1, hf1⟩ := bcell hb1
  have hz1 : w.heap.size < w1.heap.size := (by have := hb1.size; (try simp at this); omega)
  replace hbw := hbw.trans (hb1.mono hbw.size)
  go_wp2
  go_ret
  exact ⟨ret_int (by have := HB.out; rw [sub_pos (by omega)]; omega), hbw⟩

set_option maxHeartbeats 1000000 in
theorem eqOp_of (row : List C) : eqOpC row := by
  intro S S' us us' w hok hv hv'
  obtain ⟨t0, r1, p2, p3, i4, rfl, g0, g1, _, _, g4⟩ := okRow_Op hok
  obtain ⟨v1, rfl, e1⟩ := repVals_Op hv
  obtain ⟨x1, rfl, d1⟩ := repVals_Op hv'
  have HC1 := Lib.hid (eqDeclS_any r1)
  have G0 := Lib.hid g0
  have G1 := Lib.hid g1
  have G4 := Lib.hid g4
  clear g0 g1 g4 hok
  have E1 := Lib.hid e1
  have D1 := Lib.hid d1
  clear hv hv' e1 d1
  have hbw := ((Below.refl w.heap.size w).alloc (Nat.le_refl _) (.cells #[.string t0, v1, .bool p2, .bool p3, .int .i64 i4] 93)).alloc (by simp) (.cells #[.string t0, x1, .bool p2, .bool p3, .int .i64 i4] 93)
  go_enter Try.func86, Try.ntmps86
  go_wp2_with fail
  refine (HC1.out S S' _ _ _ G1.out (E1.out.below hbw) (D1.out.below hbw)).mono ?_
  rintro e w1 ⟨rfl, hb1⟩
  obtain ⟨hc1, hf1⟩ := bcell hb1
  have hz1 : w.heap.size + 1 < w1.heap.size := (by have := hb1.size; (try simp at this); omega)
  have ha1 : w.heap.size < w1.heap.size := by omega
  replace hbw := hbw.trans (hb1.mono hbw.size)
  go_wp2
  go_ret
  exact ⟨rfl, hbw⟩

set_option maxHeartbeats 2000000 in
theorem toOp_of (row : List C) : toOpC row := by
  intro S us w hok hv hlen
  obtain ⟨t0, r1, p2, p3, i4, rfl, g0, g1, _, _, g4⟩ := okRow_Op hok
  obtain ⟨v1, rfl, e1⟩ := repVals_Op hv
  have HC1 := Lib.hid (toDeclS_any r1)
  have G0 := Lib.hid g0
  have G1 := Lib.hid g1
  have G4 := Lib.hid g4
  clear g0 g1 g4 hok
  have E1 := Lib.hid e1
  clear hv e1
  have hl1 : (r1.length + bulkRows r1) ≤ 1048576 := by
    have e : (r1.length + bulkRows r1) ≤ bulkRow [.lit (.string t0), .sl r1, .lit (.bool p2), .lit (.bool p3), .lit (.int .i64 i4)] := by simp only [bulkRow, bulkC]; omega
    exact Nat.le_trans e hlen
  clear hlen
  go_enter Try.func82, Try.ntmps82
  go_wp2_with fail
  refine (HC1.out S _ _ G1.out (by exact E1.out.below (by repeat (first | refine Below.alloc ?_ (by simp; try omega) _ | exact Below.refl _ _))) hl1).mono ?_
  rintro e w1 ⟨y1, rfl, hown1, hb1⟩
  obtain ⟨A1, n1, cap1, rfl, _, _, _⟩ := (Own.rep _ _ _ hown1).form
  have hz1 := hb1.size
  simp at hz1 hown1
  have HOWN1 := Lib.hid hown1
  clear hown1
  have hbw1 : Below w.heap.size w w1 := Below.trans (by repeat (first | refine Below.alloc ?_ (by simp; try omega) _ | exact Below.refl _ _)) (hb1.mono (by simp; try omega))
  obtain ⟨hc1, hf1⟩ := bcell hb1
  have ha1 : w.heap.size < w1.heap.size := by omega
  have hbb1 : w.heap.size + 1 < w1.heap.size := by omega
  have hcc1 : w.heap.size + 1 + 1 < w1.heap.size := by omega
  go_wp2
  refine bodyPost_ret (v := .agg #[.string t0, .slice A1 n1 cap1, .bool p2, .bool p3, .int .i64 i4]) (by simp [results, Try.results82, go_sem, hc1, ha1, hbb1, hcc1]) rfl ⟨[.string t0, .slice A1 n1 cap1, .bool p2, .bool p3, .int .i64 i4], rfl, ?_, (by repeat (first | refine Below.setCell ?_ (by simp; try omega) _ | exact hbw1))⟩
  simp
  exact (OwnVals.lit (OwnVals.cons (fun x => w.heap.size + 1 + 1 + 1 ≤ x ∧ x < w1.heap.size) (fun x => w1.heap.size ≤ x ∧ x < w1.heap.size) (HOWN1.out.same (by repeat (first | refine Same.trans ?_ (Same.setCell _ _ _ _ (by simp; try omega)) | exact Same.refl _ _))) (OwnVals.lit (OwnVals.lit (OwnVals.lit OwnVals.nil))) (fun x hx => ⟨by omega, by omega⟩) (fun x hx => ⟨by omega, by omega⟩) (fun x hx hy => by omega)))
theorem szOp_any (row : List C) : szOpC row := szOp_of row
theorem eqOp_any (row : List C) : eqOpC row := eqOp_of row
theorem toOp_any (row : List C) : toOpC row := toOp_of row

set_option maxHeartbeats 1000000 in
theorem szOpS_of (rows : List (List C)) (h : ∀ (i : Nat) r, rows[i]? = some r → szOpC r) : szOpSC rows := by
  intro S v left w hok hv h0 h1
  obtain ⟨A, m, cap, rfl, hm, hmc, hcm⟩ := hv.form
  have H := Lib.hid h
  have HV := Lib.hid hv
  have HM := Lib.hid hm
  have HOK := Lib.hid hok
  clear h hv hm hok
  unfold maxLen at hcm
  by_cases hlt : left - m < 0
  · rw [sub_neg (by have := HM.out; omega)]
    go_enter Try.func43, Try.ntmps43
    go_wp2
    go_ret
    exact ⟨rfl, Below.refl _ _⟩
  · go_enter Try.func43, Try.ntmps43
    go_wp2
    go_loopw [1, 5] (fun l i wr => ∃ k : Nat, k ≤ m ∧ i = .int .i64 k ∧ l = .int .i64 (left - m - (bulkRows (rows.take k) : Int)) ∧ 0 ≤ left - m - (bulkRows (rows.take k) : Int) ∧ Below w.heap.size w wr) (fun _ i _ => m - (intOf i).toNat)
    case atStart => exact ⟨0, Nat.zero_le _, rfl, by simp [bulkRows], by simp [bulkRows]; omega, Below.refl _ _⟩
    case round =>
      obtain ⟨k, hk, rfl, rfl, hl0, hb⟩ := hrel
      by_cases hkm : k < m
      · obtain ⟨b, off, r, rfl, hS, hbz, hget, hokr, hrow⟩ := (HV.out.below hb).get HOK.out hkm
        obtain ⟨u0, u1, u2, u3, u4, c0, c1, c2, c3, c4, hvals⟩ := hrow.vals5 hokr.len
        have HT := H.out k r hget
        have HVALS := Lib.hid hvals
        have HOKR := Lib.hid hokr
        have HBT := Lib.hid (bulk_take hget)
        have hle := bulk_take_le rows (k+1)
        clear hvals hokr hrow hget
        simp only [fieldsOf, termF, occF, sortsF, sigF, moduleF, algF, List.cons_append, List.nil_append, List.length_cons, List.length_nil, Nat.reduceAdd, Nat.mul_one] at c0 c1 c2 c3 c4
        by_cases h2 : left - m - (bulkRows (rows.take k) : Int) < bulkRow r
        · go_wp2_with fail
          refine (HT S _ _ _ HOKR.out HVALS.out (by omega) (by omega)).mono ?_
          rw [sub_neg h2]
          rintro e w' ⟨rfl, hb2⟩
          go_wp2
          go_ret
          exact ⟨ret_int (a := -1) (sub_neg (by have := HBT.out; have := HM.out; omega)).symm, hb.trans (hb2.mono hb.size)⟩
        · go_wp2_with fail
          refine (HT S _ _ _ HOKR.out HVALS.out (by omega) (by omega)).mono ?_
          rw [sub_pos (by omega)]
          rintro e w' ⟨rfl, hb2⟩
          go_wp2
          go_roundw
          case rel => exact ⟨k + 1, by omega, by go_num, by have := HBT.out; congr 1; omega, by have := HBT.out; omega, hb.trans (hb2.mono hb.size)⟩
          case measure => simp [intOf]; omega
      · go_wp2
        go_ret
        have e : k = m := by omega
        subst e
        have : rows.take k = rows := List.take_of_length_le (by have := HM.out; omega)
        rw [this] at hl0 ⊢
        exact ⟨ret_int (by have := HM.out; rw [sub_pos (by omega)]; omega), hb⟩

set_option maxHeartbeats 1000000 in
theorem eqOpS_of (rows : List (List C)) (h : ∀ (i : Nat) r, rows[i]? = some r → eqOpC r) : eqOpSC rows := by
  intro S S' v v' w hok hv hv'
  obtain ⟨A, m, cap, rfl, hm, hmc, hcm⟩ := hv.form
  obtain ⟨A', m', cap', rfl, hm', hmc', hcm'⟩ := hv'.form
  obtain rfl : m = m' := by omega
  have H := Lib.hid h
  have HV := Lib.hid hv
  have HV' := Lib.hid hv'
  have HM := Lib.hid hm
  have HOK := Lib.hid hok
  clear h hv hm hok hm' hv'
  unfold maxLen at hcm hcm'
  go_enter Try.func53, Try.ntmps53
  go_wp2
  go_loopw [5] (fun i wr => ∃ k : Nat, k ≤ m ∧ i = .int .i64 k ∧ Below w.heap.size w wr) (fun i _ => m - (intOf i).toNat)
  case atStart => exact ⟨0, Nat.zero_le _, rfl, Below.refl _ _⟩
  case round =>
    obtain ⟨k, hk, rfl, hb⟩ := hrel
    by_cases hkm : k < m
    · obtain ⟨b, off, r, rfl, hS, hbz, hget, hokr, hrow⟩ := (HV.out.below hb).get HOK.out hkm
      obtain ⟨b', off', r', rfl, hS', hbz', hget', hokr', hrow'⟩ := (HV'.out.below hb).get HOK.out hkm
      obtain rfl : r = r' := by rw [hget] at hget'; exact Option.some.inj hget'
      obtain ⟨u0, u1, u2, u3, u4, c0, c1, c2, c3, c4, hvals⟩ := hrow.vals5 hokr.len
      obtain ⟨x0, x1, x2, x3, x4, d0, d1, d2, d3, d4, hvals'⟩ := hrow'.vals5 hokr.len
      have HT := H.out k r hget
      have HVALS := Lib.hid hvals
      have HVALS' := Lib.hid hvals'
      have HOKR := Lib.hid hokr
      clear hvals hvals' hokr hokr' hrow hrow' hget hget'
      simp only [fieldsOf, termF, occF, sortsF, sigF, moduleF, algF, List.cons_append, List.nil_append, List.length_cons, List.length_nil, Nat.reduceAdd, Nat.mul_one] at c0 c1 c2 c3 c4 d0 d1 d2 d3 d4
      have k0 : (0 : Int) ≤ (k : Int) := by omega
      have k1 : (k : Int) < (m : Int) := by omega
      go_wp2_with fail
      go_region_held3 (fun w' => ∀ b o, b < wr.heap.size → w'.cell? ⟨b, o, none⟩ = wr.cell? ⟨b, o, none⟩) (first | go_keep | exact fun b o h => hb2.cell (p := ⟨b, o, none⟩) h) (first | (go_at_call 86; refine (HT S S' _ _ _ HOKR.out (HVALS.out.below (Below.refl _ _).drew) (HVALS'.out.below (Below.refl _ _).drew)).mono ?_; rintro e w' ⟨rfl, hb2⟩))
      go_wp2
      go_roundw
      case rel => exact ⟨k + 1, by omega, by go_num, hb.trans ((Below.refl _ _).drew.trans (hb2.mono hb.size))⟩
      case measure => simp [intOf]; omega
    · go_wp2
      go_ret
      exact ⟨rfl, hb⟩
theorem info_Op : (Try.prog.info? 93).map (fun i => (i.zero, i.size, i.bytes)) = some (some (.agg #[.string .empty, .slice none 0 0, .bool false, .bool false, .int .i64 0]), 5, 56) := by kernel_rfl
set_option maxHeartbeats 1000000 in
theorem toOpS_of (rows : List (List C)) (h : ∀ (i : Nat) r, rows[i]? = some r → toOpC r) : toOpSC rows := by
  intro S v w hok hv hlen
  obtain ⟨A, m, cap, rfl, hm, hmc, hcm⟩ := hv.form
  obtain ⟨i0, hi, hz0, hz1, hz2⟩ := info_parts info_Op
  have H := Lib.hid h
  have HV := Lib.hid hv
  have HM := Lib.hid hm
  have HOK := Lib.hid hok
  have hml : m ≤ 1048576 := by omega
  clear h hv hm hok
  unfold maxLen at hcm
  have hmk := run_make (P := Try.prog) w 55 93 i0 _ Try.underlying55 hi hz0 .i64 .i64 (m : Int) (m : Int) (by omega) (by omega) (by rw [hz2]; omega) (by omega)
  go_enter Try.func48, Try.ntmps48
  go_wp2
  clear hmk
  go_loopw [4] (fun i wr => ∃ k : Nat, k ≤ m ∧ i = .int .i64 k ∧ Filling w w.heap.size 93 m 5 rows k wr) (fun i _ => m - (intOf i).toNat)
  case atStart => exact ⟨0, Nat.zero_le _, rfl, Filling.start (size_madeCells _ _)⟩
  case round =>
    obtain ⟨k, hk, rfl, hfill⟩ := hrel
    have hb := hfill.1
    by_cases hkm : k < m
    · obtain ⟨b, off, r, rfl, hS, hbz, hget, hokr, hrow⟩ := (HV.out.below hb).get HOK.out hkm
      obtain ⟨u0, u1, u2, u3, u4, c0, c1, c2, c3, c4, hvals⟩ := hrow.vals5 hokr.len
      have HT := H.out k r hget
      have HVALS := Lib.hid hvals
      have HOKR := Lib.hid hokr
      have HGET := Lib.hid hget
      have HF := Lib.hid hfill
      have hbg := bulk_get hget
      clear hvals hokr hrow hget hfill
      simp only [fieldsOf, termF, occF, sortsF, sigF, moduleF, algF, List.cons_append, List.nil_append, List.length_cons, List.length_nil, Nat.reduceAdd, Nat.mul_one] at c0 c1 c2 c3 c4
      go_wp2_with fail
      refine (HT S _ _ HOKR.out HVALS.out (by omega)).mono ?_
      rintro e w2 ⟨us, rfl, hown, hb2⟩
      have hone := HOKR.out.one (OwnVals.rep _ _ (fun _ => True) _ (fun _ _ => trivial) hown)
      obtain ⟨y0, y1, y2, y3, y4, rfl⟩ := len5 (hown.len.trans HOKR.out.len)
      have HOWN := Lib.hid hown
      have HONE := Lib.hid hone
      obtain ⟨cur, hcur, hcs⟩ := HF.out.row hb2
      have HCUR := Lib.hid hcur
      have HCS := Lib.hid hcs
      clear hown hone hcur hcs
      go_wp2_with (refine wpList_store_put rfl 93 _ _ rfl w.heap.size (k * 5) rfl [y0, y1, y2, y3, y4] rfl i0 hi hz1 93 cur HCUR.out (by have := HCS.out; simp only [List.length_cons, List.length_nil]; omega) HONE.out ?_; intro w3 hput)
      go_roundw
      case rel => exact ⟨k + 1, by omega, by go_num, HF.out.step (fs := fieldsOf .op) HOK.out HGET.out hb2 HOWN.out hput⟩
      case measure => simp [intOf]; omega
    · go_wp2
      go_ret
      have e : k = m := by omega
      subst e
      exact ⟨_, rfl, hfill.done HM.out (by unfold maxLen; omega) (by decide) HOK.out.lens⟩
theorem szOpS_any (rows : List (List C)) : szOpSC rows := szOpS_of rows (fun _ r _ => szOp_any r)
theorem eqOpS_any (rows : List (List C)) : eqOpSC rows := eqOpS_of rows (fun _ r _ => eqOp_any r)
theorem toOpS_any (rows : List (List C)) : toOpSC rows := toOpS_of rows (fun _ r _ => toOp_any r)
end Go.Proofs.Ytmpcbijkbgmjkaa

namespace Go.Proofs.Ytmpcbijkbgmjkaa
open Go.RowKit
theorem okRow_Signature {r : List C} (h : okRow (sigF) r) : ∃ (r0 : List (List C)) (r1 : List (List C)) (r2 : List (List C)), r = [.sl r0, .sl r1, .sl r2] ∧ okRows (fieldsOf .str) r0 ∧ okRows (fieldsOf .sub) r1 ∧ okRows (fieldsOf .op) r2 := by
  obtain ⟨c0, c1, c2, rfl⟩ := len3 h.len
  simp only [fieldsOf, termF, occF, sortsF, sigF, moduleF, algF, List.cons_append, List.nil_append, okRow, and_true] at h
  obtain ⟨h0, h1, h2⟩ := h
  obtain ⟨r0, rfl, g0⟩ := okC_sl h0
  obtain ⟨r1, rfl, g1⟩ := okC_sl h1
  obtain ⟨r2, rfl, g2⟩ := okC_sl h2
  exact ⟨r0, r1, r2, rfl, g0, g1, g2⟩
theorem mkRow_Signature {r0 : List (List C)} {r1 : List (List C)} {r2 : List (List C)} (g0 : okRows (fieldsOf .str) r0) (g1 : okRows (fieldsOf .sub) r1) (g2 : okRows (fieldsOf .op) r2) : okRow (sigF) [.sl r0, .sl r1, .sl r2] := by
  simp only [fieldsOf, termF, occF, sortsF, sigF, moduleF, algF, List.cons_append, List.nil_append, okRow, and_true]
  exact ⟨mk_sl g0, mk_sl g1, mk_sl g2⟩
theorem repVals_Signature {w : World} {S : Nat → Prop} {r0 : List (List C)} {r1 : List (List C)} {r2 : List (List C)} {us : List Value} (h : RepVals w S [.sl r0, .sl r1, .sl r2] us) : ∃ v0 v1 v2, us = [v0, v1, v2] ∧ Rep w S (.sl r0) v0 ∧ Rep w S (.sl r1) v1 ∧ Rep w S (.sl r2) v2 := by
  obtain ⟨u0, u1, u2, rfl⟩ := len3 h.len
  simp only [RepVals, Rep.lit_iff, and_true] at h
  obtain ⟨e0, e1, e2⟩ := h
  exact ⟨u0, u1, u2, rfl, e0, e1, e2⟩
theorem mkVals_Signature {w : World} {S : Nat → Prop} {r0 : List (List C)} {r1 : List (List C)} {r2 : List (List C)} {v0 : Value} {v1 : Value} {v2 : Value} (e0 : Rep w S (.sl r0) v0) (e1 : Rep w S (.sl r1) v1) (e2 : Rep w S (.sl r2) v2) : RepVals w S [.sl r0, .sl r1, .sl r2] [v0, v1, v2] := by
  simp only [RepVals, Rep.lit_iff, and_true, true_and]
  exact ⟨e0, e1, e2⟩
def szSignatureC (row : List C) : Prop := ∀ (S : Nat → Prop) (us : List Value) (left : Int) (w : World), okRow (sigF) row → RepVals w S row us → 0 ≤ left → left ≤ 1048576 →
  Calls Try.prog 17 #[.agg us.toArray, .int .i64 left] w fun e w' => e = .returned (.int .i64 (sub left (bulkRow row))) ∧ Below w.heap.size w w'
def eqSignatureC (row : List C) : Prop := ∀ (S S' : Nat → Prop) (us us' : List Value) (w : World), okRow (sigF) row → RepVals w S row us → RepVals w S' row us' →
  Calls Try.prog 23 #[.agg us.toArray, .agg us'.toArray] w fun e w' => e = .returned (.bool true) ∧ Below w.heap.size w w'
def toSignatureC (row : List C) : Prop := ∀ (S : Nat → Prop) (us : List Value) (w : World), okRow (sigF) row → RepVals w S row us → bulkRow row ≤ 1048576 →
  Calls Try.prog 20 #[.agg us.toArray] w fun e w' => ∃ us' : List Value, e = .returned (.agg us'.toArray) ∧ OwnVals w' row (fun x => w.heap.size ≤ x ∧ x < w'.heap.size) us' ∧ Below w.heap.size w w'

set_option maxHeartbeats 1000000 in
theorem szSignature_of (row : List C) : szSignatureC row := by
  intro S us left w hok hv h0 h1
  obtain ⟨r0, r1, r2, rfl, g0, g1, g2⟩ := okRow_Signature hok
  obtain ⟨v0, v1, v2, rfl, e0, e1, e2⟩ := repVals_Signature hv
  have HC0 := Lib.hid (szSorts_any [.sl r0, .sl r1])
  have HC2 := Lib.hid (szOpS_any r2)
  have HB := Lib.hid (show bulkRow [.sl r0, .sl r1, .sl r2] = (bulkRow [.sl r0, .sl r1]) + (r2.length + bulkRows r2) from by simp only [bulkRow, bulkC]; omega)
  have G0 := Lib.hid g0
  have G1 := Lib.hid g1
  have G2 := Lib.hid g2
  clear g0 g1 g2 hok
  have E0 := Lib.hid e0
  have E1 := Lib.hid e1
  have E2 := Lib.hid e2
  clear hv e0 e1 e2
  generalize hrow : bulkRow [.sl r0, .sl r1, .sl r2] = total at HB ⊢
  clear hrow
  have hbw := (Below.refl w.heap.size w).alloc (Nat.le_refl _) (.cells #[v0, v1, v2] 45)
  go_enter Try.func17, Try.ntmps17
  go_wp2_with fail
  by_cases q0 : left < ((bulkRow [.sl r0, .sl r1]) : Nat)
  · refine (HC0.out S _ _ _ (mkRow_Sorts G0.out G1.out) (mkVals_Sorts (E0.out.below hbw) (E1.out.below hbw)) (by omega) (by omega)).mono ?_
    rw [sub_neg (by omega)]
    rintro e w1 ⟨rfl, hb1⟩
    go_wp2
    go_ret
    exact ⟨ret_int (a := -1) (sub_neg (by have := HB.out; omega)).symm, hbw.trans (hb1.mono hbw.size)⟩
  refine (HC0.out S _ _ _ (mkRow_Sorts G0.out G1.out) (mkVals_Sorts (E0.out.below hbw) (E1.out.below hbw)) (by omega) (by omega)).mono ?_
  rw [sub_pos (by omega)]
  rintro e w1 ⟨rfl, hb1⟩
  obtain ⟨hc1, hf1⟩ := bcell hb1
  have hz1 : w.heap.size < w1.heap.size := (by have := hb1.size; (try simp at this); omega)
  replace hbw := hbw.trans (hb1.mono hbw.size)
  go_wp2_with fail
  by_cases q2 : (left - (((bulkRow [.sl r0, .sl r1]) : Nat) : Int)) < ((r2.length + bulkRows r2) : Nat)
  · refine (HC2.out S _ _ _ G2.out (E2.out.below hbw) (by omega) (by omega)).mono ?_
    rw [sub_neg (by omega)]
    rintro e w2 ⟨rfl, hb2⟩
    go_wp2
    go_ret
    exact ⟨ret_int (a := -1) (sub_neg (by have := HB.out; omega)).symm, hbw.trans (hb2.mono hbw.size)⟩
  refine (HC2.out S _ _ _ G2.out (E2.out.below hbw) (by omega) (by omega)).mono ?_
  rw [sub_pos (by omega)]
  rintro e w2 ⟨rfl, hb2⟩
  obtain ⟨hc2, hf2⟩ := bcell hb2
  have hz2 : w.heap.size < w2.heap.size := (by have := hb2.size; (try simp at this); omega)
  replace hbw := hbw.trans (hb2.mono hbw.size)
  go_wp2
  go_ret
  exact ⟨ret_int (by have := HB.out; rw [sub_pos (by omega)]; omega), hbw⟩

set_option maxHeartbeats 1000000 in
theorem eqSignature_of (row : List C) : eqSignatureC row := by
  intro S S' us us' w hok hv hv'
  obtain ⟨r0, r1, r2, rfl, g0, g1, g2⟩ := okRow_Signature hok
  obtain ⟨v0, v1, v2, rfl, e0, e1, e2⟩ := repVals_Signature hv
  obtain ⟨x0, x1, x2, rfl, d0, d1, d2⟩ := repVals_Signature hv'
  have HC0 := Lib.hid (eqSorts_any [.sl r0, .sl r1])
  have HC2 := Lib.hid (eqOpS_any r2)
  have G0 := Lib.hid g0
  have G1 := Lib.hid g1
  have G2 := Lib.hid g2
  clear g0 g1 g2 hok
  have E0 := Lib.hid e0
  have D0 := Lib.hid d0
  have E1 := Lib.hid e1
  have D1 := Lib.hid d1
  have E2 := Lib.hid e2
  have D2 := Lib.hid d2
  clear hv hv' e0 d0 e1 d1 e2 d2
  have hbw := ((Below.refl w.heap.size w).alloc (Nat.le_refl _) (.cells #[v0, v1, v2] 57)).alloc (by simp) (.cells #[x0, x1, x2] 57)
  go_enter Try.func23, Try.ntmps23
  go_wp2_with fail
  refine (HC0.out S S' _ _ _ (mkRow_Sorts G0.out G1.out) (mkVals_Sorts (E0.out.below hbw) (E1.out.below hbw)) (mkVals_Sorts (D0.out.below hbw) (D1.out.below hbw))).mono ?_
  rintro e w1 ⟨rfl, hb1⟩
  obtain ⟨hc1, hf1⟩ := bcell hb1
  have hz1 : w.heap.size + 1 < w1.heap.size := (by have := hb1.size; (try simp at this); omega)
  have ha1 : w.heap.size < w1.heap.size := by omega
  replace hbw := hbw.trans (hb1.mono hbw.size)
  go_wp2_with fail
  refine (HC2.out S S' _ _ _ G2.out (E2.out.below hbw) (D2.out.below hbw)).mono ?_
  rintro e w2 ⟨rfl, hb2⟩
  obtain ⟨hc2, hf2⟩ := bcell hb2
  have hz2 : w.heap.size + 1 < w2.heap.size := (by have := hb2.size; (try simp at this); omega)
  have ha2 : w.heap.size < w2.heap.size := by omega
  replace hbw := hbw.trans (hb2.mono hbw.size)
  go_wp2
  go_ret
  exact ⟨rfl, hbw⟩

set_option maxHeartbeats 2000000 in
theorem toSignature_of (row : List C) : toSignatureC row := by
  intro S us w hok hv hlen
  obtain ⟨r0, r1, r2, rfl, g0, g1, g2⟩ := okRow_Signature hok
  obtain ⟨v0, v1, v2, rfl, e0, e1, e2⟩ := repVals_Signature hv
  have HC0 := Lib.hid (toSorts_any [.sl r0, .sl r1])
  have HC2 := Lib.hid (toOpS_any r2)
  have G0 := Lib.hid g0
  have G1 := Lib.hid g1
  have G2 := Lib.hid g2
  clear g0 g1 g2 hok
  have E0 := Lib.hid e0
  have E1 := Lib.hid e1
  have E2 := Lib.hid e2
  clear hv e0 e1 e2
  have hl0 : (bulkRow [.sl r0, .sl r1]) ≤ 1048576 := by
    have e : (bulkRow [.sl r0, .sl r1]) ≤ bulkRow [.sl r0, .sl r1, .sl r2] := by simp only [bulkRow, bulkC]; omega
    exact Nat.le_trans e hlen
  have hl2 : (r2.length + bulkRows r2) ≤ 1048576 := by
    have e : (r2.length + bulkRows r2) ≤ bulkRow [.sl r0, .sl r1, .sl r2] := by simp only [bulkRow, bulkC]; omega
    exact Nat.le_trans e hlen
  clear hlen
  go_enter Try.func20, Try.ntmps20
  go_wp2_with fail
  refine (HC0.out S _ _ (mkRow_Sorts G0.out G1.out) (by exact mkVals_Sorts (E0.out.below (by repeat (first | refine Below.alloc ?_ (by simp; try omega) _ | exact Below.refl _ _))) (E1.out.below (by repeat (first | refine Below.alloc ?_ (by simp; try omega) _ | exact Below.refl _ _)))) hl0).mono ?_
  rintro e w1 ⟨ys0, rfl, hown0, hb1⟩
  obtain ⟨y0, y1, rfl, f0, f1⟩ := repVals_Sorts (OwnVals.rep _ _ (fun _ => True) _ (fun _ _ => trivial) hown0)
  obtain ⟨A0, n0, cap0, rfl, _, _, _⟩ := f0.form
  clear f0
  obtain ⟨A1, n1, cap1, rfl, _, _, _⟩ := f1.form
  clear f1
  have hz1 := hb1.size
  simp at hz1 hown0
  have HOWN0 := Lib.hid hown0
  clear hown0
  have hbw1 : Below w.heap.size w w1 := Below.trans (by repeat (first | refine Below.alloc ?_ (by simp; try omega) _ | exact Below.refl _ _)) (hb1.mono (by simp; try omega))
  obtain ⟨hc1, hf1⟩ := bcell hb1
  have ha1 : w.heap.size < w1.heap.size := by omega
  have hbb1 : w.heap.size + 1 < w1.heap.size := by omega
  have hcc1 : w.heap.size + 1 + 1 < w1.heap.size := by omega
  go_wp2_with fail
  refine (HC2.out S _ _ G2.out (by exact E2.out.below (by repeat (first | refine Below.setCell ?_ (by simp; try omega) _ | exact hbw1))) hl2).mono ?_
  rintro e w2 ⟨y2, rfl, hown2, hb2⟩
  obtain ⟨A2, n2, cap2, rfl, _, _, _⟩ := (Own.rep _ _ _ hown2).form
  have hz2 := hb2.size
  simp at hz2 hown2
  have HOWN2 := Lib.hid hown2
  clear hown2
  have hbw2 : Below w.heap.size w w2 := Below.trans (by repeat (first | refine Below.setCell ?_ (by simp; try omega) _ | exact hbw1)) (hb2.mono (by simp; try omega))
  obtain ⟨hc2, hf2⟩ := bcell hb2
  have ha2 : w.heap.size < w2.heap.size := by omega
  have hbb2 : w.heap.size + 1 < w2.heap.size := by omega
  have hcc2 : w.heap.size + 1 + 1 < w2.heap.size := by omega
  go_wp2
  refine bodyPost_ret (v := .agg #[.slice A0 n0 cap0, .slice A1 n1 cap1, .slice A2 n2 cap2]) (by simp [results, Try.results20, go_sem, hc1, ha1, hbb1, hcc1, hc2, ha2, hbb2, hcc2]) rfl ⟨[.slice A0 n0 cap0, .slice A1 n1 cap1, .slice A2 n2 cap2], rfl, ?_, (by repeat (first | refine Below.setCell ?_ (by simp; try omega) _ | exact hbw2))⟩
  simp
  exact (OwnVals.append (cs := [.sl r0, .sl r1]) (ds := [.sl r2]) (us := [.slice A0 n0 cap0, .slice A1 n1 cap1]) (vs := [.slice A2 n2 cap2]) (fun x => w.heap.size + 1 + 1 + 1 ≤ x ∧ x < w1.heap.size) (fun x => w1.heap.size ≤ x ∧ x < w2.heap.size) (HOWN0.out.same (by repeat (first | refine Same.trans ?_ (Same.setCell _ _ _ _ (by simp; try omega)) | refine Same.trans ?_ ((Same.below hb2).mono (fun x hx => by simp at hx ⊢; omega)) | exact Same.refl _ _))) (OwnVals.cons (fun x => w1.heap.size ≤ x ∧ x < w2.heap.size) (fun x => w2.heap.size ≤ x ∧ x < w2.heap.size) (HOWN2.out.same (by repeat (first | refine Same.trans ?_ (Same.setCell _ _ _ _ (by simp; try omega)) | exact Same.refl _ _))) OwnVals.nil (fun x hx => ⟨by omega, by omega⟩) (fun x hx => ⟨by omega, by omega⟩) (fun x hx hy => by omega)) (fun x hx => ⟨by omega, by omega⟩) (fun x hx => ⟨by omega, by omega⟩) (fun x hx hy => by omega))
theorem szSignature_any (row : List C) : szSignatureC row := szSignature_of row
theorem eqSignature_any (row : List C) : eqSignatureC row := eqSignature_of row
theorem toSignature_any (row : List C) : toSignatureC row := toSignature_of row
end Go.Proofs.Ytmpcbijkbgmjkaa

namespace Go.Proofs.Ytmpcbijkbgmjkaa
open Go.RowKit

theorem decL {α : Type} {fs : List F} {e : α → List C} {p : α → Prop} (hd : ∀ row, okRow fs row → ∃ a, row = e a ∧ p a) : ∀ {rows : List (List C)}, okRows fs rows → ∃ l : List α, rows = l.map e ∧ ∀ x ∈ l, p x
  | [], _ => ⟨[], rfl, by simp⟩
  | r :: rs, h => by
    simp only [okRows] at h
    obtain ⟨a, rfl, ha⟩ := hd r h.1
    obtain ⟨l, rfl, hl⟩ := decL hd h.2
    exact ⟨a :: l, rfl, fun x hx => by
      rcases List.mem_cons.1 hx with rfl | hx
      · exact ha
      · exact hl x hx⟩
theorem okL {α : Type} {fs : List F} {e : α → List C} {p : α → Prop} (hk : ∀ a, p a → okRow fs (e a)) : ∀ {l : List α}, (∀ x ∈ l, p x) → okRows fs (l.map e)
  | [], _ => by simp [okRows]
  | a :: l, h => by
    simp only [List.map_cons, okRows]
    exact ⟨hk a (h a (by simp)), okL hk (fun x hx => h x (by simp [hx]))⟩

def encInt (n : Int) : List C := [.lit (.int .i64 n)]
def encStr (s : ByteArray) : List C := [.lit (.string s)]
def encSub (p : Int × Int) : List C := [.lit (.int .i64 p.1), .lit (.int .i64 p.2)]
def okSub (p : Int × Int) : Prop := I64 p.1 ∧ I64 p.2
def okStr (s : ByteArray) : Prop := s.size ≤ maxLen
theorem decInt : ∀ row, okRow (fieldsOf .int) row → ∃ a, row = encInt a ∧ I64 a := fun row h => okRow_Int h
theorem okInt : ∀ a, I64 a → okRow (fieldsOf .int) (encInt a) := fun a h => mkRow_Int h
theorem decStr : ∀ row, okRow (fieldsOf .str) row → ∃ a, row = encStr a ∧ okStr a := fun row h => okRow_String h
theorem okStrR : ∀ a, okStr a → okRow (fieldsOf .str) (encStr a) := fun a h => mkRow_String h
theorem decSub : ∀ row, okRow (fieldsOf .sub) row → ∃ a, row = encSub a ∧ okSub a := fun row h => by
  obtain ⟨i0, i1, rfl, h0, h1⟩ := okRow_Sub h
  exact ⟨(i0, i1), rfl, h0, h1⟩
theorem okSubR : ∀ a, okSub a → okRow (fieldsOf .sub) (encSub a) := fun a h => mkRow_Sub h.1 h.2

structure Srt where
  names : List ByteArray
  subs : List (Int × Int)
def encSrt (s : Srt) : List C := [.sl (s.names.map encStr), .sl (s.subs.map encSub)]
def okSrt (s : Srt) : Prop := (∀ x ∈ s.names, okStr x) ∧ ∀ x ∈ s.subs, okSub x
theorem decSrt {row : List C} (h : okRow sortsF row) : ∃ s, row = encSrt s ∧ okSrt s := by
  obtain ⟨r0, r1, rfl, g0, g1⟩ := okRow_Sorts h
  obtain ⟨l0, rfl, k0⟩ := decL decStr g0
  obtain ⟨l1, rfl, k1⟩ := decL decSub g1
  exact ⟨⟨l0, l1⟩, rfl, k0, k1⟩
theorem okSrtR {s : Srt} (h : okSrt s) : okRow sortsF (encSrt s) := mkRow_Sorts (okL okStrR h.1) (okL okSubR h.2)

structure Dcl where
  args : List Int
  res : Int
def encDcl (d : Dcl) : List C := [.sl (d.args.map encInt), .lit (.int .i64 d.res)]
def okDcl (d : Dcl) : Prop := (∀ x ∈ d.args, I64 x) ∧ I64 d.res
theorem decDcl : ∀ row, okRow (fieldsOf .decl) row → ∃ a, row = encDcl a ∧ okDcl a := fun row h => by
  obtain ⟨r0, i1, rfl, g0, g1⟩ := okRow_Decl h
  obtain ⟨l0, rfl, k0⟩ := decL decInt g0
  exact ⟨⟨l0, i1⟩, rfl, k0, g1⟩
theorem okDclR : ∀ a, okDcl a → okRow (fieldsOf .decl) (encDcl a) := fun a h => mkRow_Decl (okL okInt h.1) h.2

structure Opr where
  name : ByteArray
  decls : List Dcl
  assoc : Bool
  comm : Bool
  unit : Int
def encOpr (o : Opr) : List C := [.lit (.string o.name), .sl (o.decls.map encDcl), .lit (.bool o.assoc), .lit (.bool o.comm), .lit (.int .i64 o.unit)]
def okOpr (o : Opr) : Prop := okStr o.name ∧ (∀ x ∈ o.decls, okDcl x) ∧ I64 o.unit
theorem decOpr : ∀ row, okRow (fieldsOf .op) row → ∃ a, row = encOpr a ∧ okOpr a := fun row h => by
  obtain ⟨t0, r1, p2, p3, i4, rfl, g0, g1, _, _, g4⟩ := okRow_Op h
  obtain ⟨l1, rfl, k1⟩ := decL decDcl g1
  exact ⟨⟨t0, l1, p2, p3, i4⟩, rfl, g0, k1, g4⟩
theorem okOprR : ∀ a, okOpr a → okRow (fieldsOf .op) (encOpr a) := fun a h => mkRow_Op h.1 (okL okDclR h.2.1) trivial trivial h.2.2

structure Sgn where
  sorts : Srt
  ops : List Opr
def encSgn (s : Sgn) : List C := [.sl (s.sorts.names.map encStr), .sl (s.sorts.subs.map encSub), .sl (s.ops.map encOpr)]
def okSgn (s : Sgn) : Prop := okSrt s.sorts ∧ ∀ x ∈ s.ops, okOpr x
theorem decSgn {row : List C} (h : okRow sigF row) : ∃ s, row = encSgn s ∧ okSgn s := by
  obtain ⟨r0, r1, r2, rfl, g0, g1, g2⟩ := okRow_Signature h
  obtain ⟨l0, rfl, k0⟩ := decL decStr g0
  obtain ⟨l1, rfl, k1⟩ := decL decSub g1
  obtain ⟨l2, rfl, k2⟩ := decL decOpr g2
  exact ⟨⟨⟨l0, l1⟩, l2⟩, rfl, ⟨k0, k1⟩, k2⟩
theorem okSgnR {s : Sgn} (h : okSgn s) : okRow sigF (encSgn s) := mkRow_Signature (okL okStrR h.1.1) (okL okSubR h.1.2) (okL okOprR h.2)

/-! Reading elements. -/
theorem Rep.at {α : Type} {w : World} {S : Nat → Prop} {fs : List F} {e : α → List C} {p : α → Prop} (hk : ∀ a, p a → okRow fs (e a)) {l : List α} (hl : ∀ x ∈ l, p x) {A : Option Addr} {m cap k : Nat} {a : α}
    (h : Rep w S (.sl (l.map e)) (.slice A m cap)) (ha : l[k]? = some a) : ∃ b off, A = some ⟨b, off, none⟩ ∧ S b ∧ b < w.heap.size ∧ RepRow w S b (off + k * fs.length) (e a) := by
  have hkl : k < l.length := (List.getElem?_eq_some_iff.1 ha).1
  obtain ⟨A', m', cap', hf, hm, _, _⟩ := h.form
  injection hf with h1 h2 h3
  subst h1 h2 h3
  obtain ⟨b, off, r, rfl, hS, hbz, hget, hokr, hrow⟩ := h.get (okL hk hl) (i := k) (by rw [← hm]; simpa using hkl)
  refine ⟨b, off, rfl, hS, hbz, ?_⟩
  rw [List.getElem?_map, ha] at hget
  simp only [Option.map_some, Option.some.injEq] at hget
  rw [hget]
  exact hrow
theorem Rep.shape {α : Type} {w : World} {S : Nat → Prop} {e : α → List C} {l : List α} {v : Value} (h : Rep w S (.sl (l.map e)) v) : ∃ A cap, v = .slice A l.length cap ∧ l.length ≤ cap ∧ cap ≤ maxLen := by
  obtain ⟨A, m, cap, rfl, hm, h1, h2⟩ := h.form
  rw [List.length_map] at hm
  subst hm
  exact ⟨A, cap, rfl, h1, h2⟩
end Go.Proofs.Ytmpcbijkbgmjkaa

namespace Go.Proofs.Ytmpcbijkbgmjkaa
open Go.RowKit
theorem okRow_Ints {r : List C} (h : okRow (fieldsOf .ints) r) : ∃ r0, r = [.sl r0] ∧ okRows (fieldsOf .int) r0 := by
  obtain ⟨c0, rfl⟩ := len1 h.len
  simp only [fieldsOf, okRow, and_true] at h
  obtain ⟨r0, rfl, g0⟩ := okC_sl h
  exact ⟨r0, rfl, g0⟩
theorem mkRow_Ints {r0 : List (List C)} (g0 : okRows (fieldsOf .int) r0) : okRow (fieldsOf .ints) [.sl r0] := by
  simp only [fieldsOf, okRow, and_true]
  exact mk_sl g0
def szIntsC (row : List C) : Prop := ∀ (S : Nat → Prop) (us : List Value) (left : Int) (w : World), okRow (fieldsOf .ints) row → RepVals w S row us → 0 ≤ left → left ≤ 1048576 →
  Calls Try.prog 75 #[us.getD 0 undef, .int .i64 left] w fun e w' => e = .returned (.int .i64 (sub left (bulkRow row))) ∧ Below w.heap.size w w'
def eqIntsC (row : List C) : Prop := ∀ (S S' : Nat → Prop) (us us' : List Value) (w : World), okRow (fieldsOf .ints) row → RepVals w S row us → RepVals w S' row us' →
  Calls Try.prog 13 #[us.getD 0 undef, us'.getD 0 undef] w fun e w' => e = .returned (.bool true) ∧ Below w.heap.size w w'
def toIntsC (row : List C) : Prop := ∀ (S : Nat → Prop) (us : List Value) (w : World), okRow (fieldsOf .ints) row → RepVals w S row us → bulkRow row ≤ 1048576 →
  Calls Try.prog 10 #[us.getD 0 undef] w fun e w' => ∃ v' : Value, e = .returned v' ∧ OwnVals w' row (fun x => w.heap.size ≤ x ∧ x < w'.heap.size) [v'] ∧ Below w.heap.size w w'
theorem szInts_any (row : List C) : szIntsC row := by
  intro S us left w hok hv h0 h1
  obtain ⟨r0, rfl, g0⟩ := okRow_Ints hok
  obtain ⟨u0, rfl⟩ := len1 (hv.len.trans hok.len)
  simp only [RepVals, and_true] at hv
  have := szIntS_any r0 S u0 left w g0 hv h0 h1
  simpa [bulkRow, bulkC] using this
theorem eqInts_any (row : List C) : eqIntsC row := by
  intro S S' us us' w hok hv hv'
  obtain ⟨r0, rfl, g0⟩ := okRow_Ints hok
  obtain ⟨u0, rfl⟩ := len1 (hv.len.trans hok.len)
  obtain ⟨u1, rfl⟩ := len1 (hv'.len.trans hok.len)
  simp only [RepVals, and_true] at hv hv'
  exact eqIntS_any r0 S S' u0 u1 w g0 hv hv'
theorem toInts_any (row : List C) : toIntsC row := by
  intro S us w hok hv h1
  obtain ⟨r0, rfl, g0⟩ := okRow_Ints hok
  obtain ⟨u0, rfl⟩ := len1 (hv.len.trans hok.len)
  simp only [RepVals, and_true] at hv
  refine (toIntS_any r0 S u0 w g0 hv (by simpa [bulkRow, bulkC] using h1)).mono ?_
  rintro e w' ⟨v', rfl, hown, hb⟩
  exact ⟨v', rfl, OwnVals.cons _ (fun _ => False) hown OwnVals.nil (fun _ h => h) (fun _ h => h.elim) (fun _ _ h => h), hb⟩
def szIntsSC (rows : List (List C)) : Prop := ∀ (S : Nat → Prop) (v : Value) (left : Int) (w : World), okRows (fieldsOf .ints) rows → Rep w S (.sl rows) v → 0 ≤ left → left ≤ 1048576 →
  Calls Try.prog 44 #[v, .int .i64 left] w fun e w' => e = .returned (.int .i64 (sub left (rows.length + bulkRows rows))) ∧ Below w.heap.size w w'
def eqIntsSC (rows : List (List C)) : Prop := ∀ (S S' : Nat → Prop) (v v' : Value) (w : World), okRows (fieldsOf .ints) rows → Rep w S (.sl rows) v → Rep w S' (.sl rows) v' →
  Calls Try.prog 54 #[v, v'] w fun e w' => e = .returned (.bool true) ∧ Below w.heap.size w w'
def toIntsSC (rows : List (List C)) : Prop := ∀ (S : Nat → Prop) (v : Value) (w : World), okRows (fieldsOf .ints) rows → Rep w S (.sl rows) v → rows.length + bulkRows rows ≤ 1048576 →
  Calls Try.prog 49 #[v] w fun e w' => ∃ v', e = .returned v' ∧ Own w' (.sl rows) (fun x => w.heap.size ≤ x ∧ x < w'.heap.size) v' ∧ Below w.heap.size w w'

set_option maxHeartbeats 1000000 in
theorem szIntsS_of (rows : List (List C)) (h : ∀ (i : Nat) r, rows[i]? = some r → szIntsC r) : szIntsSC rows := by
  intro S v left w hok hv h0 h1
  obtain ⟨A, m, cap, rfl, hm, hmc, hcm⟩ := hv.form
  have H := Lib.hid h
  have HV := Lib.hid hv
  have HM := Lib.hid hm
  have HOK := Lib.hid hok
  clear h hv hm hok
  unfold maxLen at hcm
  by_cases hlt : left - m < 0
  · rw [sub_neg (by have := HM.out; omega)]
    go_enter Try.func44, Try.ntmps44
    go_wp2
    go_ret
    exact ⟨rfl, Below.refl _ _⟩
  · go_enter Try.func44, Try.ntmps44
    go_wp2
    go_loopw [1, 5] (fun l i wr => ∃ k : Nat, k ≤ m ∧ i = .int .i64 k ∧ l = .int .i64 (left - m - (bulkRows (rows.take k) : Int)) ∧ 0 ≤ left - m - (bulkRows (rows.take k) : Int) ∧ Below w.heap.size w wr) (fun _ i _ => m - (intOf i).toNat)
    case atStart => exact ⟨0, Nat.zero_le _, rfl, by simp [bulkRows], by simp [bulkRows]; omega, Below.refl _ _⟩
    case round =>
      obtain ⟨k, hk, rfl, rfl, hl0, hb⟩ := hrel
      by_cases hkm : k < m
      · obtain ⟨b, off, r, rfl, hS, hbz, hget, hokr, hrow⟩ := (HV.out.below hb).get HOK.out hkm
        obtain ⟨u0, c0, hvals⟩ := hrow.vals1 hokr.len
        have HT := H.out k r hget
        have HVALS := Lib.hid hvals
        have HOKR := Lib.hid hokr
        have HBT := Lib.hid (bulk_take hget)
        have hle := bulk_take_le rows (k+1)
        clear hvals hokr hrow hget
        simp only [fieldsOf, termF, occF, sortsF, sigF, moduleF, algF, List.cons_append, List.nil_append, List.length_cons, List.length_nil, Nat.reduceAdd, Nat.mul_one] at c0
        by_cases h2 : left - m - (bulkRows (rows.take k) : Int) < bulkRow r
        · go_wp2_with fail
          refine (HT S _ _ _ HOKR.out HVALS.out (by omega) (by omega)).mono ?_
          rw [sub_neg h2]
          rintro e w' ⟨rfl, hb2⟩
          go_wp2
          go_ret
          exact ⟨ret_int (a := -1) (sub_neg (by have := HBT.out; have := HM.out; omega)).symm, hb.trans (hb2.mono hb.size)⟩
        · go_wp2_with fail
          refine (HT S _ _ _ HOKR.out HVALS.out (by omega) (by omega)).mono ?_
          rw [sub_pos (by omega)]
          rintro e w' ⟨rfl, hb2⟩
          go_wp2
          go_roundw
          case rel => exact ⟨k + 1, by omega, by go_num, by have := HBT.out; congr 1; omega, by have := HBT.out; omega, hb.trans (hb2.mono hb.size)⟩
          case measure => simp [intOf]; omega
      · go_wp2
        go_ret
        have e : k = m := by omega
        subst e
        have : rows.take k = rows := List.take_of_length_le (by have := HM.out; omega)
        rw [this] at hl0 ⊢
        exact ⟨ret_int (by have := HM.out; rw [sub_pos (by omega)]; omega), hb⟩

set_option maxHeartbeats 1000000 in
theorem eqIntsS_of (rows : List (List C)) (h : ∀ (i : Nat) r, rows[i]? = some r → eqIntsC r) : eqIntsSC rows := by
  intro S S' v v' w hok hv hv'
  obtain ⟨A, m, cap, rfl, hm, hmc, hcm⟩ := hv.form
  obtain ⟨A', m', cap', rfl, hm', hmc', hcm'⟩ := hv'.form
  obtain rfl : m = m' := by omega
  have H := Lib.hid h
  have HV := Lib.hid hv
  have HV' := Lib.hid hv'
  have HM := Lib.hid hm
  have HOK := Lib.hid hok
  clear h hv hm hok hm' hv'
  unfold maxLen at hcm hcm'
  go_enter Try.func54, Try.ntmps54
  go_wp2
  go_loopw [5] (fun i wr => ∃ k : Nat, k ≤ m ∧ i = .int .i64 k ∧ Below w.heap.size w wr) (fun i _ => m - (intOf i).toNat)
  case atStart => exact ⟨0, Nat.zero_le _, rfl, Below.refl _ _⟩
  case round =>
    obtain ⟨k, hk, rfl, hb⟩ := hrel
    by_cases hkm : k < m
    · obtain ⟨b, off, r, rfl, hS, hbz, hget, hokr, hrow⟩ := (HV.out.below hb).get HOK.out hkm
      obtain ⟨b', off', r', rfl, hS', hbz', hget', hokr', hrow'⟩ := (HV'.out.below hb).get HOK.out hkm
      obtain rfl : r = r' := by rw [hget] at hget'; exact Option.some.inj hget'
      obtain ⟨u0, c0, hvals⟩ := hrow.vals1 hokr.len
      obtain ⟨x0, d0, hvals'⟩ := hrow'.vals1 hokr.len
      have HT := H.out k r hget
      have HVALS := Lib.hid hvals
      have HVALS' := Lib.hid hvals'
      have HOKR := Lib.hid hokr
      clear hvals hvals' hokr hokr' hrow hrow' hget hget'
      simp only [fieldsOf, termF, occF, sortsF, sigF, moduleF, algF, List.cons_append, List.nil_append, List.length_cons, List.length_nil, Nat.reduceAdd, Nat.mul_one] at c0 d0
      have k0 : (0 : Int) ≤ (k : Int) := by omega
      have k1 : (k : Int) < (m : Int) := by omega
      go_wp2_with fail
      go_region_held3 (fun w' => ∀ b o, b < wr.heap.size → w'.cell? ⟨b, o, none⟩ = wr.cell? ⟨b, o, none⟩) (first | go_keep | exact fun b o h => hb2.cell (p := ⟨b, o, none⟩) h) (first | (go_at_call 13; refine (HT S S' _ _ _ HOKR.out (HVALS.out.below (Below.refl _ _).drew) (HVALS'.out.below (Below.refl _ _).drew)).mono ?_; rintro e w' ⟨rfl, hb2⟩))
      go_wp2
      go_roundw
      case rel => exact ⟨k + 1, by omega, by go_num, hb.trans ((Below.refl _ _).drew.trans (hb2.mono hb.size))⟩
      case measure => simp [intOf]; omega
    · go_wp2
      go_ret
      exact ⟨rfl, hb⟩
theorem info_Ints : (Try.prog.info? 25).map (fun i => (i.zero, i.size, i.bytes)) = some (some (.slice none 0 0), 1, 24) := by kernel_rfl
set_option maxHeartbeats 1000000 in
theorem toIntsS_of (rows : List (List C)) (h : ∀ (i : Nat) r, rows[i]? = some r → toIntsC r) : toIntsSC rows := by
  intro S v w hok hv hlen
  obtain ⟨A, m, cap, rfl, hm, hmc, hcm⟩ := hv.form
  obtain ⟨i0, hi, hz0, hz1, hz2⟩ := info_parts info_Ints
  have H := Lib.hid h
  have HV := Lib.hid hv
  have HM := Lib.hid hm
  have HOK := Lib.hid hok
  have hml : m ≤ 1048576 := by omega
  clear h hv hm hok
  unfold maxLen at hcm
  have hmk := run_make (P := Try.prog) w 46 25 i0 _ Try.underlying46 hi hz0 .i64 .i64 (m : Int) (m : Int) (by omega) (by omega) (by rw [hz2]; omega) (by omega)
  go_enter Try.func49, Try.ntmps49
  go_wp2
  clear hmk
  go_loopw [4] (fun i wr => ∃ k : Nat, k ≤ m ∧ i = .int .i64 k ∧ Filling w w.heap.size 25 m 1 rows k wr) (fun i _ => m - (intOf i).toNat)
  case atStart => exact ⟨0, Nat.zero_le _, rfl, Filling.start (by rw [size_madeCells]; omega)⟩
  case round =>
    obtain ⟨k, hk, rfl, hfill⟩ := hrel
    have hb := hfill.1
    by_cases hkm : k < m
    · obtain ⟨b, off, r, rfl, hS, hbz, hget, hokr, hrow⟩ := (HV.out.below hb).get HOK.out hkm
      obtain ⟨u0, c0, hvals⟩ := hrow.vals1 hokr.len
      have HT := H.out k r hget
      have HVALS := Lib.hid hvals
      have HOKR := Lib.hid hokr
      have HGET := Lib.hid hget
      have HF := Lib.hid hfill
      have hbg := bulk_get hget
      clear hvals hokr hrow hget hfill
      simp only [fieldsOf, termF, occF, sortsF, sigF, moduleF, algF, List.cons_append, List.nil_append, List.length_cons, List.length_nil, Nat.reduceAdd, Nat.mul_one] at c0
      go_wp2_with fail
      refine (HT S _ _ HOKR.out HVALS.out (by omega)).mono ?_
      rintro e w2 ⟨y0, rfl, hown, hb2⟩
      have hone := HOKR.out.one (OwnVals.rep _ _ (fun _ => True) _ (fun _ _ => trivial) hown)
      have hform : ∃ A1 n1 c1, y0 = Value.slice A1 n1 c1 := by
        obtain ⟨r0, rfl, _⟩ := okRow_Ints HOKR.out
        have hr := OwnVals.rep _ _ (fun _ => True) _ (fun _ _ => trivial) hown
        simp only [RepVals, and_true] at hr
        obtain ⟨A1, n1, c1, e1, _⟩ := hr.form
        exact ⟨A1, n1, c1, e1⟩
      obtain ⟨A1, n1, c1, rfl⟩ := hform
      have HOWN := Lib.hid hown
      have HONE := Lib.hid hone
      obtain ⟨cur, hcur, hcs⟩ := HF.out.row hb2
      have HCUR := Lib.hid hcur
      have HCS := Lib.hid hcs
      clear hown hone hcur hcs
      go_wp2_with (refine wpList_store_put rfl 25 _ _ rfl w.heap.size k rfl [.slice A1 n1 c1] rfl i0 hi hz1 25 cur HCUR.out (by have := HCS.out; simp only [List.length_cons, List.length_nil]; omega) HONE.out ?_; intro w3 hput)
      go_roundw
      case rel => exact ⟨k + 1, by omega, by go_num, HF.out.step (fs := fieldsOf .ints) HOK.out HGET.out hb2 HOWN.out (by simpa [fieldsOf] using hput)⟩
      case measure => simp [intOf]; omega
    · go_wp2
      go_ret
      have e : k = m := by omega
      subst e
      exact ⟨_, rfl, hfill.done HM.out (by unfold maxLen; omega) (by decide) HOK.out.lens⟩
theorem szIntsS_any (rows : List (List C)) : szIntsSC rows := szIntsS_of rows (fun _ r _ => szInts_any r)
theorem eqIntsS_any (rows : List (List C)) : eqIntsSC rows := eqIntsS_of rows (fun _ r _ => eqInts_any r)
theorem toIntsS_any (rows : List (List C)) : toIntsSC rows := toIntsS_of rows (fun _ r _ => toInts_any r)
end Go.Proofs.Ytmpcbijkbgmjkaa

namespace Go.Proofs.Ytmpcbijkbgmjkaa
open Go.RowKit
theorem okRow_Algebra {r : List C} (h : okRow (algF) r) : ∃ (i0 : Int) (r1 : List (List C)), r = [.lit (.int .i64 i0), .sl r1] ∧ I64 i0 ∧ okRows (fieldsOf .ints) r1 := by
  obtain ⟨c0, c1, rfl⟩ := len2 h.len
  simp only [fieldsOf, termF, occF, sortsF, sigF, moduleF, algF, List.cons_append, List.nil_append, okRow, and_true] at h
  obtain ⟨h0, h1⟩ := h
  obtain ⟨i0, rfl, g0⟩ := okC_int h0
  obtain ⟨r1, rfl, g1⟩ := okC_sl h1
  exact ⟨i0, r1, rfl, g0, g1⟩
theorem mkRow_Algebra {i0 : Int} {r1 : List (List C)} (g0 : I64 i0) (g1 : okRows (fieldsOf .ints) r1) : okRow (algF) [.lit (.int .i64 i0), .sl r1] := by
  simp only [fieldsOf, termF, occF, sortsF, sigF, moduleF, algF, List.cons_append, List.nil_append, okRow, and_true]
  exact ⟨mk_int g0, mk_sl g1⟩
theorem repVals_Algebra {w : World} {S : Nat → Prop} {i0 : Int} {r1 : List (List C)} {us : List Value} (h : RepVals w S [.lit (.int .i64 i0), .sl r1] us) : ∃ v1, us = [.int .i64 i0, v1] ∧ Rep w S (.sl r1) v1 := by
  obtain ⟨u0, u1, rfl⟩ := len2 h.len
  simp only [RepVals, Rep.lit_iff, and_true] at h
  obtain ⟨rfl, e1⟩ := h
  exact ⟨u1, rfl, e1⟩
theorem mkVals_Algebra {w : World} {S : Nat → Prop} {i0 : Int} {r1 : List (List C)} {v1 : Value} (e1 : Rep w S (.sl r1) v1) : RepVals w S [.lit (.int .i64 i0), .sl r1] [.int .i64 i0, v1] := by
  simp only [RepVals, Rep.lit_iff, and_true, true_and]
  exact e1
def szAlgebraC (row : List C) : Prop := ∀ (S : Nat → Prop) (us : List Value) (left : Int) (w : World), okRow (algF) row → RepVals w S row us → 0 ≤ left → left ≤ 1048576 →
  Calls Try.prog 18 #[.agg us.toArray, .int .i64 left] w fun e w' => e = .returned (.int .i64 (sub left (bulkRow row))) ∧ Below w.heap.size w w'
def eqAlgebraC (row : List C) : Prop := ∀ (S S' : Nat → Prop) (us us' : List Value) (w : World), okRow (algF) row → RepVals w S row us → RepVals w S' row us' →
  Calls Try.prog 24 #[.agg us.toArray, .agg us'.toArray] w fun e w' => e = .returned (.bool true) ∧ Below w.heap.size w w'
def toAlgebraC (row : List C) : Prop := ∀ (S : Nat → Prop) (us : List Value) (w : World), okRow (algF) row → RepVals w S row us → bulkRow row ≤ 1048576 →
  Calls Try.prog 21 #[.agg us.toArray] w fun e w' => ∃ us' : List Value, e = .returned (.agg us'.toArray) ∧ OwnVals w' row (fun x => w.heap.size ≤ x ∧ x < w'.heap.size) us' ∧ Below w.heap.size w w'

set_option maxHeartbeats 1000000 in
theorem szAlgebra_of (row : List C) : szAlgebraC row := by
  intro S us left w hok hv h0 h1
  obtain ⟨i0, r1, rfl, g0, g1⟩ := okRow_Algebra hok
  obtain ⟨v1, rfl, e1⟩ := repVals_Algebra hv
  have HC1 := Lib.hid (szIntsS_any r1)
  have HB := Lib.hid (show bulkRow [.lit (.int .i64 i0), .sl r1] = (r1.length + bulkRows r1) from by simp only [bulkRow, bulkC]; omega)
  have G0 := Lib.hid g0
  have G1 := Lib.hid g1
  clear g0 g1 hok
  have E1 := Lib.hid e1
  clear hv e1
  generalize hrow : bulkRow [.lit (.int .i64 i0), .sl r1] = total at HB ⊢
  clear hrow
  have hbw := (Below.refl w.heap.size w).alloc (Nat.le_refl _) (.cells #[.int .i64 i0, v1] 48)
  go_enter Try.func18, Try.ntmps18
  go_wp2_with fail
  by_cases q1 : left < ((r1.length + bulkRows r1) : Nat)
  · refine (HC1.out S _ _ _ G1.out (E1.out.below hbw) (by omega) (by omega)).mono ?_
    rw [sub_neg (by omega)]
    rintro e w1 ⟨rfl, hb1⟩
    go_wp2
    go_ret
    exact ⟨ret_int (a := -1) (sub_neg (by have := HB.out; omega)).symm, hbw.trans (hb1.mono hbw.size)⟩
  refine (HC1.out S _ _ _ G1.out (E1.out.below hbw) (by omega) (by omega)).mono ?_
  rw [sub_pos (by omega)]
  rintro e w1 ⟨rfl, hb1⟩
  obtain ⟨hc1, hf1⟩ := bcell hb1
  have hz1 : w.heap.size < w1.heap.size := (by have := hb1.size; (try simp at this); omega)
  replace hbw := hbw.trans (hb1.mono hbw.size)
  go_wp2
  go_ret
  exact ⟨ret_int (by have := HB.out; rw [sub_pos (by omega)]; omega), hbw⟩

set_option maxHeartbeats 1000000 in
theorem eqAlgebra_of (row : List C) : eqAlgebraC row := by
  intro S S' us us' w hok hv hv'
  obtain ⟨i0, r1, rfl, g0, g1⟩ := okRow_Algebra hok
  obtain ⟨v1, rfl, e1⟩ := repVals_Algebra hv
  obtain ⟨x1, rfl, d1⟩ := repVals_Algebra hv'
  have HC1 := Lib.hid (eqIntsS_any r1)
  have G0 := Lib.hid g0
  have G1 := Lib.hid g1
  clear g0 g1 hok
  have E1 := Lib.hid e1
  have D1 := Lib.hid d1
  clear hv hv' e1 d1
  have hbw := ((Below.refl w.heap.size w).alloc (Nat.le_refl _) (.cells #[.int .i64 i0, v1] 59)).alloc (by simp) (.cells #[.int .i64 i0, x1] 59)
  go_enter Try.func24, Try.ntmps24
  go_wp2_with fail
  refine (HC1.out S S' _ _ _ G1.out (E1.out.below hbw) (D1.out.below hbw)).mono ?_
  rintro e w1 ⟨rfl, hb1⟩
  obtain ⟨hc1, hf1⟩ := bcell hb1
  have hz1 : w.heap.size + 1 < w1.heap.size := (by have := hb1.size; (try simp at this); omega)
  have ha1 : w.heap.size < w1.heap.size := by omega
  replace hbw := hbw.trans (hb1.mono hbw.size)
  go_wp2
  go_ret
  exact ⟨rfl, hbw⟩

set_option maxHeartbeats 2000000 in
theorem toAlgebra_of (row : List C) : toAlgebraC row := by
  intro S us w hok hv hlen
  obtain ⟨i0, r1, rfl, g0, g1⟩ := okRow_Algebra hok
  obtain ⟨v1, rfl, e1⟩ := repVals_Algebra hv
  have HC1 := Lib.hid (toIntsS_any r1)
  have G0 := Lib.hid g0
  have G1 := Lib.hid g1
  clear g0 g1 hok
  have E1 := Lib.hid e1
  clear hv e1
  have hl1 : (r1.length + bulkRows r1) ≤ 1048576 := by
    have e : (r1.length + bulkRows r1) ≤ bulkRow [.lit (.int .i64 i0), .sl r1] := by simp only [bulkRow, bulkC]; omega
    exact Nat.le_trans e hlen
  clear hlen
  go_enter Try.func21, Try.ntmps21
  go_wp2_with fail
  refine (HC1.out S _ _ G1.out (by exact E1.out.below (by repeat (first | refine Below.alloc ?_ (by simp; try omega) _ | exact Below.refl _ _))) hl1).mono ?_
  rintro e w1 ⟨y1, rfl, hown1, hb1⟩
  obtain ⟨A1, n1, cap1, rfl, _, _, _⟩ := (Own.rep _ _ _ hown1).form
  have hz1 := hb1.size
  simp at hz1 hown1
  have HOWN1 := Lib.hid hown1
  clear hown1
  have hbw1 : Below w.heap.size w w1 := Below.trans (by repeat (first | refine Below.alloc ?_ (by simp; try omega) _ | exact Below.refl _ _)) (hb1.mono (by simp; try omega))
  obtain ⟨hc1, hf1⟩ := bcell hb1
  have ha1 : w.heap.size < w1.heap.size := by omega
  have hbb1 : w.heap.size + 1 < w1.heap.size := by omega
  have hcc1 : w.heap.size + 1 + 1 < w1.heap.size := by omega
  go_wp2
  refine bodyPost_ret (v := .agg #[.int .i64 i0, .slice A1 n1 cap1]) (by simp [results, Try.results21, go_sem, hc1, ha1, hbb1, hcc1]) rfl ⟨[.int .i64 i0, .slice A1 n1 cap1], rfl, ?_, (by repeat (first | refine Below.setCell ?_ (by simp; try omega) _ | exact hbw1))⟩
  simp
  exact (OwnVals.lit (OwnVals.cons (fun x => w.heap.size + 1 + 1 + 1 ≤ x ∧ x < w1.heap.size) (fun x => w1.heap.size ≤ x ∧ x < w1.heap.size) (HOWN1.out.same (by repeat (first | refine Same.trans ?_ (Same.setCell _ _ _ _ (by simp; try omega)) | exact Same.refl _ _))) OwnVals.nil (fun x hx => ⟨by omega, by omega⟩) (fun x hx => ⟨by omega, by omega⟩) (fun x hx hy => by omega)))
theorem szAlgebra_any (row : List C) : szAlgebraC row := szAlgebra_of row
theorem eqAlgebra_any (row : List C) : eqAlgebraC row := eqAlgebra_of row
theorem toAlgebra_any (row : List C) : toAlgebraC row := toAlgebra_of row
end Go.Proofs.Ytmpcbijkbgmjkaa

namespace Go.Proofs.Ytmpcbijkbgmjkaa
open Go.RowKit

def encInts (l : List Int) : List C := [.sl (l.map encInt)]
def okInts (l : List Int) : Prop := ∀ x ∈ l, I64 x
theorem decInts : ∀ row, okRow (fieldsOf .ints) row → ∃ a, row = encInts a ∧ okInts a := fun row h => by
  obtain ⟨r0, rfl, g0⟩ := okRow_Ints h
  obtain ⟨l, rfl, hl⟩ := decL decInt g0
  exact ⟨l, rfl, hl⟩
theorem okIntsR : ∀ a, okInts a → okRow (fieldsOf .ints) (encInts a) := fun a h => mkRow_Ints (okL okInt h)
structure Alg where
  size : Int
  tables : List (List Int)
def encAlg (a : Alg) : List C := [.lit (.int .i64 a.size), .sl (a.tables.map encInts)]
def okAlg (a : Alg) : Prop := I64 a.size ∧ ∀ t ∈ a.tables, okInts t
theorem decAlg {row : List C} (h : okRow algF row) : ∃ a, row = encAlg a ∧ okAlg a := by
  obtain ⟨i0, r1, rfl, g0, g1⟩ := okRow_Algebra h
  obtain ⟨l, rfl, hl⟩ := decL decInts g1
  exact ⟨⟨i0, l⟩, rfl, g0, hl⟩
theorem okAlgR {a : Alg} (h : okAlg a) : okRow algF (encAlg a) := mkRow_Algebra h.1 (okL okIntsR h.2)
theorem Rep.intsAt {w : World} {S : Nat → Prop} {l : List (List Int)} {A : Option Addr} {m cap k : Nat} {t : List Int} (hl : ∀ x ∈ l, okInts x) (h : Rep w S (.sl (l.map encInts)) (.slice A m cap)) (ht : l[k]? = some t) :
    ∃ b off At ct, A = some ⟨b, off, none⟩ ∧ b < w.heap.size ∧ w.cell? ⟨b, off + k, none⟩ = some (.slice At t.length ct) ∧ t.length ≤ ct ∧ ct ≤ maxLen ∧ Rep w S (.sl (t.map encInt)) (.slice At t.length ct) := by
  obtain ⟨b, off, rfl, _, hb, hr⟩ := Rep.at okIntsR hl h ht
  simp only [encInts, RepRow, and_true, fieldsOf, List.length_cons, List.length_nil, Nat.zero_add, Nat.mul_one] at hr
  obtain ⟨u, c0, r0⟩ := hr
  obtain ⟨At, ct, rfl, h1, h2⟩ := r0.shape
  exact ⟨b, off, At, ct, rfl, hb, c0, h1, h2, r0⟩
end Go.Proofs.Ytmpcbijkbgmjkaa

namespace Go.Proofs.Ytmpcbijkbgmjkaa
open Go.RowKit

noncomputable def e0 : Env := ⟨Try.prog, fun _ => False, fun _ => True, False⟩
/-- The same, where it is told that no draw is undone. -/
noncomputable def e1 : Env := ⟨Try.prog, fun _ => False, fun _ => True, True⟩
theorem e1P : e1.P = Try.prog := rfl
theorem e1_ok : e1.Ok := ⟨fun _ _ _ _ _ => trivial, by kernel_rfl⟩
theorem con_1 {f : FuncId} {args r : List D} (h : Con e1 f args r) : Con e0 f args r :=
  ⟨h.1, fun w S vs hS hE hG hvs => (h.2 w S vs hS hE hG hvs).mono fun en w' ⟨v, h1, h2, h3, h4⟩ => ⟨v, h1, ⟨h2.os, h2.tape, h2.output, fun d => d.elim, h2.size, h2.block⟩, h3, h4⟩⟩
theorem e0P : e0.P = Try.prog := rfl
theorem e0_ok : e0.Ok := ⟨fun _ _ _ _ _ => trivial, by kernel_rfl⟩
/-- A contract in terms of worlds, as a contract of the plain machine. -/
theorem con_below {e : Env} (he : e.Ok) {f : FuncId} {args r : List D} (hb : hasBody e.P f = true)
    (h : ∀ (w : World) (S : Nat → Prop) (vs : List Value), DsRel w S args vs → Calls e.P f vs.toArray w fun en w' => ∃ v, en = .returned v ∧ Below w.heap.size w w' ∧ ARel w' (fun b => S b ∨ (w.heap.size ≤ b ∧ b < w'.heap.size)) ⟨fun _ => 0, fun _ => Go.undef⟩ (retA r) v) (hD : ¬ e.D := by exact id) : Con e f args r := by
  refine ⟨hb, fun w S vs hS hE hG hvs => (h w S vs hvs).mono fun en w' ⟨v, h1, h2, h3⟩ => ⟨v, h1, Kept.of_below h2 (fun d => (hD d).elim), he.keep _ _ h2.size (fun b hb => h2.block b (hE b hb)) hG, ?_⟩⟩
  exact h3
theorem rowsB_map {α : Type} {e : α → List C} {n : Nat} (h : ∀ a, ((e a).length == n && (e a).all okCell) = true) (l : List α) : rowsB n (l.map e) = true := by
  unfold rowsB
  rw [List.all_map]
  exact List.all_eq_true.2 fun a _ => h a
theorem rowsB_nil {n : Nat} : rowsB n [] = true := rfl
theorem rowsB_cons {n : Nat} {r : List C} {rs : List (List C)} : rowsB n (r :: rs) = (r.length == n && r.all okCell && rowsB n rs) := rfl
theorem rowsB_app {n : Nat} {r rs : List (List C)} : rowsB n (r ++ rs) = (rowsB n r && rowsB n rs) := by unfold rowsB; rw [List.all_append]
theorem rb_int (l : List Int) : rowsB 1 (l.map encInt) = true := rowsB_map (e := encInt) (n := 1) (fun _ => rfl) l
theorem rb_str (l : List ByteArray) : rowsB 1 (l.map encStr) = true := rowsB_map (e := encStr) (n := 1) (fun _ => rfl) l
theorem rb_sub (l : List (Int × Int)) : rowsB 2 (l.map encSub) = true := rowsB_map (e := encSub) (n := 2) (fun _ => rfl) l
theorem rb_dcl (l : List Dcl) : rowsB 2 (l.map encDcl) = true := rowsB_map (e := encDcl) (n := 2) (fun _ => rfl) l
theorem rb_opr (l : List Opr) : rowsB 5 (l.map encOpr) = true := rowsB_map (e := encOpr) (n := 5) (fun _ => rfl) l
theorem rb_ints (l : List (List Int)) : rowsB 1 (l.map encInts) = true := rowsB_map (e := encInts) (n := 1) (fun _ => rfl) l
theorem wrapN {a b : Int} (h : a = b) (h1 : -9223372036854775808 ≤ b) (h2 : b ≤ 9223372036854775807) : IntKind.i64.wrap a = b := by rw [h]; exact IntWalk.i64_in _ ⟨h1, h2⟩
theorem wrap1 {k : Nat} (h : k < 9223372036854775807) : IntKind.i64.wrap ((k : Int) + 1) = ((k + 1 : Nat) : Int) := wrapN (by omega) (by omega) (by omega)
theorem bqtt : (true == true) = true := rfl
theorem bqtf : (true == false) = false := rfl
theorem bqft : (false == true) = false := rfl
theorem bqff : (false == false) = true := rfl
theorem natInt (n : Nat) : (n : Int).toNat = n := Int.toNat_natCast n
theorem gs_n {t : Nat} : gs [] t = .undef := rfl
theorem gs_c {k t : Nat} {a : A} {r : List (Nat × A)} : gs ((k, a) :: r) t = if t = k then a else gs r t := rfl
theorem gm_n {t : Nat} : gm [] t = none := rfl
theorem gm_c {k t : Nat} {a : Bk} {r : List (Nat × Bk)} : gm ((k, a) :: r) t = if t = k then some a else gm r t := rfl
theorem initS_n {k : Nat} : initS k [] = [] := rfl
theorem initS_c {k : Nat} {d : D} {r : List D} : initS k (d :: r) = (k, .d d) :: initS (k + 1) r := rfl
theorem pz : type_of% (And.intro @tt_0 (And.intro @tt_1 (And.intro @tt_2 (And.intro @tt_3 (And.intro @tt_4 (And.intro @tt_5 (And.intro @tt_6 (And.intro @tt_7 (And.intro @pm_0 (And.intro @pm_1 (And.intro @pm_2 (And.intro @pm_3 (And.intro @pm_4 (And.intro @pm_5 (And.intro @pm_6 (And.intro @pm_7 (And.intro @pm_8 (And.intro @pm_9 (And.intro @pm_10 (And.intro @e0P (And.intro @gs_n (And.intro @gs_c (And.intro @gm_n (And.intro @gm_c (And.intro @initS_n (And.intro @initS_c (And.intro @rb_int (And.intro @rb_str (And.intro @rb_sub (And.intro @rb_dcl (And.intro @rb_opr (And.intro @rb_ints (And.intro @rowsB_nil (And.intro @rowsB_cons (And.intro @bqtt (And.intro @bqtf (And.intro @bqft (And.intro @bqff (And.intro @Bool.and_self (And.intro @Bool.or_true (And.intro @Bool.true_or (And.intro @Bool.or_false (And.intro @Bool.false_or (And.intro @Nat.zero_add (And.intro @Nat.add_zero (And.intro @and_self (And.intro @true_and (And.intro @and_true (And.intro @Bool.not_true (And.intro @Bool.not_false (And.intro @natInt (And.intro @trimS_n (And.intro @trimS_c (And.intro @tb_eq (And.intro @endR_d (And.intro @callOf_c (And.intro @Int.natCast_nonneg (And.intro @Int.toNat_zero (And.intro @Int.toNat_one (And.intro @Nat.le_refl (And.intro @List.map_nil.{0, 0} (And.intro @List.getElem?_cons_zero.{0} (And.intro @List.getElem?_cons_succ.{0} (And.intro @List.drop_succ_cons.{0} (And.intro @List.drop_zero.{0} (And.intro @List.drop_nil.{0} (And.intro @List.take_succ_cons.{0} (And.intro @List.take_zero.{0} (And.intro @List.length_cons.{0} (And.intro @List.length_nil.{0} (And.intro @List.length_append.{0} (And.intro @List.all_cons.{0} (And.intro @List.all_nil.{0} (And.intro @List.isEmpty_cons.{0} (And.intro @List.isEmpty_nil.{0} (And.intro @List.cons_append.{0} (And.intro @List.nil_append.{0} (And.intro @List.append_nil.{0} (And.intro @Option.map_some.{0, 0} (And.intro @Option.map_none.{0, 0} (And.intro @Option.join_some.{0} (And.intro @Option.getD_some.{0} (And.intro @Option.isNone_none.{0} (And.intro @Option.isNone_some.{0} (And.intro @Option.isSome_none.{0} (And.intro @Option.isSome_some.{0} (And.intro @List.map_cons.{0, 0} (And.intro @List.length_map.{0, 0} (@List.getElem?_map.{0, 0}))))))))))))))))))))))))))))))))))))))))))))))))))))))))))))))))))))))))))))))))))))))))) := And.intro @tt_0 (And.intro @tt_1 (And.intro @tt_2 (And.intro @tt_3 (And.intro @tt_4 (And.intro @tt_5 (And.intro @tt_6 (And.intro @tt_7 (And.intro @pm_0 (And.intro @pm_1 (And.intro @pm_2 (And.intro @pm_3 (And.intro @pm_4 (And.intro @pm_5 (And.intro @pm_6 (And.intro @pm_7 (And.intro @pm_8 (And.intro @pm_9 (And.intro @pm_10 (And.intro @e0P (And.intro @gs_n (And.intro @gs_c (And.intro @gm_n (And.intro @gm_c (And.intro @initS_n (And.intro @initS_c (And.intro @rb_int (And.intro @rb_str (And.intro @rb_sub (And.intro @rb_dcl (And.intro @rb_opr (And.intro @rb_ints (And.intro @rowsB_nil (And.intro @rowsB_cons (And.intro @bqtt (And.intro @bqtf (And.intro @bqft (And.intro @bqff (And.intro @Bool.and_self (And.intro @Bool.or_true (And.intro @Bool.true_or (And.intro @Bool.or_false (And.intro @Bool.false_or (And.intro @Nat.zero_add (And.intro @Nat.add_zero (And.intro @and_self (And.intro @true_and (And.intro @and_true (And.intro @Bool.not_true (And.intro @Bool.not_false (And.intro @natInt (And.intro @trimS_n (And.intro @trimS_c (And.intro @tb_eq (And.intro @endR_d (And.intro @callOf_c (And.intro @Int.natCast_nonneg (And.intro @Int.toNat_zero (And.intro @Int.toNat_one (And.intro @Nat.le_refl (And.intro @List.map_nil.{0, 0} (And.intro @List.getElem?_cons_zero.{0} (And.intro @List.getElem?_cons_succ.{0} (And.intro @List.drop_succ_cons.{0} (And.intro @List.drop_zero.{0} (And.intro @List.drop_nil.{0} (And.intro @List.take_succ_cons.{0} (And.intro @List.take_zero.{0} (And.intro @List.length_cons.{0} (And.intro @List.length_nil.{0} (And.intro @List.length_append.{0} (And.intro @List.all_cons.{0} (And.intro @List.all_nil.{0} (And.intro @List.isEmpty_cons.{0} (And.intro @List.isEmpty_nil.{0} (And.intro @List.cons_append.{0} (And.intro @List.nil_append.{0} (And.intro @List.append_nil.{0} (And.intro @Option.map_some.{0, 0} (And.intro @Option.map_none.{0, 0} (And.intro @Option.join_some.{0} (And.intro @Option.getD_some.{0} (And.intro @Option.isNone_none.{0} (And.intro @Option.isNone_some.{0} (And.intro @Option.isSome_none.{0} (And.intro @Option.isSome_some.{0} (And.intro @List.map_cons.{0, 0} (And.intro @List.length_map.{0, 0} (@List.getElem?_map.{0, 0}))))))))))))))))))))))))))))))))))))))))))))))))))))))))))))))))))))))))))))))))))))))))
end Go.Proofs.Ytmpcbijkbgmjkaa

namespace Go.Proofs.Ytmpcbijkbgmjkaa
open Go.RowKit

theorem encInt_u : ∀ n, encInt n = [.lit (.int .i64 n)] := fun _ => rfl
theorem encDcl_u : ∀ d, encDcl d = [.sl (d.args.map encInt), .lit (.int .i64 d.res)] := fun _ => rfl
theorem encOpr_u : ∀ o, encOpr o = [.lit (.string o.name), .sl (o.decls.map encDcl), .lit (.bool o.assoc), .lit (.bool o.comm), .lit (.int .i64 o.unit)] := fun _ => rfl
theorem encSgn_u : ∀ s, encSgn s = [.sl (s.sorts.names.map encStr), .sl (s.sorts.subs.map encSub), .sl (s.ops.map encOpr)] := fun _ => rfl
theorem encInts_u : ∀ l, encInts l = [.sl (l.map encInt)] := fun _ => rfl
theorem encAlg_u : ∀ a, encAlg a = [.lit (.int .i64 a.size), .sl (a.tables.map encInts)] := fun _ => rfl
theorem retA_u : ∀ x, retA [x] = .d x := fun _ => rfl
/-- Into the region at hand. -/
theorem gB {X Y : Prop} (b : Y) (h : Y → X := by
  intro b
  first
    | with_reducible refine region_0k ?_
    | (first
      | refine region_Dk 1 (by decide +kernel) ?_
      | refine region_Dk 2 (by decide +kernel) ?_
      | refine region_Dk 3 (by decide +kernel) ?_
      | refine region_Dk 4 (by decide +kernel) ?_
      | refine region_Dk 5 (by decide +kernel) ?_
      | refine region_Dk 6 (by decide +kernel) ?_
      | refine region_Dk 7 (by decide +kernel) ?_
      | refine region_Dk 8 (by decide +kernel) ?_
      | refine region_Dk 9 (by decide +kernel) ?_
      | refine region_Dk 10 (by decide +kernel) ?_
      | refine region_Dk 11 (by decide +kernel) ?_
      | refine region_Dk 12 (by decide +kernel) ?_
      | refine region_Dk 13 (by decide +kernel) ?_
      | refine region_Dk 14 (by decide +kernel) ?_
      | refine region_Dk 15 (by decide +kernel) ?_
      | refine region_Dk 16 (by decide +kernel) ?_
      | refine region_Dk 17 (by decide +kernel) ?_
      | refine region_Dk 18 (by decide +kernel) ?_
      | refine region_Dk 19 (by decide +kernel) ?_
      | refine region_Dk 20 (by decide +kernel) ?_
      | refine region_Dk 21 (by decide +kernel) ?_
      | refine region_Dk 22 (by decide +kernel) ?_
      | refine region_Dk 23 (by decide +kernel) ?_
      | refine region_Dk 24 (by decide +kernel) ?_
      | refine region_Dk 25 (by decide +kernel) ?_
      | refine region_Dk 26 (by decide +kernel) ?_
      | refine region_Dk 27 (by decide +kernel) ?_
      | refine region_Dk 28 (by decide +kernel) ?_
      | refine region_Dk 29 (by decide +kernel) ?_
      | refine region_Dk 30 (by decide +kernel) ?_
      | refine region_Dk 31 (by decide +kernel) ?_
      | refine region_Dk 32 (by decide +kernel) ?_
      | refine region_Dk 33 (by decide +kernel) ?_
      | refine region_Dk 34 (by decide +kernel) ?_
      | refine region_Dk 35 (by decide +kernel) ?_
      | refine region_Dk 36 (by decide +kernel) ?_
      | refine region_Dk 37 (by decide +kernel) ?_
      | refine region_Dk 38 (by decide +kernel) ?_
      | refine region_Dk 39 (by decide +kernel) ?_
      | refine region_Dk 40 (by decide +kernel) ?_
      | refine region_Dk 41 (by decide +kernel) ?_
      | refine region_Dk 42 (by decide +kernel) ?_
      | refine region_Dk 43 (by decide +kernel) ?_
      | refine region_Dk 44 (by decide +kernel) ?_
      | refine region_Dk 45 (by decide +kernel) ?_
      | refine region_Dk 46 (by decide +kernel) ?_
      | refine region_Dk 47 (by decide +kernel) ?_
      | refine region_Dk 48 (by decide +kernel) ?_
      | refine region_Dk 49 (by decide +kernel) ?_
      | refine region_Dk 50 (by decide +kernel) ?_
      | refine region_Dk 51 (by decide +kernel) ?_
      | refine region_Dk 52 (by decide +kernel) ?_
      | refine region_Dk 53 (by decide +kernel) ?_
      | refine region_Dk 54 (by decide +kernel) ?_
      | refine region_Dk 55 (by decide +kernel) ?_
      | refine region_Dk 56 (by decide +kernel) ?_
      | refine region_Dk 57 (by decide +kernel) ?_
      | refine region_Dk 58 (by decide +kernel) ?_
      | refine region_Dk 59 (by decide +kernel) ?_
      | refine region_Dk 60 (by decide +kernel) ?_
      | refine region_Dk 61 (by decide +kernel) ?_
      | refine region_Dk 62 (by decide +kernel) ?_
      | refine region_Dk 63 (by decide +kernel) ?_
      | refine region_Dk 64 (by decide +kernel) ?_)
  intro ds hds
  simp only [List.map] at hds
  subst hds
  exact b) : X := h b
/-- A call in the region at hand. -/
theorem gC {X Y Z : Prop} (c : Z) (b : Y) (h : Z → Y → X := by
  intro c b
  refine rcT (by simp only [pz, ↓reduceIte, Nat.reduceEqDiff, Nat.reduceAdd, Nat.reduceSub, Nat.reduceMul, Nat.reduceLeDiff, Nat.reduceBEq, Bool.false_eq_true, decide_true, decide_false, Int.reduceLE, Int.reduceToNat, Int.reduceLT, Int.reduceEq, eq_self, Nat.reduceShiftRight, Nat.reduceAnd, Nat.reduceBneDiff, F]; exact rfl) c (by simp only [setA, retA]; exact rfl) ?_
  exact b) : X := h c b
/-- A call that gives one of several data. -/
theorem gCE {X Y Z : Prop} (c : Z) (b : Y) (h : Z → Y → X := by
  intro c b
  refine runs_goE (by simp only [pz, ↓reduceIte, Nat.reduceEqDiff, Nat.reduceAdd, Nat.reduceSub, Nat.reduceMul, Nat.reduceLeDiff, Nat.reduceBEq, Bool.false_eq_true, decide_true, decide_false, Int.reduceLE, Int.reduceToNat, Int.reduceLT, Int.reduceEq, eq_self, Nat.reduceShiftRight, Nat.reduceAnd, Nat.reduceBneDiff, F]; exact rfl) (by simp only [pz, ↓reduceIte, Nat.reduceEqDiff, Nat.reduceAdd, Nat.reduceSub, Nat.reduceMul, Nat.reduceLeDiff, Nat.reduceBEq, Bool.false_eq_true, decide_true, decide_false, Int.reduceLE, Int.reduceToNat, Int.reduceLT, Int.reduceEq, eq_self, Nat.reduceShiftRight, Nat.reduceAnd, Nat.reduceBneDiff, F]; exact rfl) c ?_
  exact b) : X := h c b
/-- The region's end. -/
theorem gR {X Y : Prop} (b : Y) (h : Y → X := by
  intro b
  refine reT (by simp only [pz, ↓reduceIte, Nat.reduceEqDiff, Nat.reduceAdd, Nat.reduceSub, Nat.reduceMul, Nat.reduceLeDiff, Nat.reduceBEq, Bool.false_eq_true, decide_true, decide_false, Int.reduceLE, Int.reduceToNat, Int.reduceLT, Int.reduceEq, eq_self, Nat.reduceShiftRight, Nat.reduceAnd, Nat.reduceBneDiff, F]; exact rfl) ?_
  first | (change pwp _ _ _ _ _) | refine wkI ?_ | skip
  exact b) : X := h b
/-- On, till something is asked. -/
theorem gG {X Y : Prop} (b : Y) (h : Y → X := by
  intro b
  repeat (first
    | with_reducible refine pwp_seqW ?_
    | with_reducible refine pwp_block ?_
    | ((first | with_reducible refine pwp_skip ?_ | with_reducible refine pwp_exit ?_); try refine wkI ?_)
    | (with_reducible refine pwp_ct ?_ ?_; · simp only [pz, ↓reduceIte, Nat.reduceEqDiff, F])
    | (with_reducible refine pwp_cf ?_ ?_; · simp only [pz, ↓reduceIte, Nat.reduceEqDiff, F])
    | (refine gB ?_; refine reT (by simp only [pz, ↓reduceIte, Nat.reduceEqDiff, Nat.reduceAdd, Nat.reduceSub, Nat.reduceMul, Nat.reduceLeDiff, Nat.reduceBEq, Bool.false_eq_true, decide_true, decide_false, Int.reduceLE, Int.reduceToNat, Int.reduceLT, Int.reduceEq, eq_self, Nat.reduceShiftRight, Nat.reduceAnd, Nat.reduceBneDiff, F]; exact rfl) ?_; try refine wkI ?_))
  exact b) : X := h b
/-- A walk that is to stop ahead of the region n. -/
def StopAt (_ : Nat) : Prop := True
theorem ne_reg {n : Nat} (_ : StopAt n) {e : Env} {mask id : Nat} {ops : Array Oper} {fl : Bool} {σ : St} {Q : PX → St → Prop} (h : pwp e mask (.region id ops fl) σ Q) (_ : (id == n) = false := by decide) : pwp e mask (.region id ops fl) σ Q := h
/-- On, till something is asked, or the region that the local hypothesis NN names. -/
theorem gGn {X Y : Prop} (b : Y) (h : Y → X := by
  intro b
  repeat (first
    | with_reducible refine pwp_seqW ?_
    | with_reducible refine pwp_block ?_
    | ((first | with_reducible refine pwp_skip ?_ | with_reducible refine pwp_exit ?_); try refine wkI ?_)
    | (with_reducible refine pwp_ct ?_ ?_; · simp only [pz, ↓reduceIte, Nat.reduceEqDiff, F])
    | (with_reducible refine pwp_cf ?_ ?_; · simp only [pz, ↓reduceIte, Nat.reduceEqDiff, F])
    | (refine ne_reg NN ?_; refine gB ?_; refine reT (by simp only [pz, ↓reduceIte, Nat.reduceEqDiff, Nat.reduceAdd, Nat.reduceSub, Nat.reduceMul, Nat.reduceLeDiff, Nat.reduceBEq, Bool.false_eq_true, decide_true, decide_false, Int.reduceLE, Int.reduceToNat, Int.reduceLT, Int.reduceEq, eq_self, Nat.reduceShiftRight, Nat.reduceAnd, Nat.reduceBneDiff, F]; exact rfl) ?_; try refine wkI ?_))
  exact b) : X := h b
/-- The return. -/
theorem gT {X : Prop} (h : X := by
  refine pwp_ret (ret_ok ?_)
  simp [resOk, resA, resSlots, gs, F]) : X := h
theorem gTz {X : Prop} {P : Program} {ts : List RS} {r : List D} {σ σ1 : St} (ks : List Nat) (hx : retQ P ts r .ret σ → X := by exact fun h => pwp_ret h) (hf : frzs ks σ = σ1 := by simp only [pz, ↓reduceIte, Nat.reduceEqDiff, Nat.reduceAdd, Nat.reduceSub, Nat.reduceMul, Nat.reduceLeDiff, Nat.reduceBEq, Bool.false_eq_true, decide_true, decide_false, Int.reduceLE, Int.reduceToNat, Int.reduceLT, Int.reduceEq, eq_self, Nat.reduceShiftRight, Nat.reduceAnd, Nat.reduceBneDiff, F]; exact rfl) (h : resOk P σ1 ts r := by simp [resOk, resA, resSlots, gs, F]) : X := hx (ret_fz ks hf h)
/-- The return of a result that lies in a variable. -/
theorem gTd {X : Prop} {P : Program} {ts : List RS} {r : List D} {σ : St} (hx : retQ P ts r .ret σ → X := by exact fun h => pwp_ret h) (hr : resD P σ ts = some r := by first | (simp only [pz, ↓reduceIte, Nat.reduceEqDiff, Nat.reduceAdd, Nat.reduceSub, Nat.reduceMul, Nat.reduceLeDiff, Nat.reduceBEq, Bool.false_eq_true, decide_true, decide_false, Int.reduceLE, Int.reduceToNat, Int.reduceLT, Int.reduceEq, eq_self, Nat.reduceShiftRight, Nat.reduceAnd, Nat.reduceBneDiff, F]; done) | (simp only [pz, ↓reduceIte, Nat.reduceEqDiff, Nat.reduceAdd, Nat.reduceSub, Nat.reduceMul, Nat.reduceLeDiff, Nat.reduceBEq, Bool.false_eq_true, decide_true, decide_false, Int.reduceLE, Int.reduceToNat, Int.reduceLT, Int.reduceEq, eq_self, Nat.reduceShiftRight, Nat.reduceAnd, Nat.reduceBneDiff, F]; exact rfl)) : X := hx (ret_ok (resOk_of hr))
/-- A region that makes nothing, after some own things are left to all. -/
theorem gF {e : Env} {mask : Nat} {Q : PX → St → Prop} {σ σ1 : St} {id : Nat} {l : List Oper} {s2 : List (Nat × A)} {m2 : List (Nat × Bk)} {Y : Prop} (ks : List Nat) (b : Y) (hf : frzs ks σ = σ1 := by simp only [pz, ↓reduceIte, Nat.reduceEqDiff, Nat.reduceAdd, Nat.reduceSub, Nat.reduceMul, Nat.reduceLeDiff, Nat.reduceBEq, Bool.false_eq_true, decide_true, decide_false, Int.reduceLE, Int.reduceToNat, Int.reduceLT, Int.reduceEq, eq_self, Nat.reduceShiftRight, Nat.reduceAnd, Nat.reduceBneDiff, F]; exact rfl)
    (h : endR mask (runOps e.P (l.map (·.dst)) 0 l σ1) = some (s2, m2) := by simp only [pz, ↓reduceIte, Nat.reduceEqDiff, Nat.reduceAdd, Nat.reduceSub, Nat.reduceMul, Nat.reduceLeDiff, Nat.reduceBEq, Bool.false_eq_true, decide_true, decide_false, Int.reduceLE, Int.reduceToNat, Int.reduceLT, Int.reduceEq, eq_self, Nat.reduceShiftRight, Nat.reduceAnd, Nat.reduceBneDiff, F]; exact rfl) (hy : Y → Q .normal ⟨s2, m2⟩ := by first | exact fun b => wkI b | exact fun b => b) : pwp e mask (.region id l.toArray false) σ Q :=
  region_F ks hf rfl (reT h (hy b))
theorem gw {X : Prop} (h : X := by simp [weakS, weakM, gs, gm, F]) : X := h
theorem gL {e : Env} {mask : Nat} {Q : PX → St → Prop} {c : Code} {s : List (Nat × A)} {m : List (Nat × Bk)} {ι : Type} (ds dm : List Nat) (us : ι → List (Nat × A)) (ms : ι → List (Nat × Bk)) (ok : ι → Prop) (μ : ι → Nat) (x0 : ι) (h0 : ok x0)
    {s0 : List (Nat × A)} {m0 : List (Nat × Bk)} {ss : ι → List (Nat × A)} {mm : ι → List (Nat × Bk)}
    (hr : ∀ x, ok x → pwp e mask c ⟨ss x, mm x⟩ (fun p σ'' => match p with
      | .normal => ∃ y, ok y ∧ weakS σ''.s (ss y) ∧ weakM σ''.m (mm y) ∧ μ y < μ x
      | p => Q p σ''))
    (hs0 : headS ds s = s0 := by simp only [headS, headM, List.elem_cons, List.elem_nil, Nat.reduceBEq, Bool.or_false, Bool.false_or, Bool.or_true, Bool.true_or, Bool.or_self, ↓reduceIte, Bool.false_eq_true]; exact rfl) (hm0 : headM dm m = m0 := by simp only [headS, headM, List.elem_cons, List.elem_nil, Nat.reduceBEq, Bool.or_false, Bool.false_or, Bool.or_true, Bool.true_or, Bool.or_self, ↓reduceIte, Bool.false_eq_true]; exact rfl) (hss : ∀ x, us x ++ s0 = ss x := by intro x; simp only [List.cons_append, List.nil_append]; exact rfl) (hmm : ∀ x, ms x ++ m0 = mm x := by intro x; simp only [List.cons_append, List.nil_append]; exact rfl)
    (hs : weakS s (us x0) := by simp [weakS, gs, F]) (hm : weakM m (ms x0) := by simp [weakM, gm, F]) : pwp e mask (.loop c) ⟨s, m⟩ Q := pwp_loopU ds dm us ms ok μ x0 hs0 hm0 hss hmm hs hm h0 hr
theorem gM {e : Env} {mask : Nat} {Q : PX → St → Prop} {a : Code} {s : List (Nat × A)} {m : List (Nat × Bk)} {ι : Type} (ds dm : List Nat) (us : ι → List (Nat × A)) (ms : ι → List (Nat × Bk)) (R : ι → Prop)
    {s0 : List (Nat × A)} {m0 : List (Nat × Bk)} {ss : ι → List (Nat × A)} {mm : ι → List (Nat × Bk)}
    (h : pwp e mask a ⟨s, m⟩ (fun x σ' => match x with
      | .normal => ∃ y, R y ∧ weakS σ'.s (ss y) ∧ weakM σ'.m (mm y)
      | x => Q x σ')) (hb : ∀ x, R x → Q .normal ⟨ss x, mm x⟩) 
    (hs0 : headS ds s = s0 := by simp only [headS, headM, List.elem_cons, List.elem_nil, Nat.reduceBEq, Bool.or_false, Bool.false_or, Bool.or_true, Bool.true_or, Bool.or_self, ↓reduceIte, Bool.false_eq_true]; exact rfl) (hm0 : headM dm m = m0 := by simp only [headS, headM, List.elem_cons, List.elem_nil, Nat.reduceBEq, Bool.or_false, Bool.false_or, Bool.or_true, Bool.true_or, Bool.or_self, ↓reduceIte, Bool.false_eq_true]; exact rfl) (hss : ∀ x, us x ++ s0 = ss x := by intro x; simp only [List.cons_append, List.nil_append]; exact rfl) (hmm : ∀ x, ms x ++ m0 = mm x := by intro x; simp only [List.cons_append, List.nil_append]; exact rfl)
    (hQ : ∀ σ σ1, Wk σ σ1 → Q .normal σ1 → Q .normal σ := by exact fun _ _ h p => Exists.elim p fun σ2 q => ⟨σ2, h.trans q.1, q.2⟩) : pwp e mask a ⟨s, m⟩ Q := pwp_meetU hQ ds dm us ms R hs0 hm0 hss hmm h hb
/-- Into a function. -/
theorem gI {f : FuncId} {fn : Func} {c : Code} {args r : List D} {ts : List RS} (mask : Nat) (hf : e0.P.funcs[f]? = some fn) (h : pwp e0 mask c ⟨initS 0 args, []⟩ (retQ e0.P ts r)) (hb : fn.body = some c := by exact rfl) (hnm : (fn.name == "runtime.NumGoroutine") = false := by kernel_rfl)
    (hok : okCode fn.ntmps c = true := by kernel_rfl) (hal : Nat.ble args.length fn.ntmps = true := by exact rfl) (hres : resSlots fn.results.toList = ts := by exact rfl) : Con e0 f args r := con_of_pwp e0_ok mask hf hb hnm hok hal hres h
theorem gIE {f : FuncId} {fn : Func} {c : Code} {args : List D} {R : List D → Prop} {ts : List RS} (mask : Nat) (hf : e0.P.funcs[f]? = some fn) (h : pwp e0 mask c ⟨initS 0 args, []⟩ (retQE e0.P ts R)) (hb : fn.body = some c := by exact rfl) (hnm : (fn.name == "runtime.NumGoroutine") = false := by kernel_rfl)
    (hok : okCode fn.ntmps c = true := by kernel_rfl) (hal : Nat.ble args.length fn.ntmps = true := by exact rfl) (hres : resSlots fn.results.toList = ts := by exact rfl) : ConE e0 f args R := conE_of_pwp e0_ok mask hf hb hnm hok hal hres h
/-- A call to which the own things of the keys ks are lent; what it gives has the keys ks'. -/
theorem gCP {e : Env} {K : St → Prop} {ds : List (Option Nat)} {n n' : Nat} {os os' : List Oper} {σ : St} {c : Operand} {args : List Operand} {f : FuncId} {xs : List D} {d : Option Nat} {s1 s2 s3 : List (Nat × A)} {m1 m2 m3 : List (Nat × Bk)} {pm : List Bk} {R : List D → List Bk → Prop} (ks ks' : List Nat) (hc : ConP e f xs pm R)
    (hK : ∀ r pm', R r pm' → Runs e ds n' os' ⟨setA s3 d (retA r), zipM ks' pm' ++ m3⟩ K) (h : runOps e.P ds n os σ = .call false c args d n' os' ⟨s1, m1⟩ := by simp only [pz, ↓reduceIte, Nat.reduceEqDiff, Nat.reduceAdd, Nat.reduceSub, Nat.reduceMul, Nat.reduceLeDiff, Nat.reduceBEq, Bool.false_eq_true, decide_true, decide_false, Int.reduceLE, Int.reduceToNat, Int.reduceLT, Int.reduceEq, eq_self, Nat.reduceShiftRight, Nat.reduceAnd, Nat.reduceBneDiff, F]; exact rfl) (h1 : callP false c args ⟨s1, m1⟩ = some (f, xs, ⟨s2, m2⟩) := by simp only [pz, ↓reduceIte, Nat.reduceEqDiff, Nat.reduceAdd, Nat.reduceSub, Nat.reduceMul, Nat.reduceLeDiff, Nat.reduceBEq, Bool.false_eq_true, decide_true, decide_false, Int.reduceLE, Int.reduceToNat, Int.reduceLT, Int.reduceEq, eq_self, Nat.reduceShiftRight, Nat.reduceAnd, Nat.reduceBneDiff, F]; exact rfl)
    (hpm : getM m2 ks = some pm := by first | (simp only [pz, ↓reduceIte, Nat.reduceEqDiff, Nat.reduceAdd, Nat.reduceSub, Nat.reduceMul, Nat.reduceLeDiff, Nat.reduceBEq, Bool.false_eq_true, decide_true, decide_false, Int.reduceLE, Int.reduceToNat, Int.reduceLT, Int.reduceEq, eq_self, Nat.reduceShiftRight, Nat.reduceAnd, Nat.reduceBneDiff]; exact rfl) | simp only [pz, ↓reduceIte, Nat.reduceEqDiff, Nat.reduceAdd, Nat.reduceSub, Nat.reduceMul, Nat.reduceLeDiff, Nat.reduceBEq, Bool.false_eq_true, decide_true, decide_false, Int.reduceLE, Int.reduceToNat, Int.reduceLT, Int.reduceEq, eq_self, Nat.reduceShiftRight, Nat.reduceAnd, Nat.reduceBneDiff]) (hpn : pm.all pinned = true := by simp only [pz, ↓reduceIte, Nat.reduceEqDiff, Nat.reduceAdd, Nat.reduceSub, Nat.reduceMul, Nat.reduceLeDiff, Nat.reduceBEq, Bool.false_eq_true, decide_true, decide_false, Int.reduceLE, Int.reduceToNat, Int.reduceLT, Int.reduceEq, eq_self, Nat.reduceShiftRight, Nat.reduceAnd, Nat.reduceBneDiff]) (hn : ks.Nodup := by decide) (hk : killKs (ks ++ ks') s2 = s3 := by simp only [pz, ↓reduceIte, Nat.reduceEqDiff, Nat.reduceAdd, Nat.reduceSub, Nat.reduceMul, Nat.reduceLeDiff, Nat.reduceBEq, Bool.false_eq_true, decide_true, decide_false, Int.reduceLE, Int.reduceToNat, Int.reduceLT, Int.reduceEq, eq_self, Nat.reduceShiftRight, Nat.reduceAnd, Nat.reduceBneDiff]; exact rfl) (hr : remMs (ks ++ ks') m2 = m3 := by simp only [pz, ↓reduceIte, Nat.reduceEqDiff, Nat.reduceAdd, Nat.reduceSub, Nat.reduceMul, Nat.reduceLeDiff, Nat.reduceBEq, Bool.false_eq_true, decide_true, decide_false, Int.reduceLE, Int.reduceToNat, Int.reduceLT, Int.reduceEq, eq_self, Nat.reduceShiftRight, Nat.reduceAnd, Nat.reduceBneDiff]; exact rfl) : Runs e ds n os σ K := runs_goP ks ks' h h1 hc hpm hpn hn hk hr hK
/-- A call that turns an own slice in place. -/
theorem gCI {e : Env} {K : St → Prop} {ds : List (Option Nat)} {n n' : Nat} {os os' : List Oper} {σ : St} {c x0 : Operand} {rest : List Operand} {f : FuncId} {xs : List D} {d : Option Nat} {s1 s3 : List (Nat × A)} {m1 m3 : List (Nat × Bk)} {k ty sz : Nat} {rows rows' : List (List C)} {r : List D} {oa : Option (Option Addr × Nat)} (hc : ConI e f ty sz rows xs rows' r) (hl : rows'.length = rows.length)
    (hK : Runs e ds n' os' ⟨s3, (k, .buf oa ty sz rows') :: m3⟩ K) (h : runOps e.P ds n os σ = .call false c (x0 :: rest) d n' os' ⟨s1, m1⟩ := by simp only [pz, ↓reduceIte, Nat.reduceEqDiff, Nat.reduceAdd, Nat.reduceSub, Nat.reduceMul, Nat.reduceLeDiff, Nat.reduceBEq, Bool.false_eq_true, decide_true, decide_false, Int.reduceLE, Int.reduceToNat, Int.reduceLT, Int.reduceEq, eq_self, Nat.reduceShiftRight, Nat.reduceAnd, Nat.reduceBneDiff, F]; exact rfl) (h1 : callO c x0 rest ⟨s1, m1⟩ = some (f, k, ty, sz, rows, xs) := by simp only [pz, ↓reduceIte, Nat.reduceEqDiff, Nat.reduceAdd, Nat.reduceSub, Nat.reduceMul, Nat.reduceLeDiff, Nat.reduceBEq, Bool.false_eq_true, decide_true, decide_false, Int.reduceLE, Int.reduceToNat, Int.reduceLT, Int.reduceEq, eq_self, Nat.reduceShiftRight, Nat.reduceAnd, Nat.reduceBneDiff, F]; exact rfl)
    (hm : gm m1 k = some (.buf oa ty sz rows) := by simp only [pz, ↓reduceIte, Nat.reduceEqDiff, Nat.reduceAdd, Nat.reduceSub, Nat.reduceMul, Nat.reduceLeDiff, Nat.reduceBEq, Bool.false_eq_true, decide_true, decide_false, Int.reduceLE, Int.reduceToNat, Int.reduceLT, Int.reduceEq, eq_self, Nat.reduceShiftRight, Nat.reduceAnd, Nat.reduceBneDiff]; exact rfl) (h2 : setA s1 d (retA r) = s3 := by simp only [setA, retA]; exact rfl) (h3 : remM k m1 = m3 := by simp only [pz, ↓reduceIte, Nat.reduceEqDiff, Nat.reduceAdd, Nat.reduceSub, Nat.reduceMul, Nat.reduceLeDiff, Nat.reduceBEq, Bool.false_eq_true, decide_true, decide_false, Int.reduceLE, Int.reduceToNat, Int.reduceLT, Int.reduceEq, eq_self, Nat.reduceShiftRight, Nat.reduceAnd, Nat.reduceBneDiff]; exact rfl) : Runs e ds n os σ K := runs_goI h h1 hm hc hl h2 h3 hK
/-- A call that takes an own slice and gives one. -/
theorem gCT {e : Env} {K : St → Prop} {ds : List (Option Nat)} {n n' : Nat} {os os' : List Oper} {σ : St} {c x0 : Operand} {rest : List Operand} {f : FuncId} {xs : List D} {d k ty sz : Nat} {s1 : List (Nat × A)} {m1 : List (Nat × Bk)} {rows rows' : List (List C)} {σ3 : St} (hc : ConT e f ty sz rows xs rows') (hK : Runs e ds n' os' σ3 K)
    (h : runOps e.P ds n os σ = .call false c (x0 :: rest) (some d) n' os' ⟨s1, m1⟩ := by simp only [pz, ↓reduceIte, Nat.reduceEqDiff, Nat.reduceAdd, Nat.reduceSub, Nat.reduceMul, Nat.reduceLeDiff, Nat.reduceBEq, Bool.false_eq_true, decide_true, decide_false, Int.reduceLE, Int.reduceToNat, Int.reduceLT, Int.reduceEq, eq_self, Nat.reduceShiftRight, Nat.reduceAnd, Nat.reduceBneDiff, F]; exact rfl) (h1 : callO c x0 rest ⟨s1, m1⟩ = some (f, k, ty, sz, rows, xs) := by simp only [pz, ↓reduceIte, Nat.reduceEqDiff, Nat.reduceAdd, Nat.reduceSub, Nat.reduceMul, Nat.reduceLeDiff, Nat.reduceBEq, Bool.false_eq_true, decide_true, decide_false, Int.reduceLE, Int.reduceToNat, Int.reduceLT, Int.reduceEq, eq_self, Nat.reduceShiftRight, Nat.reduceAnd, Nat.reduceBneDiff, F]; exact rfl) (h2 : ownE ⟨s1, m1⟩ k d (.buf none ty sz rows') = σ3 := by simp only [pz, ↓reduceIte, Nat.reduceEqDiff, Nat.reduceAdd, Nat.reduceSub, Nat.reduceMul, Nat.reduceLeDiff, Nat.reduceBEq, Bool.false_eq_true, decide_true, decide_false, Int.reduceLE, Int.reduceToNat, Int.reduceLT, Int.reduceEq, eq_self, Nat.reduceShiftRight, Nat.reduceAnd, Nat.reduceBneDiff]; exact rfl) : Runs e ds n os σ K := runs_goT h h1 hc h2 hK
/-- A call that gives a new own slice. -/
theorem gCR {e : Env} {K : St → Prop} {ds : List (Option Nat)} {n n' : Nat} {os os' : List Oper} {σ : St} {c : Operand} {args : List Operand} {f : FuncId} {xs : List D} {d ty sz : Nat} {s1 s2 s3 : List (Nat × A)} {m1 m2 m3 : List (Nat × Bk)} {rows : List (List C)} (hc : ConR e f xs ty sz rows) (hK : Runs e ds n' os' ⟨(d, .buf d) :: s3, (d, .buf none ty sz rows) :: m3⟩ K)
    (h : runOps e.P ds n os σ = .call false c args (some d) n' os' ⟨s1, m1⟩ := by simp only [pz, ↓reduceIte, Nat.reduceEqDiff, Nat.reduceAdd, Nat.reduceSub, Nat.reduceMul, Nat.reduceLeDiff, Nat.reduceBEq, Bool.false_eq_true, decide_true, decide_false, Int.reduceLE, Int.reduceToNat, Int.reduceLT, Int.reduceEq, eq_self, Nat.reduceShiftRight, Nat.reduceAnd, Nat.reduceBneDiff, F]; exact rfl) (h1 : callP false c args ⟨s1, m1⟩ = some (f, xs, ⟨s2, m2⟩) := by simp only [pz, ↓reduceIte, Nat.reduceEqDiff, Nat.reduceAdd, Nat.reduceSub, Nat.reduceMul, Nat.reduceLeDiff, Nat.reduceBEq, Bool.false_eq_true, decide_true, decide_false, Int.reduceLE, Int.reduceToNat, Int.reduceLT, Int.reduceEq, eq_self, Nat.reduceShiftRight, Nat.reduceAnd, Nat.reduceBneDiff, F]; exact rfl) (h2 : killK d s2 = s3 := by simp only [pz, ↓reduceIte, Nat.reduceEqDiff, Nat.reduceAdd, Nat.reduceSub, Nat.reduceMul, Nat.reduceLeDiff, Nat.reduceBEq, Bool.false_eq_true, decide_true, decide_false, Int.reduceLE, Int.reduceToNat, Int.reduceLT, Int.reduceEq, eq_self, Nat.reduceShiftRight, Nat.reduceAnd, Nat.reduceBneDiff]; exact rfl) (h3 : remM d m2 = m3 := by simp only [pz, ↓reduceIte, Nat.reduceEqDiff, Nat.reduceAdd, Nat.reduceSub, Nat.reduceMul, Nat.reduceLeDiff, Nat.reduceBEq, Bool.false_eq_true, decide_true, decide_false, Int.reduceLE, Int.reduceToNat, Int.reduceLT, Int.reduceEq, eq_self, Nat.reduceShiftRight, Nat.reduceAnd, Nat.reduceBneDiff]; exact rfl) : Runs e ds n os σ K := runs_goR h h1 hc h2 h3 hK
/-- The first j operations of what is left of the region. -/
theorem gP {e : Env} {K : St → Prop} {ds : List (Option Nat)} {n n' : Nat} {os os' : List Oper} {σ : St} {s1 : List (Nat × A)} {m1 : List (Nat × Bk)} (j : Nat) (hK : Runs e ds n' os' ⟨s1, m1⟩ K) (h : stopOf (runN e.P ds j n os σ) = some (n', os', s1, m1) := by simp only [pz, ↓reduceIte, Nat.reduceEqDiff, Nat.reduceAdd, Nat.reduceSub, Nat.reduceMul, Nat.reduceLeDiff, Nat.reduceBEq, Bool.false_eq_true, decide_true, decide_false, Int.reduceLE, Int.reduceToNat, Int.reduceLT, Int.reduceEq, eq_self, Nat.reduceShiftRight, Nat.reduceAnd, Nat.reduceBneDiff, F]; exact rfl) : Runs e ds n os σ K := runs_part j h hK
/-- The place of the own variable k becomes known. -/
theorem gV {e : Env} {K : St → Prop} {ds : List (Option Nat)} {os : List Oper} {s : List (Nat × A)} {m m2 : List (Nat × Bk)} {cs : List C} {s2 : Nat → List (Nat × A)} (k : Nat) (hK : ∀ b, (∀ k' b' cs', k' ≠ k → gm m k' = some (.var (some b') cs') → b ≠ b') → Runs e ds 0 os ⟨s2 b, (k, .var (some b) cs) :: m2⟩ K)
    (hm : gm m k = some (.var none cs) := by simp only [pz, ↓reduceIte, Nat.reduceEqDiff, Nat.reduceAdd, Nat.reduceSub, Nat.reduceMul, Nat.reduceLeDiff, Nat.reduceBEq, Bool.false_eq_true, decide_true, decide_false, Int.reduceLE, Int.reduceToNat, Int.reduceLT, Int.reduceEq, eq_self, Nat.reduceShiftRight, Nat.reduceAnd, Nat.reduceBneDiff]; exact rfl) (hs : ∀ b, mapS (litV k b) s = s2 b := by intro b; simp only [pz, ↓reduceIte, Nat.reduceEqDiff, Nat.reduceAdd, Nat.reduceSub, Nat.reduceMul, Nat.reduceLeDiff, Nat.reduceBEq, Bool.false_eq_true, decide_true, decide_false, Int.reduceLE, Int.reduceToNat, Int.reduceLT, Int.reduceEq, eq_self, Nat.reduceShiftRight, Nat.reduceAnd, Nat.reduceBneDiff]; exact rfl) (hr : remM k m = m2 := by simp only [pz, ↓reduceIte, Nat.reduceEqDiff, Nat.reduceAdd, Nat.reduceSub, Nat.reduceMul, Nat.reduceLeDiff, Nat.reduceBEq, Bool.false_eq_true, decide_true, decide_false, Int.reduceLE, Int.reduceToNat, Int.reduceLT, Int.reduceEq, eq_self, Nat.reduceShiftRight, Nat.reduceAnd, Nat.reduceBneDiff]; exact rfl) : Runs e ds 0 os ⟨s, m⟩ K :=
  runs_turn (turn_pinV k hm) fun σ' ⟨b, hb, hσ⟩ => by subst hσ; simp only [hs, hr]; exact hK b hb
/-- The place of the own slice k becomes known. -/
theorem gS {e : Env} {K : St → Prop} {ds : List (Option Nat)} {os : List Oper} {s : List (Nat × A)} {m m2 : List (Nat × Bk)} {ety sz : Nat} {rows : List (List C)} {s2 : Option Addr → Nat → List (Nat × A)} (k : Nat) (hK : ∀ a cap, Runs e ds 0 os ⟨s2 a cap, (k, .buf (some (a, cap)) ety sz rows) :: m2⟩ K)
    (hm : gm m k = some (.buf none ety sz rows) := by simp only [pz, ↓reduceIte, Nat.reduceEqDiff, Nat.reduceAdd, Nat.reduceSub, Nat.reduceMul, Nat.reduceLeDiff, Nat.reduceBEq, Bool.false_eq_true, decide_true, decide_false, Int.reduceLE, Int.reduceToNat, Int.reduceLT, Int.reduceEq, eq_self, Nat.reduceShiftRight, Nat.reduceAnd, Nat.reduceBneDiff]; exact rfl) (hs : ∀ a cap, mapS (litB k a rows.length cap) s = s2 a cap := by intro a cap; simp only [pz, ↓reduceIte, Nat.reduceEqDiff, Nat.reduceAdd, Nat.reduceSub, Nat.reduceMul, Nat.reduceLeDiff, Nat.reduceBEq, Bool.false_eq_true, decide_true, decide_false, Int.reduceLE, Int.reduceToNat, Int.reduceLT, Int.reduceEq, eq_self, Nat.reduceShiftRight, Nat.reduceAnd, Nat.reduceBneDiff]; exact rfl) (hr : remM k m = m2 := by simp only [pz, ↓reduceIte, Nat.reduceEqDiff, Nat.reduceAdd, Nat.reduceSub, Nat.reduceMul, Nat.reduceLeDiff, Nat.reduceBEq, Bool.false_eq_true, decide_true, decide_false, Int.reduceLE, Int.reduceToNat, Int.reduceLT, Int.reduceEq, eq_self, Nat.reduceShiftRight, Nat.reduceAnd, Nat.reduceBneDiff]; exact rfl) : Runs e ds 0 os ⟨s, m⟩ K :=
  runs_turn (turn_pinB k hm) fun σ' ⟨a, cap, hσ⟩ => by subst hσ; simp only [hs, hr]; exact hK a cap
/-- An empty slice without room in the slot t becomes an own one. -/
theorem gO {e : Env} {K : St → Prop} {ds : List (Option Nat)} {os : List Oper} {s s2 : List (Nat × A)} {m m2 : List (Nat × Bk)} (t ety sz : Nat) (hK : Runs e ds 0 os ⟨(t, .buf t) :: s2, (t, .buf none ety sz []) :: m2⟩ K) (h0 : 0 < sz := by decide) (hm : gs s t = .d (.clip []) := by simp only [pz, ↓reduceIte, Nat.reduceEqDiff, Nat.reduceAdd, Nat.reduceSub, Nat.reduceMul, Nat.reduceLeDiff, Nat.reduceBEq, Bool.false_eq_true, decide_true, decide_false, Int.reduceLE, Int.reduceToNat, Int.reduceLT, Int.reduceEq, eq_self, Nat.reduceShiftRight, Nat.reduceAnd, Nat.reduceBneDiff])
    (hs : killK t s = s2 := by simp only [pz, ↓reduceIte, Nat.reduceEqDiff, Nat.reduceAdd, Nat.reduceSub, Nat.reduceMul, Nat.reduceLeDiff, Nat.reduceBEq, Bool.false_eq_true, decide_true, decide_false, Int.reduceLE, Int.reduceToNat, Int.reduceLT, Int.reduceEq, eq_self, Nat.reduceShiftRight, Nat.reduceAnd, Nat.reduceBneDiff]; exact rfl) (hr : remM t m = m2 := by simp only [pz, ↓reduceIte, Nat.reduceEqDiff, Nat.reduceAdd, Nat.reduceSub, Nat.reduceMul, Nat.reduceLeDiff, Nat.reduceBEq, Bool.false_eq_true, decide_true, decide_false, Int.reduceLE, Int.reduceToNat, Int.reduceLT, Int.reduceEq, eq_self, Nat.reduceShiftRight, Nat.reduceAnd, Nat.reduceBneDiff]; exact rfl) : Runs e ds 0 os ⟨s, m⟩ K :=
  runs_turn (turn_own t ety sz h0 hm) fun σ' hσ => by subst hσ; simp only [hs, hr]; exact hK
/-- What lies in the slot t at a known place is told by its key. -/
theorem gK {e : Env} {K : St → Prop} {ds : List (Option Nat)} {os : List Oper} {s : List (Nat × A)} {m : List (Nat × Bk)} {x : A} (t : Nat) (hK : Runs e ds 0 os ⟨(t, x) :: s, m⟩ K) (hx : nrm m (gs s t) = x := by simp only [pz, ↓reduceIte, Nat.reduceEqDiff, Nat.reduceAdd, Nat.reduceSub, Nat.reduceMul, Nat.reduceLeDiff, Nat.reduceBEq, Bool.false_eq_true, decide_true, decide_false, Int.reduceLE, Int.reduceToNat, Int.reduceLT, Int.reduceEq, eq_self, Nat.reduceShiftRight, Nat.reduceAnd, Nat.reduceBneDiff]; exact rfl) : Runs e ds 0 os ⟨s, m⟩ K :=
  runs_turn (turn_key t) fun σ' hσ => by subst hσ; simp only [hx]; exact hK
/-- A nil slice as one of the call's own, of the key κ. -/
theorem gN {e : Env} {K : St → Prop} {ds : List (Option Nat)} {os : List Oper} {s s2 : List (Nat × A)} {m m2 : List (Nat × Bk)} (κ ety sz : Nat) (hK : Runs e ds 0 os ⟨s2, (κ, .buf (some (none, 0)) ety sz []) :: m2⟩ K) (h0 : 0 < sz := by decide) (hs : killK κ s = s2 := by simp only [pz, ↓reduceIte, Nat.reduceEqDiff, Nat.reduceAdd, Nat.reduceSub, Nat.reduceMul, Nat.reduceLeDiff, Nat.reduceBEq, Bool.false_eq_true, decide_true, decide_false, Int.reduceLE, Int.reduceToNat, Int.reduceLT, Int.reduceEq, eq_self, Nat.reduceShiftRight, Nat.reduceAnd, Nat.reduceBneDiff]; exact rfl) (hr : remM κ m = m2 := by simp only [pz, ↓reduceIte, Nat.reduceEqDiff, Nat.reduceAdd, Nat.reduceSub, Nat.reduceMul, Nat.reduceLeDiff, Nat.reduceBEq, Bool.false_eq_true, decide_true, decide_false, Int.reduceLE, Int.reduceToNat, Int.reduceLT, Int.reduceEq, eq_self, Nat.reduceShiftRight, Nat.reduceAnd, Nat.reduceBneDiff]; exact rfl) : Runs e ds 0 os ⟨s, m⟩ K :=
  runs_turn (turn_nil κ ety sz h0) fun σ' hσ => by subst hσ; simp only [hs, hr]; exact hK
/-- The slice of the key k is left to all. -/
theorem gD {e : Env} {K : St → Prop} {ds : List (Option Nat)} {os : List Oper} {s s2 : List (Nat × A)} {m m2 : List (Nat × Bk)} {a : Option Addr} {cap ety sz : Nat} {rows : List (List C)} (k : Nat) (ts ks : List Nat) (hK : Runs e ds 0 os ⟨s2, m2⟩ K) (hm : gm m k = some (.buf (some (a, cap)) ety sz rows) := by simp only [pz, ↓reduceIte, Nat.reduceEqDiff, Nat.reduceAdd, Nat.reduceSub, Nat.reduceMul, Nat.reduceLeDiff, Nat.reduceBEq, Bool.false_eq_true, decide_true, decide_false, Int.reduceLE, Int.reduceToNat, Int.reduceLT, Int.reduceEq, eq_self, Nat.reduceShiftRight, Nat.reduceAnd, Nat.reduceBneDiff]; exact rfl)
    (hs : datS a rows.length cap rows ts (frzS k (.buf (some (a, cap)) ety sz rows) s) = s2 := by simp only [pz, ↓reduceIte, Nat.reduceEqDiff, Nat.reduceAdd, Nat.reduceSub, Nat.reduceMul, Nat.reduceLeDiff, Nat.reduceBEq, Bool.false_eq_true, decide_true, decide_false, Int.reduceLE, Int.reduceToNat, Int.reduceLT, Int.reduceEq, eq_self, Nat.reduceShiftRight, Nat.reduceAnd, Nat.reduceBneDiff]; exact rfl) (hr : datM a rows.length cap rows ks (remM k m) = m2 := by simp only [pz, ↓reduceIte, Nat.reduceEqDiff, Nat.reduceAdd, Nat.reduceSub, Nat.reduceMul, Nat.reduceLeDiff, Nat.reduceBEq, Bool.false_eq_true, decide_true, decide_false, Int.reduceLE, Int.reduceToNat, Int.reduceLT, Int.reduceEq, eq_self, Nat.reduceShiftRight, Nat.reduceAnd, Nat.reduceBneDiff]; exact rfl) : Runs e ds 0 os ⟨s, m⟩ K :=
  runs_turn (turn_dat k ts ks hm) fun σ' hσ => by subst hσ; simp only [hs, hr]; exact hK
/-- A struct literal, its zero parts told to the cell. -/
theorem gX {e : Env} {K : St → Prop} {ds : List (Option Nat)} {os : List Oper} {d t ty : Nat} {p : String} {ed : Array Edge} {parts : List (Nat × Operand)} {s : List (Nat × A)} {m : List (Nat × Bk)} {cs cs' : List C} (hK : Runs e ds 0 os ⟨(d, .d (.agg cs')) :: s, m⟩ K)
    (hz : zeroX e.P t = some cs := by first | (simp only [pz, ↓reduceIte, Nat.reduceEqDiff, Nat.reduceAdd, Nat.reduceSub, Nat.reduceMul, Nat.reduceLeDiff, Nat.reduceBEq, Bool.false_eq_true, decide_true, decide_false, Int.reduceLE, Int.reduceToNat, Int.reduceLT, Int.reduceEq, eq_self, Nat.reduceShiftRight, Nat.reduceAnd, Nat.reduceBneDiff]; exact rfl) | simp only [pz, ↓reduceIte, Nat.reduceEqDiff, Nat.reduceAdd, Nat.reduceSub, Nat.reduceMul, Nat.reduceLeDiff, Nat.reduceBEq, Bool.false_eq_true, decide_true, decide_false, Int.reduceLE, Int.reduceToNat, Int.reduceLT, Int.reduceEq, eq_self, Nat.reduceShiftRight, Nat.reduceAnd, Nat.reduceBneDiff]) (hst : isStructT e.P t = true := by simp only [pz, ↓reduceIte, Nat.reduceEqDiff, Nat.reduceAdd, Nat.reduceSub, Nat.reduceMul, Nat.reduceLeDiff, Nat.reduceBEq, Bool.false_eq_true, decide_true, decide_false, Int.reduceLE, Int.reduceToNat, Int.reduceLT, Int.reduceEq, eq_self, Nat.reduceShiftRight, Nat.reduceAnd, Nat.reduceBneDiff]) (hok : cs.all okCell = true := by first | rfl | simp only [pz, ↓reduceIte, Nat.reduceEqDiff, Nat.reduceAdd, Nat.reduceSub, Nat.reduceMul, Nat.reduceLeDiff, Nat.reduceBEq, Bool.false_eq_true, decide_true, decide_false, Int.reduceLE, Int.reduceToNat, Int.reduceLT, Int.reduceEq, eq_self, Nat.reduceShiftRight, Nat.reduceAnd, Nat.reduceBneDiff]) (hf : fillA e.P t cs (parts.map fun p => (p.1, evA s p.2)) = some cs' := by simp only [pz, ↓reduceIte, Nat.reduceEqDiff, Nat.reduceAdd, Nat.reduceSub, Nat.reduceMul, Nat.reduceLeDiff, Nat.reduceBEq, Bool.false_eq_true, decide_true, decide_false, Int.reduceLE, Int.reduceToNat, Int.reduceLT, Int.reduceEq, eq_self, Nat.reduceShiftRight, Nat.reduceAnd, Nat.reduceBneDiff, F]; exact rfl) : Runs e ds 0 (⟨some d, .build t parts.toArray, ty, p, ed, none⟩ :: os) ⟨s, m⟩ K := runs_buildX hz hst hok hf hK
theorem pN {e : Env} {mask : Nat} {Q : PX → St → Prop} {c : Code} {s s2 : List (Nat × A)} {m m2 : List (Nat × Bk)} (κ ety sz : Nat) (hK : pwp e mask c ⟨s2, (κ, .buf (some (none, 0)) ety sz []) :: m2⟩ Q) (h0 : 0 < sz := by decide) (hs : killK κ s = s2 := by simp only [pz, ↓reduceIte, Nat.reduceEqDiff, Nat.reduceAdd, Nat.reduceSub, Nat.reduceMul, Nat.reduceLeDiff, Nat.reduceBEq, Bool.false_eq_true, decide_true, decide_false, Int.reduceLE, Int.reduceToNat, Int.reduceLT, Int.reduceEq, eq_self, Nat.reduceShiftRight, Nat.reduceAnd, Nat.reduceBneDiff]; exact rfl) (hr : remM κ m = m2 := by simp only [pz, ↓reduceIte, Nat.reduceEqDiff, Nat.reduceAdd, Nat.reduceSub, Nat.reduceMul, Nat.reduceLeDiff, Nat.reduceBEq, Bool.false_eq_true, decide_true, decide_false, Int.reduceLE, Int.reduceToNat, Int.reduceLT, Int.reduceEq, eq_self, Nat.reduceShiftRight, Nat.reduceAnd, Nat.reduceBneDiff]; exact rfl) : pwp e mask c ⟨s, m⟩ Q :=
  pwp_turn (turn_nil κ ety sz h0) fun σ' hσ => by subst hσ; simp only [hs, hr]; exact hK
theorem pD {e : Env} {mask : Nat} {Q : PX → St → Prop} {c : Code} {s s2 : List (Nat × A)} {m m2 : List (Nat × Bk)} {a : Option Addr} {cap ety sz : Nat} {rows : List (List C)} (k : Nat) (ts ks : List Nat) (hK : pwp e mask c ⟨s2, m2⟩ Q) (hm : gm m k = some (.buf (some (a, cap)) ety sz rows) := by simp only [pz, ↓reduceIte, Nat.reduceEqDiff, Nat.reduceAdd, Nat.reduceSub, Nat.reduceMul, Nat.reduceLeDiff, Nat.reduceBEq, Bool.false_eq_true, decide_true, decide_false, Int.reduceLE, Int.reduceToNat, Int.reduceLT, Int.reduceEq, eq_self, Nat.reduceShiftRight, Nat.reduceAnd, Nat.reduceBneDiff]; exact rfl)
    (hs : datS a rows.length cap rows ts (frzS k (.buf (some (a, cap)) ety sz rows) s) = s2 := by simp only [pz, ↓reduceIte, Nat.reduceEqDiff, Nat.reduceAdd, Nat.reduceSub, Nat.reduceMul, Nat.reduceLeDiff, Nat.reduceBEq, Bool.false_eq_true, decide_true, decide_false, Int.reduceLE, Int.reduceToNat, Int.reduceLT, Int.reduceEq, eq_self, Nat.reduceShiftRight, Nat.reduceAnd, Nat.reduceBneDiff]; exact rfl) (hr : datM a rows.length cap rows ks (remM k m) = m2 := by simp only [pz, ↓reduceIte, Nat.reduceEqDiff, Nat.reduceAdd, Nat.reduceSub, Nat.reduceMul, Nat.reduceLeDiff, Nat.reduceBEq, Bool.false_eq_true, decide_true, decide_false, Int.reduceLE, Int.reduceToNat, Int.reduceLT, Int.reduceEq, eq_self, Nat.reduceShiftRight, Nat.reduceAnd, Nat.reduceBneDiff]; exact rfl) : pwp e mask c ⟨s, m⟩ Q :=
  pwp_turn (turn_dat k ts ks hm) fun σ' hσ => by subst hσ; simp only [hs, hr]; exact hK
/-- The same ahead of a code. -/
theorem pV {e : Env} {mask : Nat} {Q : PX → St → Prop} {c : Code} {s : List (Nat × A)} {m m2 : List (Nat × Bk)} {cs : List C} {s2 : Nat → List (Nat × A)} (k : Nat) (hK : ∀ b, (∀ k' b' cs', k' ≠ k → gm m k' = some (.var (some b') cs') → b ≠ b') → pwp e mask c ⟨s2 b, (k, .var (some b) cs) :: m2⟩ Q)
    (hm : gm m k = some (.var none cs) := by simp only [pz, ↓reduceIte, Nat.reduceEqDiff, Nat.reduceAdd, Nat.reduceSub, Nat.reduceMul, Nat.reduceLeDiff, Nat.reduceBEq, Bool.false_eq_true, decide_true, decide_false, Int.reduceLE, Int.reduceToNat, Int.reduceLT, Int.reduceEq, eq_self, Nat.reduceShiftRight, Nat.reduceAnd, Nat.reduceBneDiff]; exact rfl) (hs : ∀ b, mapS (litV k b) s = s2 b := by intro b; simp only [pz, ↓reduceIte, Nat.reduceEqDiff, Nat.reduceAdd, Nat.reduceSub, Nat.reduceMul, Nat.reduceLeDiff, Nat.reduceBEq, Bool.false_eq_true, decide_true, decide_false, Int.reduceLE, Int.reduceToNat, Int.reduceLT, Int.reduceEq, eq_self, Nat.reduceShiftRight, Nat.reduceAnd, Nat.reduceBneDiff]; exact rfl) (hr : remM k m = m2 := by simp only [pz, ↓reduceIte, Nat.reduceEqDiff, Nat.reduceAdd, Nat.reduceSub, Nat.reduceMul, Nat.reduceLeDiff, Nat.reduceBEq, Bool.false_eq_true, decide_true, decide_false, Int.reduceLE, Int.reduceToNat, Int.reduceLT, Int.reduceEq, eq_self, Nat.reduceShiftRight, Nat.reduceAnd, Nat.reduceBneDiff]; exact rfl) : pwp e mask c ⟨s, m⟩ Q :=
  pwp_turn (turn_pinV k hm) fun σ' ⟨b, hb, hσ⟩ => by subst hσ; simp only [hs, hr]; exact hK b hb
theorem pS {e : Env} {mask : Nat} {Q : PX → St → Prop} {c : Code} {s : List (Nat × A)} {m m2 : List (Nat × Bk)} {ety sz : Nat} {rows : List (List C)} {s2 : Option Addr → Nat → List (Nat × A)} (k : Nat) (hK : ∀ a cap, pwp e mask c ⟨s2 a cap, (k, .buf (some (a, cap)) ety sz rows) :: m2⟩ Q)
    (hm : gm m k = some (.buf none ety sz rows) := by simp only [pz, ↓reduceIte, Nat.reduceEqDiff, Nat.reduceAdd, Nat.reduceSub, Nat.reduceMul, Nat.reduceLeDiff, Nat.reduceBEq, Bool.false_eq_true, decide_true, decide_false, Int.reduceLE, Int.reduceToNat, Int.reduceLT, Int.reduceEq, eq_self, Nat.reduceShiftRight, Nat.reduceAnd, Nat.reduceBneDiff]; exact rfl) (hs : ∀ a cap, mapS (litB k a rows.length cap) s = s2 a cap := by intro a cap; simp only [pz, ↓reduceIte, Nat.reduceEqDiff, Nat.reduceAdd, Nat.reduceSub, Nat.reduceMul, Nat.reduceLeDiff, Nat.reduceBEq, Bool.false_eq_true, decide_true, decide_false, Int.reduceLE, Int.reduceToNat, Int.reduceLT, Int.reduceEq, eq_self, Nat.reduceShiftRight, Nat.reduceAnd, Nat.reduceBneDiff]; exact rfl) (hr : remM k m = m2 := by simp only [pz, ↓reduceIte, Nat.reduceEqDiff, Nat.reduceAdd, Nat.reduceSub, Nat.reduceMul, Nat.reduceLeDiff, Nat.reduceBEq, Bool.false_eq_true, decide_true, decide_false, Int.reduceLE, Int.reduceToNat, Int.reduceLT, Int.reduceEq, eq_self, Nat.reduceShiftRight, Nat.reduceAnd, Nat.reduceBneDiff]; exact rfl) : pwp e mask c ⟨s, m⟩ Q :=
  pwp_turn (turn_pinB k hm) fun σ' ⟨a, cap, hσ⟩ => by subst hσ; simp only [hs, hr]; exact hK a cap
theorem pK {e : Env} {mask : Nat} {Q : PX → St → Prop} {c : Code} {s : List (Nat × A)} {m : List (Nat × Bk)} {x : A} (t : Nat) (hK : pwp e mask c ⟨(t, x) :: s, m⟩ Q) (hx : nrm m (gs s t) = x := by simp only [pz, ↓reduceIte, Nat.reduceEqDiff, Nat.reduceAdd, Nat.reduceSub, Nat.reduceMul, Nat.reduceLeDiff, Nat.reduceBEq, Bool.false_eq_true, decide_true, decide_false, Int.reduceLE, Int.reduceToNat, Int.reduceLT, Int.reduceEq, eq_self, Nat.reduceShiftRight, Nat.reduceAnd, Nat.reduceBneDiff]; exact rfl) : pwp e mask c ⟨s, m⟩ Q :=
  pwp_turn (turn_key t) fun σ' hσ => by subst hσ; simp only [hx]; exact hK
/-- Own things at known places (of the keys ks) told as others (of the keys ks'). -/
def Retold (pm pm' : List Bk) : Prop := ∀ (w : World) (S : Nat → Prop), (∀ x ∈ pm, PinRel w S x) → Apart pm → (∀ x ∈ pm', PinRel w S x) ∧ Apart pm' ∧ ∀ g, pblks pm' g → pblks pm g
theorem gE {e : Env} {K : St → Prop} {ds : List (Option Nat)} {os : List Oper} {s s2 : List (Nat × A)} {m m2 m3 : List (Nat × Bk)} {pm pm' : List Bk} (ks ks' : List Nat) (hre : Retold pm pm') (hK : Runs e ds 0 os ⟨s2, m3⟩ K) (hpm : getM m ks = some pm := by first | (simp only [pz, ↓reduceIte, Nat.reduceEqDiff, Nat.reduceAdd, Nat.reduceSub, Nat.reduceMul, Nat.reduceLeDiff, Nat.reduceBEq, Bool.false_eq_true, decide_true, decide_false, Int.reduceLE, Int.reduceToNat, Int.reduceLT, Int.reduceEq, eq_self, Nat.reduceShiftRight, Nat.reduceAnd, Nat.reduceBneDiff]; exact rfl) | simp only [pz, ↓reduceIte, Nat.reduceEqDiff, Nat.reduceAdd, Nat.reduceSub, Nat.reduceMul, Nat.reduceLeDiff, Nat.reduceBEq, Bool.false_eq_true, decide_true, decide_false, Int.reduceLE, Int.reduceToNat, Int.reduceLT, Int.reduceEq, eq_self, Nat.reduceShiftRight, Nat.reduceAnd, Nat.reduceBneDiff]) (hn : ks.Nodup := by decide) (hp : pm.all pinned = true := by simp only [pz, ↓reduceIte, Nat.reduceEqDiff, Nat.reduceAdd, Nat.reduceSub, Nat.reduceMul, Nat.reduceLeDiff, Nat.reduceBEq, Bool.false_eq_true, decide_true, decide_false, Int.reduceLE, Int.reduceToNat, Int.reduceLT, Int.reduceEq, eq_self, Nat.reduceShiftRight, Nat.reduceAnd, Nat.reduceBneDiff])
    (hs : killKs (ks ++ ks') s = s2 := by simp only [pz, ↓reduceIte, Nat.reduceEqDiff, Nat.reduceAdd, Nat.reduceSub, Nat.reduceMul, Nat.reduceLeDiff, Nat.reduceBEq, Bool.false_eq_true, decide_true, decide_false, Int.reduceLE, Int.reduceToNat, Int.reduceLT, Int.reduceEq, eq_self, Nat.reduceShiftRight, Nat.reduceAnd, Nat.reduceBneDiff]; exact rfl) (hr : remMs (ks ++ ks') m = m2 := by simp only [pz, ↓reduceIte, Nat.reduceEqDiff, Nat.reduceAdd, Nat.reduceSub, Nat.reduceMul, Nat.reduceLeDiff, Nat.reduceBEq, Bool.false_eq_true, decide_true, decide_false, Int.reduceLE, Int.reduceToNat, Int.reduceLT, Int.reduceEq, eq_self, Nat.reduceShiftRight, Nat.reduceAnd, Nat.reduceBneDiff]; exact rfl) (h3 : zipM ks' pm' ++ m2 = m3 := by simp only [pz, ↓reduceIte, Nat.reduceEqDiff, Nat.reduceAdd, Nat.reduceSub, Nat.reduceMul, Nat.reduceLeDiff, Nat.reduceBEq, Bool.false_eq_true, decide_true, decide_false, Int.reduceLE, Int.reduceToNat, Int.reduceLT, Int.reduceEq, eq_self, Nat.reduceShiftRight, Nat.reduceAnd, Nat.reduceBneDiff]; exact rfl) : Runs e ds 0 os ⟨s, m⟩ K :=
  runs_turn (turn_re (Φ := fun x => x = pm') ks ks' hn hpm hp (fun w S h1 h2 => ⟨pm', rfl, hre w S h1 h2⟩)) fun σ' ⟨q, hq, hσ⟩ => by subst hq hσ; simp only [hs, hr, h3]; exact hK
theorem pE {e : Env} {mask : Nat} {Q : PX → St → Prop} {c : Code} {s s2 : List (Nat × A)} {m m2 m3 : List (Nat × Bk)} {pm pm' : List Bk} (ks ks' : List Nat) (hre : Retold pm pm') (hK : pwp e mask c ⟨s2, m3⟩ Q) (hpm : getM m ks = some pm := by first | (simp only [pz, ↓reduceIte, Nat.reduceEqDiff, Nat.reduceAdd, Nat.reduceSub, Nat.reduceMul, Nat.reduceLeDiff, Nat.reduceBEq, Bool.false_eq_true, decide_true, decide_false, Int.reduceLE, Int.reduceToNat, Int.reduceLT, Int.reduceEq, eq_self, Nat.reduceShiftRight, Nat.reduceAnd, Nat.reduceBneDiff]; exact rfl) | simp only [pz, ↓reduceIte, Nat.reduceEqDiff, Nat.reduceAdd, Nat.reduceSub, Nat.reduceMul, Nat.reduceLeDiff, Nat.reduceBEq, Bool.false_eq_true, decide_true, decide_false, Int.reduceLE, Int.reduceToNat, Int.reduceLT, Int.reduceEq, eq_self, Nat.reduceShiftRight, Nat.reduceAnd, Nat.reduceBneDiff]) (hn : ks.Nodup := by decide) (hp : pm.all pinned = true := by simp only [pz, ↓reduceIte, Nat.reduceEqDiff, Nat.reduceAdd, Nat.reduceSub, Nat.reduceMul, Nat.reduceLeDiff, Nat.reduceBEq, Bool.false_eq_true, decide_true, decide_false, Int.reduceLE, Int.reduceToNat, Int.reduceLT, Int.reduceEq, eq_self, Nat.reduceShiftRight, Nat.reduceAnd, Nat.reduceBneDiff])
    (hs : killKs (ks ++ ks') s = s2 := by simp only [pz, ↓reduceIte, Nat.reduceEqDiff, Nat.reduceAdd, Nat.reduceSub, Nat.reduceMul, Nat.reduceLeDiff, Nat.reduceBEq, Bool.false_eq_true, decide_true, decide_false, Int.reduceLE, Int.reduceToNat, Int.reduceLT, Int.reduceEq, eq_self, Nat.reduceShiftRight, Nat.reduceAnd, Nat.reduceBneDiff]; exact rfl) (hr : remMs (ks ++ ks') m = m2 := by simp only [pz, ↓reduceIte, Nat.reduceEqDiff, Nat.reduceAdd, Nat.reduceSub, Nat.reduceMul, Nat.reduceLeDiff, Nat.reduceBEq, Bool.false_eq_true, decide_true, decide_false, Int.reduceLE, Int.reduceToNat, Int.reduceLT, Int.reduceEq, eq_self, Nat.reduceShiftRight, Nat.reduceAnd, Nat.reduceBneDiff]; exact rfl) (h3 : zipM ks' pm' ++ m2 = m3 := by simp only [pz, ↓reduceIte, Nat.reduceEqDiff, Nat.reduceAdd, Nat.reduceSub, Nat.reduceMul, Nat.reduceLeDiff, Nat.reduceBEq, Bool.false_eq_true, decide_true, decide_false, Int.reduceLE, Int.reduceToNat, Int.reduceLT, Int.reduceEq, eq_self, Nat.reduceShiftRight, Nat.reduceAnd, Nat.reduceBneDiff]; exact rfl) : pwp e mask c ⟨s, m⟩ Q :=
  pwp_turn (turn_re (Φ := fun x => x = pm') ks ks' hn hpm hp (fun w S h1 h2 => ⟨pm', rfl, hre w S h1 h2⟩)) fun σ' ⟨q, hq, hσ⟩ => by subst hq hσ; simp only [hs, hr, h3]; exact hK
/-- The same where what is found there is only known to be one of several. -/
def Found {ι : Type} (pm : List Bk) (Φ : ι → Prop) (f : ι → List Bk) : Prop := ∀ (w : World) (S : Nat → Prop), (∀ x ∈ pm, PinRel w S x) → Apart pm → ∃ i, Φ i ∧ (∀ x ∈ f i, PinRel w S x) ∧ Apart (f i) ∧ ∀ g, pblks (f i) g → pblks pm g
theorem gEx {e : Env} {K : St → Prop} {ds : List (Option Nat)} {os : List Oper} {s s2 : List (Nat × A)} {m m2 : List (Nat × Bk)} {pm : List Bk} {ι : Type} {Φ : ι → Prop} {f : ι → List Bk} {m3 : ι → List (Nat × Bk)} (ks ks' : List Nat) (hre : Found pm Φ f) (hK : ∀ i, Φ i → Runs e ds 0 os ⟨s2, m3 i⟩ K) (hpm : getM m ks = some pm := by first | (simp only [pz, ↓reduceIte, Nat.reduceEqDiff, Nat.reduceAdd, Nat.reduceSub, Nat.reduceMul, Nat.reduceLeDiff, Nat.reduceBEq, Bool.false_eq_true, decide_true, decide_false, Int.reduceLE, Int.reduceToNat, Int.reduceLT, Int.reduceEq, eq_self, Nat.reduceShiftRight, Nat.reduceAnd, Nat.reduceBneDiff]; exact rfl) | simp only [pz, ↓reduceIte, Nat.reduceEqDiff, Nat.reduceAdd, Nat.reduceSub, Nat.reduceMul, Nat.reduceLeDiff, Nat.reduceBEq, Bool.false_eq_true, decide_true, decide_false, Int.reduceLE, Int.reduceToNat, Int.reduceLT, Int.reduceEq, eq_self, Nat.reduceShiftRight, Nat.reduceAnd, Nat.reduceBneDiff]) (hn : ks.Nodup := by decide) (hp : pm.all pinned = true := by simp only [pz, ↓reduceIte, Nat.reduceEqDiff, Nat.reduceAdd, Nat.reduceSub, Nat.reduceMul, Nat.reduceLeDiff, Nat.reduceBEq, Bool.false_eq_true, decide_true, decide_false, Int.reduceLE, Int.reduceToNat, Int.reduceLT, Int.reduceEq, eq_self, Nat.reduceShiftRight, Nat.reduceAnd, Nat.reduceBneDiff])
    (hs : killKs (ks ++ ks') s = s2 := by simp only [pz, ↓reduceIte, Nat.reduceEqDiff, Nat.reduceAdd, Nat.reduceSub, Nat.reduceMul, Nat.reduceLeDiff, Nat.reduceBEq, Bool.false_eq_true, decide_true, decide_false, Int.reduceLE, Int.reduceToNat, Int.reduceLT, Int.reduceEq, eq_self, Nat.reduceShiftRight, Nat.reduceAnd, Nat.reduceBneDiff]; exact rfl) (hr : remMs (ks ++ ks') m = m2 := by simp only [pz, ↓reduceIte, Nat.reduceEqDiff, Nat.reduceAdd, Nat.reduceSub, Nat.reduceMul, Nat.reduceLeDiff, Nat.reduceBEq, Bool.false_eq_true, decide_true, decide_false, Int.reduceLE, Int.reduceToNat, Int.reduceLT, Int.reduceEq, eq_self, Nat.reduceShiftRight, Nat.reduceAnd, Nat.reduceBneDiff]; exact rfl) (h3 : ∀ i, zipM ks' (f i) ++ m2 = m3 i := by intro i; simp only [pz, ↓reduceIte, Nat.reduceEqDiff, Nat.reduceAdd, Nat.reduceSub, Nat.reduceMul, Nat.reduceLeDiff, Nat.reduceBEq, Bool.false_eq_true, decide_true, decide_false, Int.reduceLE, Int.reduceToNat, Int.reduceLT, Int.reduceEq, eq_self, Nat.reduceShiftRight, Nat.reduceAnd, Nat.reduceBneDiff]; exact rfl) : Runs e ds 0 os ⟨s, m⟩ K :=
  runs_turn (turn_re (Φ := fun x => ∃ i, Φ i ∧ x = f i) ks ks' hn hpm hp (fun w S h1 h2 => Exists.elim (hre w S h1 h2) fun i hi => ⟨f i, ⟨i, hi.1, rfl⟩, hi.2⟩)) fun σ' ⟨q, ⟨i, hi, hq⟩, hσ⟩ => by subst hq hσ; simp only [hs, hr, h3]; exact hK i hi
theorem pEx {e : Env} {mask : Nat} {Q : PX → St → Prop} {c : Code} {s s2 : List (Nat × A)} {m m2 : List (Nat × Bk)} {pm : List Bk} {ι : Type} {Φ : ι → Prop} {f : ι → List Bk} {m3 : ι → List (Nat × Bk)} (ks ks' : List Nat) (hre : Found pm Φ f) (hK : ∀ i, Φ i → pwp e mask c ⟨s2, m3 i⟩ Q) (hpm : getM m ks = some pm := by first | (simp only [pz, ↓reduceIte, Nat.reduceEqDiff, Nat.reduceAdd, Nat.reduceSub, Nat.reduceMul, Nat.reduceLeDiff, Nat.reduceBEq, Bool.false_eq_true, decide_true, decide_false, Int.reduceLE, Int.reduceToNat, Int.reduceLT, Int.reduceEq, eq_self, Nat.reduceShiftRight, Nat.reduceAnd, Nat.reduceBneDiff]; exact rfl) | simp only [pz, ↓reduceIte, Nat.reduceEqDiff, Nat.reduceAdd, Nat.reduceSub, Nat.reduceMul, Nat.reduceLeDiff, Nat.reduceBEq, Bool.false_eq_true, decide_true, decide_false, Int.reduceLE, Int.reduceToNat, Int.reduceLT, Int.reduceEq, eq_self, Nat.reduceShiftRight, Nat.reduceAnd, Nat.reduceBneDiff]) (hn : ks.Nodup := by decide) (hp : pm.all pinned = true := by simp only [pz, ↓reduceIte, Nat.reduceEqDiff, Nat.reduceAdd, Nat.reduceSub, Nat.reduceMul, Nat.reduceLeDiff, Nat.reduceBEq, Bool.false_eq_true, decide_true, decide_false, Int.reduceLE, Int.reduceToNat, Int.reduceLT, Int.reduceEq, eq_self, Nat.reduceShiftRight, Nat.reduceAnd, Nat.reduceBneDiff])
    (hs : killKs (ks ++ ks') s = s2 := by simp only [pz, ↓reduceIte, Nat.reduceEqDiff, Nat.reduceAdd, Nat.reduceSub, Nat.reduceMul, Nat.reduceLeDiff, Nat.reduceBEq, Bool.false_eq_true, decide_true, decide_false, Int.reduceLE, Int.reduceToNat, Int.reduceLT, Int.reduceEq, eq_self, Nat.reduceShiftRight, Nat.reduceAnd, Nat.reduceBneDiff]; exact rfl) (hr : remMs (ks ++ ks') m = m2 := by simp only [pz, ↓reduceIte, Nat.reduceEqDiff, Nat.reduceAdd, Nat.reduceSub, Nat.reduceMul, Nat.reduceLeDiff, Nat.reduceBEq, Bool.false_eq_true, decide_true, decide_false, Int.reduceLE, Int.reduceToNat, Int.reduceLT, Int.reduceEq, eq_self, Nat.reduceShiftRight, Nat.reduceAnd, Nat.reduceBneDiff]; exact rfl) (h3 : ∀ i, zipM ks' (f i) ++ m2 = m3 i := by intro i; simp only [pz, ↓reduceIte, Nat.reduceEqDiff, Nat.reduceAdd, Nat.reduceSub, Nat.reduceMul, Nat.reduceLeDiff, Nat.reduceBEq, Bool.false_eq_true, decide_true, decide_false, Int.reduceLE, Int.reduceToNat, Int.reduceLT, Int.reduceEq, eq_self, Nat.reduceShiftRight, Nat.reduceAnd, Nat.reduceBneDiff]; exact rfl) : pwp e mask c ⟨s, m⟩ Q :=
  pwp_turn (turn_re (Φ := fun x => ∃ i, Φ i ∧ x = f i) ks ks' hn hpm hp (fun w S h1 h2 => Exists.elim (hre w S h1 h2) fun i hi => ⟨f i, ⟨i, hi.1, rfl⟩, hi.2⟩)) fun σ' ⟨q, ⟨i, hi, hq⟩, hσ⟩ => by subst hq hσ; simp only [hs, hr, h3]; exact hK i hi
/-- Into a function to which own things are lent (under the keys given). -/
theorem gIP {f : FuncId} {fn : Func} {c : Code} {args : List D} {pm : List Bk} {m0 : List (Nat × Bk)} {R : List D → List Bk → Prop} {ts : List RS} (keys : List Nat) (mask : Nat) (hf : e0.P.funcs[f]? = some fn) (h : pwp e0 mask c ⟨initS 0 args, m0⟩ (retQP e0.P ts R)) (hm : zipM keys pm = m0 := by simp only [pz, ↓reduceIte, Nat.reduceEqDiff, Nat.reduceAdd, Nat.reduceSub, Nat.reduceMul, Nat.reduceLeDiff, Nat.reduceBEq, Bool.false_eq_true, decide_true, decide_false, Int.reduceLE, Int.reduceToNat, Int.reduceLT, Int.reduceEq, eq_self, Nat.reduceShiftRight, Nat.reduceAnd, Nat.reduceBneDiff]; exact rfl) (hb : fn.body = some c := by exact rfl) (hnm : (fn.name == "runtime.NumGoroutine") = false := by kernel_rfl)
    (hok : okCode fn.ntmps c = true := by kernel_rfl) (hal : Nat.ble args.length fn.ntmps = true := by exact rfl) (hres : resSlots fn.results.toList = ts := by exact rfl) : ConP e0 f args pm R := conP_of_pwp e0_ok keys mask hf hb hnm hok hal hres (by rw [hm]; exact h)
/-- The return of such a function: the own things that it gives have the keys ks. -/
theorem gTP {X : Prop} {P : Program} {ts : List RS} {R : List D → List Bk → Prop} {σ : St} {r : List D} {pm : List Bk} (ks : List Nat) (hR : R r pm) (hx : retQP P ts R .ret σ → X := by exact fun h => pwp_ret h) (hr : resD P σ ts = some r := by first | (simp only [pz, ↓reduceIte, Nat.reduceEqDiff, Nat.reduceAdd, Nat.reduceSub, Nat.reduceMul, Nat.reduceLeDiff, Nat.reduceBEq, Bool.false_eq_true, decide_true, decide_false, Int.reduceLE, Int.reduceToNat, Int.reduceLT, Int.reduceEq, eq_self, Nat.reduceShiftRight, Nat.reduceAnd, Nat.reduceBneDiff, F]; exact rfl) | simp only [pz, ↓reduceIte, Nat.reduceEqDiff, Nat.reduceAdd, Nat.reduceSub, Nat.reduceMul, Nat.reduceLeDiff, Nat.reduceBEq, Bool.false_eq_true, decide_true, decide_false, Int.reduceLE, Int.reduceToNat, Int.reduceLT, Int.reduceEq, eq_self, Nat.reduceShiftRight, Nat.reduceAnd, Nat.reduceBneDiff, F]) (hg : getM σ.m ks = some pm := by first | (simp only [pz, ↓reduceIte, Nat.reduceEqDiff, Nat.reduceAdd, Nat.reduceSub, Nat.reduceMul, Nat.reduceLeDiff, Nat.reduceBEq, Bool.false_eq_true, decide_true, decide_false, Int.reduceLE, Int.reduceToNat, Int.reduceLT, Int.reduceEq, eq_self, Nat.reduceShiftRight, Nat.reduceAnd, Nat.reduceBneDiff]; exact rfl) | simp only [pz, ↓reduceIte, Nat.reduceEqDiff, Nat.reduceAdd, Nat.reduceSub, Nat.reduceMul, Nat.reduceLeDiff, Nat.reduceBEq, Bool.false_eq_true, decide_true, decide_false, Int.reduceLE, Int.reduceToNat, Int.reduceLT, Int.reduceEq, eq_self, Nat.reduceShiftRight, Nat.reduceAnd, Nat.reduceBneDiff]) (hn : ks.Nodup := by decide) (hp : pm.all pinned = true := by simp only [pz, ↓reduceIte, Nat.reduceEqDiff, Nat.reduceAdd, Nat.reduceSub, Nat.reduceMul, Nat.reduceLeDiff, Nat.reduceBEq, Bool.false_eq_true, decide_true, decide_false, Int.reduceLE, Int.reduceToNat, Int.reduceLT, Int.reduceEq, eq_self, Nat.reduceShiftRight, Nat.reduceAnd, Nat.reduceBneDiff]) : X :=
  hx ⟨r, ks, pm, hg, hn, hp, hR, resOk_of hr⟩
end Go.Proofs.Ytmpcbijkbgmjkaa

namespace Go.Proofs.Ytmpcbijkbgmjkaa
open Go.RowKit

/-- Rows of values stand for rows of data, all in memory of their own. -/
def OwnVs (w : World) : List (List C) → (Nat → Prop) → List (List Value) → Prop
  | [], _, [] => True
  | r :: rs, S, us :: uss => ∃ S1 S2 : Nat → Prop, (∀ x, S1 x → S x) ∧ (∀ x, S2 x → S x) ∧ (∀ x, S1 x → S2 x → False) ∧ OwnVals w r S1 us ∧ OwnVs w rs S2 uss
  | _, _, _ => False
def litRow (us : List Value) : List C := us.map .lit
section
variable {w w' : World}
theorem OwnVs.keep (hz : w.heap.size ≤ w'.heap.size) : ∀ (rows : List (List C)) (S S' : Nat → Prop) (uss : List (List Value)), (∀ b, S b → w'.heap[b]? = w.heap[b]?) → (∀ b, S b → S' b) → OwnVs w rows S uss → OwnVs w' rows S' uss
  | [], _, _, [], _, _, _ => trivial
  | r :: rs, S, S', us :: uss, hk, hS, h => by
    obtain ⟨S1, S2, h1, h2, hd, hr, hrs⟩ := h
    exact ⟨S1, S2, fun x hx => hS x (h1 x hx), fun x hx => hS x (h2 x hx), hd, OwnVals.keep hz r S1 S1 us (fun x hx => hk x (h1 x hx)) (fun _ h => h) hr, OwnVs.keep hz rs S2 S2 uss (fun x hx => hk x (h2 x hx)) (fun _ h => h) hrs⟩
  | [], _, _, _ :: _, _, _, h => h.elim
  | _ :: _, _, _, [], _, _, h => h.elim
theorem OwnVs.len : ∀ {rows : List (List C)} {S : Nat → Prop} {uss : List (List Value)}, OwnVs w rows S uss → uss.length = rows.length
  | [], _, [], _ => rfl
  | r :: rs, S, us :: uss, ⟨S1, S2, _, _, _, _, h⟩ => by simp [OwnVs.len h]
theorem OwnVs.snoc : ∀ {rows : List (List C)} {r : List C} {S S1 S2 : Nat → Prop} {uss : List (List Value)} {us : List Value}, OwnVs w rows S1 uss → OwnVals w r S2 us → (∀ x, S1 x → S x) → (∀ x, S2 x → S x) → (∀ x, S1 x → S2 x → False) → OwnVs w (rows ++ [r]) S (uss ++ [us])
  | [], r, S, S1, S2, [], us, _, h2, i1, i2, hd => ⟨S2, fun _ => False, i2, fun _ h => h.elim, fun _ _ h => h, h2, trivial⟩
  | q :: qs, r, S, S1, S2, vs :: vss, us, ⟨T1, T2, a1, a2, a3, a4, a5⟩, h2, i1, i2, hd =>
    ⟨T1, fun x => T2 x ∨ S2 x, fun x hx => i1 x (a1 x hx), fun x hx => hx.elim (fun h => i1 x (a2 x h)) (i2 x), fun x hx hy => hy.elim (a3 x hx) (hd x (a1 x hx)), a4,
      OwnVs.snoc a5 h2 (fun _ h => .inl h) (fun _ h => .inr h) (fun x hx hy => hd x (a2 x hx) hy)⟩
  | [], _, _, _, _, _ :: _, _, h, _, _, _, _ => h.elim
  | _ :: _, _, _, _, _, [], _, h, _, _, _, _ => h.elim
theorem OwnVs.get : ∀ {rows : List (List C)} {S : Nat → Prop} {uss : List (List Value)} {i : Nat} {r : List C} {us : List Value}, OwnVs w rows S uss → rows[i]? = some r → uss[i]? = some us → OwnVals w r S us
  | r :: rs, S, us :: uss, 0, r', us', ⟨S1, S2, h1, _, _, h, _⟩, hr, hu => by
    simp at hr hu; subst hr hu
    exact OwnVals.keep (Nat.le_refl _) r S1 S us (fun _ _ => rfl) h1 h
  | r :: rs, S, us :: uss, i + 1, r', us', ⟨S1, S2, _, h2, _, _, h⟩, hr, hu =>
    OwnVals.keep (Nat.le_refl _) r' S2 S us' (fun _ _ => rfl) h2 (OwnVs.get h (by simpa using hr) (by simpa using hu))
  | [], _, _, _, _, _, _, hr, _ => by simp at hr
  | _ :: _, _, [], _, _, _, h, _, _ => h.elim
theorem OwnVs.stable (rows : List (List C)) (E : Nat → Prop) (uss : List (List Value)) : StableOn E (fun w => OwnVs w rows E uss) := fun w w' hz hk h => OwnVs.keep hz rows E E uss hk (fun _ h => h) h
theorem OwnVals.stable (r : List C) (E : Nat → Prop) (us : List Value) : StableOn E (fun w => OwnVals w r E us) := fun w w' hz hk h => OwnVals.keep hz r E E us hk (fun _ h => h) h
theorem Own.stable (c : C) (E : Nat → Prop) (v : Value) : StableOn E (fun w => Own w c E v) := fun w w' hz hk h => Own.keep hz c E E v hk (fun _ h => h) h
theorem RepVals_lit {S : Nat → Prop} : ∀ {us vs : List Value}, RepVals w S (litRow us) vs → vs = us
  | [], [], _ => rfl
  | u :: us, v :: vs, h => by
    simp only [litRow, List.map_cons, RepVals, Rep] at h
    rw [h.1, RepVals_lit h.2]
  | [], _ :: _, h => by simp [litRow, RepVals] at h
  | _ :: _, [], h => by simp [litRow, RepVals] at h
/-- Rows of values in a block, with what they own: rows of a tree. -/
theorem OwnRows.close {b : Nat} {T : Nat → Prop} : ∀ {rows : List (List C)} {uss : List (List Value)} {S : Nat → Prop} {off : Nat}, RepRows w T b off (uss.map litRow) → OwnVs w rows S uss → OwnRows w b rows S off
  | [], [], _, _, _, _ => by simp [OwnRows]
  | r :: rs, us :: uss, S, off, hr, ⟨S1, S2, h1, h2, hd, hv, hvs⟩ => by
    simp only [List.map_cons, RepRows] at hr
    simp only [OwnRows]
    obtain ⟨vs, q1, q2⟩ := hr.1.vals
    have e := RepVals_lit q1
    subst e
    have hl : (litRow vs).length = r.length := by simp [litRow, OwnVals.len hv]
    refine ⟨S1, S2, h1, h2, hd, OwnRow.of_vals r S1 vs off hv q2, ?_⟩
    rw [← hl]
    exact OwnRows.close hr.2 hvs
  | [], _ :: _, _, _, _, h => h.elim
  | _ :: _, [], _, _, _, h => h.elim
theorem Own.close {T : Nat → Prop} {ety sz : Nat} {rows : List (List C)} {uss : List (List Value)} {E : Nat → Prop} {a : Option Addr} {cap : Nat} (hb : BufRel w T ety sz (uss.map litRow) (.slice a uss.length cap)) (hv : OwnVs w rows E uss) (hd : ∀ b, vblk (.slice a uss.length cap) = some b → ¬ E b) :
    Own w (.sl rows) (fun b => vblk (.slice a uss.length cap) = some b ∨ E b) (.slice a uss.length cap) := by
  have hlen := hv.len
  obtain ⟨h1, h2, h3⟩ := hb
  simp only [Own]
  rcases h3 with ⟨h4, a', h5⟩ | ⟨g, cap', cur, h5, hc, hg, hs, hh, hl, hm, hcs, hr⟩
  · injection h5 with e1 e2 e3
    subst e1 e3
    have hu0 : uss = [] := by simpa using h4
    exact ⟨a, uss.length, 0, rfl, hlen.symm, by rw [hu0]; exact Nat.le_refl _, by decide, fun h => absurd h (by decide)⟩
  · injection h5 with e1 e2 e3
    subst e1 e3
    have hvb : vblk (.slice (some ⟨g, 0, none⟩) uss.length cap) = some g := by simp only [vblk]; rw [if_neg (by omega)]
    simp only [List.length_map] at hl
    refine ⟨_, uss.length, cap, rfl, hlen.symm, hl, hm, fun h0 => ⟨g, 0, E, rfl, .inl hvb, hg, ⟨fun o => frozen_of_row w g o cur ety hh, rfl, cur, ety, sz, hh, hcs, h1, fun r hr0 => ?_⟩, fun x hx => ⟨.inr hx, fun e => hd g hvb (e ▸ hx)⟩, OwnRows.close hr hv⟩⟩
    obtain ⟨i, hi⟩ := List.getElem?_of_mem hr0
    have hil := (List.getElem?_eq_some_iff.1 hi).1
    obtain ⟨us, hu⟩ : ∃ us, uss[i]? = some us := ⟨_, List.getElem?_eq_getElem (by omega)⟩
    have hq := (h2 (litRow us) (List.mem_map.2 ⟨us, List.mem_of_getElem? hu, rfl⟩)).1
    have hq2 := OwnVals.len (hv.get hi hu)
    simp only [litRow, List.length_map] at hq
    omega
theorem OwnRow.open {b : Nat} : ∀ {cs : List C} {S : Nat → Prop} {off : Nat}, OwnRow w b cs S off → ∃ us, OwnVals w cs S us ∧ ∀ j u, us[j]? = some u → w.cell? ⟨b, off + j, none⟩ = some u
  | [], S, off, _ => ⟨[], OwnVals.nil, fun j u h => by simp at h⟩
  | c :: cs, S, off, h => by
    simp only [OwnRow] at h
    obtain ⟨S1, S2, u, h1, h2, hd, hu, hc, hcs⟩ := h
    obtain ⟨us, k1, k2⟩ := OwnRow.open hcs
    refine ⟨u :: us, OwnVals.cons S1 S2 hc k1 h1 h2 hd, fun j v hj => ?_⟩
    cases j with
    | zero => simp at hj; subst hj; exact hu
    | succ j => have := k2 j v (by simpa using hj); rw [← this]; congr 2; omega
theorem OwnRows.open {b : Nat} : ∀ {rows : List (List C)} {S : Nat → Prop} {off : Nat}, OwnRows w b rows S off → ∃ uss, OwnVs w rows S uss ∧ ∀ T : Nat → Prop, RepRows w T b off (uss.map litRow)
  | [], S, off, _ => ⟨[], trivial, fun T => by simp [RepRows]⟩
  | r :: rs, S, off, h => by
    simp only [OwnRows] at h
    obtain ⟨S1, S2, h1, h2, hd, hr, hrs⟩ := h
    obtain ⟨us, k1, k2⟩ := OwnRow.open hr
    obtain ⟨uss, k3, k4⟩ := OwnRows.open hrs
    refine ⟨us :: uss, ⟨S1, S2, h1, h2, hd, k1, k3⟩, fun T => ?_⟩
    simp only [List.map_cons, RepRows]
    refine ⟨RepRow.of_vals _ us off (RepVals_lits us) k2, ?_⟩
    rw [show (litRow us).length = r.length by simp [litRow, k1.len]]
    exact k4 T
theorem OwnVals.cells : ∀ {cs : List C} {S : Nat → Prop} {us : List Value}, OwnVals w cs S us → cs.all okCell = true → (litRow us).all okCell = true
  | [], _, [], _, _ => rfl
  | c :: cs, S, u :: us, h, hc => by
    simp only [OwnVals] at h
    obtain ⟨S1, S2, _, _, _, h1, h2⟩ := h
    simp only [List.all_cons, Bool.and_eq_true] at hc
    simp only [litRow, List.map_cons, List.all_cons, Bool.and_eq_true]
    exact ⟨okCell_one (c := c) hc.1 (Own.rep c S1 u h1), OwnVals.cells h2 hc.2⟩
  | [], _, _ :: _, h, _ => by simp [OwnVals] at h
  | _ :: _, _, [], h, _ => by simp [OwnVals] at h
/-- A tree opened: its rows, as values, and what they own. -/
theorem Own.open {T : Nat → Prop} {rows : List (List C)} {E : Nat → Prop} {a : Option Addr} {n cap sz : Nat} (hT : ∀ b, E b → ¬ T b) (hne : rows ≠ []) (hrl : rowsLen sz rows) (h : Own w (.sl rows) E (.slice a n cap)) :
    ∃ uss ety E', n = uss.length ∧ BufRel w T ety sz (uss.map litRow) (.slice a uss.length cap) ∧ OwnVs w rows E' uss ∧ (∀ b, E' b → E b ∧ vblk (.slice a uss.length cap) ≠ some b) ∧ ∀ b, vblk (.slice a uss.length cap) = some b → E b := by
  simp only [Own] at h
  obtain ⟨A, n', cap', hv, hn, hle, hmx, hb⟩ := h
  injection hv with e1 e2 e3
  subst e1 e2 e3
  have h0 : 0 < rows.length := List.length_pos_iff.2 hne
  obtain ⟨b, off, S', rfl, hEb, hbl, ⟨hfr, rfl, cur, ety, sz', hh, hcs, hz, hrs⟩, hS', hrows⟩ := hb (by omega)
  obtain ⟨uss, k1, k2⟩ := OwnRows.open hrows
  have hl := k1.len
  have hsz : sz' = sz := by
    obtain ⟨r, hr⟩ := List.exists_mem_of_ne_nil _ hne
    rw [← hrs r hr, (hrl r hr).1]
  subst hsz
  have hvb : vblk (.slice (some ⟨b, 0, none⟩) uss.length cap) = some b := by simp only [vblk]; rw [if_neg (by omega)]
  have hrow : rowsLen sz' (uss.map litRow) := fun x hx => by
    obtain ⟨us, hus, rfl⟩ := List.mem_map.1 hx
    obtain ⟨i, hi⟩ := List.getElem?_of_mem hus
    have hil := (List.getElem?_eq_some_iff.1 hi).1
    obtain ⟨r, hr⟩ : ∃ r, rows[i]? = some r := ⟨_, List.getElem?_eq_getElem (by omega)⟩
    have hov := k1.get hr hi
    have hrm := hrl r (List.mem_of_getElem? hr)
    exact ⟨by simp only [litRow, List.length_map]; rw [hov.len]; exact hrm.1, hov.cells hrm.2⟩
  refine ⟨uss, ety, S', by omega, ⟨hz, hrow, .inr ⟨b, cap, cur, by simp, by omega, hbl, hT b hEb, hh, by simp only [List.length_map]; omega, hmx, hcs, k2 T⟩⟩, k1, fun x hx => ⟨(hS' x hx).1, fun e => ?_⟩, fun x hx => ?_⟩
  · rw [hvb] at e; injection e with e; exact (hS' x hx).2 e.symm
  · rw [hvb] at hx; injection hx with hx; rw [← hx]; exact hEb
end
theorem apart_1 (x : Bk) : Apart [x] := ⟨by simp, trivial⟩
/-- Nothing, as the rows that a list without elements owns. -/
theorem re_none : Retold [] [.set (fun _ => False) (fun w => OwnVs w [] (fun _ => False) [])] := fun w S _ _ =>
  ⟨fun x hx => by simp at hx; subst hx; exact ⟨fun b h => h.elim, trivial, OwnVs.stable _ _ _⟩, apart_1 _, fun g ⟨x, hx, hg⟩ => by simp at hx; subst hx; exact hg.elim⟩
/-- Two sets become one. -/
theorem re_two {E E2 : Nat → Prop} {G G2 G' : World → Prop} (hG : ∀ w, G w → G2 w → (∀ b, E b → E2 b → False) → G' w) (hst : StableOn (fun b => E b ∨ E2 b) G') : Retold [.set E G, .set E2 G2] [.set (fun b => E b ∨ E2 b) G'] := fun w S h ha => by
  have h1 := h (.set E G) (by simp)
  have h2 := h (.set E2 G2) (by simp)
  refine ⟨fun x hx => ?_, apart_1 _, fun g ⟨x, hx, hg⟩ => ?_⟩
  · simp at hx; subst hx
    exact ⟨fun b hb => hb.elim (h1.1 b) (h2.1 b), hG w h1.2.1 h2.2.1 (fun b q1 q2 => ha.1 (.set E2 G2) (by simp) b q1 q2), hst⟩
  · simp at hx; subst hx
    rcases hg with hg | hg
    · exact ⟨.set E G, by simp, hg⟩
    · exact ⟨.set E2 G2, by simp, hg⟩
/-- What is said of a set is told otherwise. -/
theorem re_set {E : Nat → Prop} {G G' : World → Prop} (hG : ∀ w, G w → G' w) (hst : StableOn E G') : Retold [.set E G] [.set E G'] := fun w S h ha => by
  have h1 := h (.set E G) (by simp)
  refine ⟨fun x hx => ?_, apart_1 _, fun g ⟨x, hx, hg⟩ => ?_⟩
  · simp at hx; subst hx; exact ⟨h1.1, hG w h1.2.1, hst⟩
  · simp at hx; subst hx; exact ⟨.set E G, by simp, hg⟩
/-- A slice of rows, with what these own, becomes a tree. -/
theorem re_close {a : Option Addr} {cap ety sz : Nat} {uss : List (List Value)} {rows : List (List C)} {E : Nat → Prop} {G' : World → Prop} (hG : ∀ w, Own w (.sl rows) (fun b => vblk (.slice a uss.length cap) = some b ∨ E b) (.slice a uss.length cap) → G' w) (hst : StableOn (fun b => vblk (.slice a uss.length cap) = some b ∨ E b) G') :
    Retold [.buf (some (a, cap)) ety sz (uss.map litRow), .set E (fun w => OwnVs w rows E uss)] [.set (fun b => vblk (.slice a uss.length cap) = some b ∨ E b) G'] := fun w S h ha => by
  have h1 : BufRel w S ety sz (uss.map litRow) (.slice a (uss.map litRow).length cap) := h (.buf (some (a, cap)) ety sz (uss.map litRow)) (by simp)
  have h2 := h (.set E (fun w => OwnVs w rows E uss)) (by simp)
  have hd := ha.1 (.set E (fun w => OwnVs w rows E uss)) (by simp)
  rw [List.length_map] at h1
  simp only [pblk, List.length_map] at hd
  refine ⟨fun x hx => ?_, apart_1 _, fun g ⟨x, hx, hg⟩ => ?_⟩
  · simp at hx; subst hx
    refine ⟨fun b hb => ?_, hG w (Own.close h1 h2.2.1 hd), hst⟩
    rcases hb with hb | hb
    · exact Own1.lt (L := ⟨fun _ => 0, fun _ => .slice a uss.length cap⟩) (k := 0) (bk := .buf none ety sz (uss.map litRow)) ⟨by simp, h1⟩ hb
    · exact h2.1 b hb
  · simp at hx; subst hx
    rcases hg with hg | hg
    · exact ⟨.buf (some (a, cap)) ety sz (uss.map litRow), by simp, by simp only [pblk, List.length_map]; exact hg⟩
    · exact ⟨.set E (fun w => OwnVs w rows E uss), by simp, hg⟩
/-- A struct in memory of its own; rows in memory of their own. -/
def RTree (row : List C) (r : List D) (pm : List Bk) : Prop := ∃ us E, r = [.agg (litRow us)] ∧ us.length = row.length ∧ (litRow us).all okCell = true ∧ pm = [.set E (fun w => OwnVals w row E us)]
def RTrees (ety sz : Nat) (rows : List (List C)) (r : List D) (pm : List Bk) : Prop := ∃ a cap uss E, r = [.one (.lit (.slice a uss.length cap))] ∧ uss.length = rows.length ∧ pm = [.buf (some (a, cap)) ety sz (uss.map litRow), .set E (fun w => OwnVs w rows E uss)]
theorem RTree.mk {row : List C} {us : List Value} {E : Nat → Prop} (h : us.length = row.length) (hok : (litRow us).all okCell = true) : RTree row [.agg (litRow us)] [.set E (fun w => OwnVals w row E us)] := ⟨us, E, rfl, h, hok, rfl⟩
theorem RTrees.mk {ety sz : Nat} {rows : List (List C)} {a : Option Addr} {cap : Nat} {uss : List (List Value)} {E : Nat → Prop} (h : uss.length = rows.length) : RTrees ety sz rows [.one (.lit (.slice a uss.length cap))] [.buf (some (a, cap)) ety sz (uss.map litRow), .set E (fun w => OwnVs w rows E uss)] := ⟨a, cap, uss, E, rfl, h, rfl⟩
end Go.Proofs.Ytmpcbijkbgmjkaa

namespace Go.Proofs.Ytmpcbijkbgmjkaa
open Go.RowKit

theorem okC.cell : ∀ {f : F} {c : C}, okC f c → okCell c = true
  | .int, .lit v, h => by obtain ⟨n, rfl, _⟩ := h; rfl
  | .str, .lit v, h => by obtain ⟨n, rfl, _⟩ := h; rfl
  | .bool, .lit v, h => by obtain ⟨n, rfl⟩ := h; rfl
  | .sl t, .sl rows, h => rfl
  | .int, .sl _, h => False.elim h
  | .str, .sl _, h => False.elim h
  | .bool, .sl _, h => False.elim h
  | .sl _, .lit _, h => False.elim h
  | f, .ptr _, h => by cases f <;> exact False.elim h
  | f, .fn _ _, h => by cases f <;> exact False.elim h
theorem okRow.cells : ∀ {fs : List F} {cs : List C}, okRow fs cs → cs.all okCell = true
  | [], [], _ => rfl
  | f :: fs, c :: cs, h => by
    simp only [okRow] at h
    rw [List.all_cons, h.1.cell, okRow.cells h.2]
    rfl
  | [], _ :: _, h => by simp [okRow] at h
  | _ :: _, [], h => by simp [okRow] at h
theorem okRow.take {fs : List F} {cs : List C} (h : okRow fs cs) {n : Nat} (hn : fs.length = n) : cs.length = n ∧ cs.take n = cs ∧ cs.drop n = [] := by
  have := h.len
  refine ⟨by omega, ?_, ?_⟩
  · rw [List.take_of_length_le (by omega)]
  · rw [List.drop_eq_nil_of_le (by omega)]
theorem RepVals.inside' {w : World} {S : Nat → Prop} : ∀ {cs : List C} {us : List Value}, RepVals w S cs us → RepVals w (fun b => b < w.heap.size) cs us
  | [], [], _ => by simp [RepVals]
  | c :: cs, u :: us, h => by
    simp only [RepVals] at h ⊢
    exact ⟨(Rep.inside c u h.1).mono (fun b hb => hb.2), RepVals.inside' h.2⟩
  | [], _ :: _, h => by simp [RepVals] at h
  | _ :: _, [], h => by simp [RepVals] at h
theorem drop0 {α : Type} (l : List α) : l.drop 0 = l := rfl
end Go.Proofs.Ytmpcbijkbgmjkaa

namespace Go.Proofs.Ytmpcbijkbgmjkaa
open Go.RowKit
theorem okRow_Term {r : List C} (h : okRow (fieldsOf .term) r) : ∃ (i0 : Int) (t1 : ByteArray) (i2 : Int) (r3 : List (List C)), r = [.lit (.int .i64 i0), .lit (.string t1), .lit (.int .i64 i2), .sl r3] ∧ I64 i0 ∧ t1.size ≤ maxLen ∧ I64 i2 ∧ okRows (fieldsOf .term) r3 := by
  obtain ⟨c0, c1, c2, c3, rfl⟩ := len4 h.len
  simp only [fieldsOf, termF, occF, sortsF, sigF, moduleF, algF, List.cons_append, List.nil_append, okRow, and_true] at h
  obtain ⟨h0, h1, h2, h3⟩ := h
  obtain ⟨i0, rfl, g0⟩ := okC_int h0
  obtain ⟨t1, rfl, g1⟩ := okC_str h1
  obtain ⟨i2, rfl, g2⟩ := okC_int h2
  obtain ⟨r3, rfl, g3⟩ := okC_sl h3
  exact ⟨i0, t1, i2, r3, rfl, g0, g1, g2, g3⟩
theorem mkRow_Term {i0 : Int} {t1 : ByteArray} {i2 : Int} {r3 : List (List C)} (g0 : I64 i0) (g1 : t1.size ≤ maxLen) (g2 : I64 i2) (g3 : okRows (fieldsOf .term) r3) : okRow (fieldsOf .term) [.lit (.int .i64 i0), .lit (.string t1), .lit (.int .i64 i2), .sl r3] := by
  simp only [fieldsOf, termF, occF, sortsF, sigF, moduleF, algF, List.cons_append, List.nil_append, okRow, and_true]
  exact ⟨mk_int g0, mk_str g1, mk_int g2, mk_sl g3⟩
theorem repVals_Term {w : World} {S : Nat → Prop} {i0 : Int} {t1 : ByteArray} {i2 : Int} {r3 : List (List C)} {us : List Value} (h : RepVals w S [.lit (.int .i64 i0), .lit (.string t1), .lit (.int .i64 i2), .sl r3] us) : ∃ v3, us = [.int .i64 i0, .string t1, .int .i64 i2, v3] ∧ Rep w S (.sl r3) v3 := by
  obtain ⟨u0, u1, u2, u3, rfl⟩ := len4 h.len
  simp only [RepVals, Rep.lit_iff, and_true] at h
  obtain ⟨rfl, rfl, rfl, e3⟩ := h
  exact ⟨u3, rfl, e3⟩
theorem mkVals_Term {w : World} {S : Nat → Prop} {i0 : Int} {t1 : ByteArray} {i2 : Int} {r3 : List (List C)} {v3 : Value} (e3 : Rep w S (.sl r3) v3) : RepVals w S [.lit (.int .i64 i0), .lit (.string t1), .lit (.int .i64 i2), .sl r3] [.int .i64 i0, .string t1, .int .i64 i2, v3] := by
  simp only [RepVals, Rep.lit_iff, and_true, true_and]
  exact e3
def szTermC (row : List C) : Prop := ∀ (S : Nat → Prop) (us : List Value) (left : Int) (w : World), okRow (fieldsOf .term) row → RepVals w S row us → 0 ≤ left → left ≤ 1048576 →
  Calls Try.prog 7 #[.agg us.toArray, .int .i64 left] w fun e w' => e = .returned (.int .i64 (sub left (bulkRow row))) ∧ Below w.heap.size w w'
def eqTermC (row : List C) : Prop := ∀ (S S' : Nat → Prop) (us us' : List Value) (w : World), okRow (fieldsOf .term) row → RepVals w S row us → RepVals w S' row us' →
  Calls Try.prog 12 #[.agg us.toArray, .agg us'.toArray] w fun e w' => e = .returned (.bool true) ∧ Below w.heap.size w w'
def toTermC (row : List C) : Prop := ∀ (S : Nat → Prop) (us : List Value) (w : World), okRow (fieldsOf .term) row → RepVals w S row us → bulkRow row ≤ 1048576 →
  Calls Try.prog 9 #[.agg us.toArray] w fun e w' => ∃ us' : List Value, e = .returned (.agg us'.toArray) ∧ OwnVals w' row (fun x => w.heap.size ≤ x ∧ x < w'.heap.size) us' ∧ Below w.heap.size w w'
def szTermSC (rows : List (List C)) : Prop := ∀ (S : Nat → Prop) (v : Value) (left : Int) (w : World), okRows (fieldsOf .term) rows → Rep w S (.sl rows) v → 0 ≤ left → left ≤ 1048576 →
  Calls Try.prog 34 #[v, .int .i64 left] w fun e w' => e = .returned (.int .i64 (sub left (rows.length + bulkRows rows))) ∧ Below w.heap.size w w'
def eqTermSC (rows : List (List C)) : Prop := ∀ (S S' : Nat → Prop) (v v' : Value) (w : World), okRows (fieldsOf .term) rows → Rep w S (.sl rows) v → Rep w S' (.sl rows) v' →
  Calls Try.prog 39 #[v, v'] w fun e w' => e = .returned (.bool true) ∧ Below w.heap.size w w'
def toTermSC (rows : List (List C)) : Prop := ∀ (S : Nat → Prop) (v : Value) (w : World), okRows (fieldsOf .term) rows → Rep w S (.sl rows) v → rows.length + bulkRows rows ≤ 1048576 →
  Calls Try.prog 37 #[v] w fun e w' => ∃ v', e = .returned v' ∧ Own w' (.sl rows) (fun x => w.heap.size ≤ x ∧ x < w'.heap.size) v' ∧ Below w.heap.size w w'

set_option maxHeartbeats 1000000 in
theorem szTerm_of (row : List C) (h : ∀ (rows : List (List C)), nodesRows rows < nodesRow row → szTermSC rows) : szTermC row := by
  intro S us left w hok hv h0 h1
  obtain ⟨i0, t1, i2, r3, rfl, g0, g1, g2, g3⟩ := okRow_Term hok
  obtain ⟨v3, rfl, e3⟩ := repVals_Term hv
  have HC3 := Lib.hid (h r3 (by simp [nodesRow, nodesC]; omega))
  clear h
  have HB := Lib.hid (show bulkRow [.lit (.int .i64 i0), .lit (.string t1), .lit (.int .i64 i2), .sl r3] = t1.size + (r3.length + bulkRows r3) from by simp only [bulkRow, bulkC]; omega)
  have hs1 := g1
  unfold maxLen at hs1
  have G0 := Lib.hid g0
  have G1 := Lib.hid g1
  have G2 := Lib.hid g2
  have G3 := Lib.hid g3
  clear g0 g1 g2 g3 hok
  have E3 := Lib.hid e3
  clear hv e3
  generalize hrow : bulkRow [.lit (.int .i64 i0), .lit (.string t1), .lit (.int .i64 i2), .sl r3] = total at HB ⊢
  clear hrow
  have hbw := (Below.refl w.heap.size w).alloc (Nat.le_refl _) (.cells #[.int .i64 i0, .string t1, .int .i64 i2, v3] 24)
  by_cases q1 : left - (t1.size : Int) < 0
  · go_enter Try.func7, Try.ntmps7
    go_wp2
    go_ret
    exact ⟨ret_int (a := -1) (sub_neg (by have := HB.out; omega)).symm, hbw⟩
  go_enter Try.func7, Try.ntmps7
  go_wp2_with fail
  by_cases q3 : (left - (t1.size : Int)) < ((r3.length + bulkRows r3) : Nat)
  · refine (HC3.out S _ _ _ G3.out (E3.out.below hbw) (by omega) (by omega)).mono ?_
    rw [sub_neg (by omega)]
    rintro e w1 ⟨rfl, hb1⟩
    go_wp2
    go_ret
    exact ⟨ret_int (a := -1) (sub_neg (by have := HB.out; omega)).symm, hbw.trans (hb1.mono hbw.size)⟩
  refine (HC3.out S _ _ _ G3.out (E3.out.below hbw) (by omega) (by omega)).mono ?_
  rw [sub_pos (by omega)]
  rintro e w1 ⟨rfl, hb1⟩
  obtain ⟨hc1, hf1⟩ := bcell hb1
  have hz1 : w.heap.size < w1.heap.size := (by have := hb1.size; (try simp at this); omega)
  replace hbw := hbw.trans (hb1.mono hbw.size)
  go_wp2
  go_ret
  exact ⟨ret_int (by have := HB.out; rw [sub_pos (by omega)]; omega), hbw⟩

set_option maxHeartbeats 1000000 in
theorem eqTerm_of (row : List C) (h : ∀ (rows : List (List C)), nodesRows rows < nodesRow row → eqTermSC rows) : eqTermC row := by
  intro S S' us us' w hok hv hv'
  obtain ⟨i0, t1, i2, r3, rfl, g0, g1, g2, g3⟩ := okRow_Term hok
  obtain ⟨v3, rfl, e3⟩ := repVals_Term hv
  obtain ⟨x3, rfl, d3⟩ := repVals_Term hv'
  have HC3 := Lib.hid (h r3 (by simp [nodesRow, nodesC]; omega))
  clear h
  have G0 := Lib.hid g0
  have G1 := Lib.hid g1
  have G2 := Lib.hid g2
  have G3 := Lib.hid g3
  clear g0 g1 g2 g3 hok
  have E3 := Lib.hid e3
  have D3 := Lib.hid d3
  clear hv hv' e3 d3
  have hbw := ((Below.refl w.heap.size w).alloc (Nat.le_refl _) (.cells #[.int .i64 i0, .string t1, .int .i64 i2, v3] 29)).alloc (by simp) (.cells #[.int .i64 i0, .string t1, .int .i64 i2, x3] 29)
  go_enter Try.func12, Try.ntmps12
  go_wp2_with fail
  refine (HC3.out S S' _ _ _ G3.out (E3.out.below hbw) (D3.out.below hbw)).mono ?_
  rintro e w1 ⟨rfl, hb1⟩
  obtain ⟨hc1, hf1⟩ := bcell hb1
  have hz1 : w.heap.size + 1 < w1.heap.size := (by have := hb1.size; (try simp at this); omega)
  have ha1 : w.heap.size < w1.heap.size := by omega
  replace hbw := hbw.trans (hb1.mono hbw.size)
  go_wp2
  go_ret
  exact ⟨rfl, hbw⟩

set_option maxHeartbeats 2000000 in
theorem toTerm_of (row : List C) (h : ∀ (rows : List (List C)), nodesRows rows < nodesRow row → toTermSC rows) : toTermC row := by
  intro S us w hok hv hlen
  obtain ⟨i0, t1, i2, r3, rfl, g0, g1, g2, g3⟩ := okRow_Term hok
  obtain ⟨v3, rfl, e3⟩ := repVals_Term hv
  have HC3 := Lib.hid (h r3 (by simp [nodesRow, nodesC]; omega))
  clear h
  have G0 := Lib.hid g0
  have G1 := Lib.hid g1
  have G2 := Lib.hid g2
  have G3 := Lib.hid g3
  clear g0 g1 g2 g3 hok
  have E3 := Lib.hid e3
  clear hv e3
  have hl3 : (r3.length + bulkRows r3) ≤ 1048576 := by
    have e : (r3.length + bulkRows r3) ≤ bulkRow [.lit (.int .i64 i0), .lit (.string t1), .lit (.int .i64 i2), .sl r3] := by simp only [bulkRow, bulkC]; omega
    exact Nat.le_trans e hlen
  clear hlen
  go_enter Try.func9, Try.ntmps9
  go_wp2_with fail
  refine (HC3.out S _ _ G3.out (by exact E3.out.below (by repeat (first | refine Below.alloc ?_ (by simp; try omega) _ | exact Below.refl _ _))) hl3).mono ?_
  rintro e w1 ⟨y3, rfl, hown3, hb1⟩
  obtain ⟨A3, n3, cap3, rfl, _, _, _⟩ := (Own.rep _ _ _ hown3).form
  have hz1 := hb1.size
  simp at hz1 hown3
  have HOWN3 := Lib.hid hown3
  clear hown3
  have hbw1 : Below w.heap.size w w1 := Below.trans (by repeat (first | refine Below.alloc ?_ (by simp; try omega) _ | exact Below.refl _ _)) (hb1.mono (by simp; try omega))
  obtain ⟨hc1, hf1⟩ := bcell hb1
  have ha1 : w.heap.size < w1.heap.size := by omega
  have hbb1 : w.heap.size + 1 < w1.heap.size := by omega
  have hcc1 : w.heap.size + 1 + 1 < w1.heap.size := by omega
  go_wp2
  refine bodyPost_ret (v := .agg #[.int .i64 i0, .string t1, .int .i64 i2, .slice A3 n3 cap3]) (by simp [results, Try.results9, go_sem, hc1, ha1, hbb1, hcc1]) rfl ⟨[.int .i64 i0, .string t1, .int .i64 i2, .slice A3 n3 cap3], rfl, ?_, (by repeat (first | refine Below.setCell ?_ (by simp; try omega) _ | exact hbw1))⟩
  simp
  exact (OwnVals.lit (OwnVals.lit (OwnVals.lit (OwnVals.cons (fun x => w.heap.size + 1 + 1 + 1 ≤ x ∧ x < w1.heap.size) (fun x => w1.heap.size ≤ x ∧ x < w1.heap.size) (HOWN3.out.same (by repeat (first | refine Same.trans ?_ (Same.setCell _ _ _ _ (by simp; try omega)) | exact Same.refl _ _))) OwnVals.nil (fun x hx => ⟨by omega, by omega⟩) (fun x hx => ⟨by omega, by omega⟩) (fun x hx hy => by omega)))))

set_option maxHeartbeats 1000000 in
theorem szTermS_of (rows : List (List C)) (h : ∀ (i : Nat) r, rows[i]? = some r → szTermC r) : szTermSC rows := by
  intro S v left w hok hv h0 h1
  obtain ⟨A, m, cap, rfl, hm, hmc, hcm⟩ := hv.form
  have H := Lib.hid h
  have HV := Lib.hid hv
  have HM := Lib.hid hm
  have HOK := Lib.hid hok
  clear h hv hm hok
  unfold maxLen at hcm
  by_cases hlt : left - m < 0
  · rw [sub_neg (by have := HM.out; omega)]
    go_enter Try.func34, Try.ntmps34
    go_wp2
    go_ret
    exact ⟨rfl, Below.refl _ _⟩
  · go_enter Try.func34, Try.ntmps34
    go_wp2
    go_loopw [1, 5] (fun l i wr => ∃ k : Nat, k ≤ m ∧ i = .int .i64 k ∧ l = .int .i64 (left - m - (bulkRows (rows.take k) : Int)) ∧ 0 ≤ left - m - (bulkRows (rows.take k) : Int) ∧ Below w.heap.size w wr) (fun _ i _ => m - (intOf i).toNat)
    case atStart => exact ⟨0, Nat.zero_le _, rfl, by simp [bulkRows], by simp [bulkRows]; omega, Below.refl _ _⟩
    case round =>
      obtain ⟨k, hk, rfl, rfl, hl0, hb⟩ := hrel
      by_cases hkm : k < m
      · obtain ⟨b, off, r, rfl, hS, hbz, hget, hokr, hrow⟩ := (HV.out.below hb).get HOK.out hkm
        obtain ⟨u0, u1, u2, u3, c0, c1, c2, c3, hvals⟩ := hrow.vals4 hokr.len
        have HT := H.out k r hget
        have HVALS := Lib.hid hvals
        have HOKR := Lib.hid hokr
        have HBT := Lib.hid (bulk_take hget)
        have hle := bulk_take_le rows (k+1)
        clear hvals hokr hrow hget
        simp only [fieldsOf, termF, occF, sortsF, sigF, moduleF, algF, List.cons_append, List.nil_append, List.length_cons, List.length_nil, Nat.reduceAdd, Nat.mul_one] at c0 c1 c2 c3
        by_cases h2 : left - m - (bulkRows (rows.take k) : Int) < bulkRow r
        · go_wp2_with fail
          refine (HT S _ _ _ HOKR.out HVALS.out (by omega) (by omega)).mono ?_
          rw [sub_neg h2]
          rintro e w' ⟨rfl, hb2⟩
          go_wp2
          go_ret
          exact ⟨ret_int (a := -1) (sub_neg (by have := HBT.out; have := HM.out; omega)).symm, hb.trans (hb2.mono hb.size)⟩
        · go_wp2_with fail
          refine (HT S _ _ _ HOKR.out HVALS.out (by omega) (by omega)).mono ?_
          rw [sub_pos (by omega)]
          rintro e w' ⟨rfl, hb2⟩
          go_wp2
          go_roundw
          case rel => exact ⟨k + 1, by omega, by go_num, by have := HBT.out; congr 1; omega, by have := HBT.out; omega, hb.trans (hb2.mono hb.size)⟩
          case measure => simp [intOf]; omega
      · go_wp2
        go_ret
        have e : k = m := by omega
        subst e
        have : rows.take k = rows := List.take_of_length_le (by have := HM.out; omega)
        rw [this] at hl0 ⊢
        exact ⟨ret_int (by have := HM.out; rw [sub_pos (by omega)]; omega), hb⟩

set_option maxHeartbeats 1000000 in
theorem eqTermS_of (rows : List (List C)) (h : ∀ (i : Nat) r, rows[i]? = some r → eqTermC r) : eqTermSC rows := by
  intro S S' v v' w hok hv hv'
  obtain ⟨A, m, cap, rfl, hm, hmc, hcm⟩ := hv.form
  obtain ⟨A', m', cap', rfl, hm', hmc', hcm'⟩ := hv'.form
  obtain rfl : m = m' := by omega
  have H := Lib.hid h
  have HV := Lib.hid hv
  have HV' := Lib.hid hv'
  have HM := Lib.hid hm
  have HOK := Lib.hid hok
  clear h hv hm hok hm' hv'
  unfold maxLen at hcm hcm'
  go_enter Try.func39, Try.ntmps39
  go_wp2
  go_loopw [5] (fun i wr => ∃ k : Nat, k ≤ m ∧ i = .int .i64 k ∧ Below w.heap.size w wr) (fun i _ => m - (intOf i).toNat)
  case atStart => exact ⟨0, Nat.zero_le _, rfl, Below.refl _ _⟩
  case round =>
    obtain ⟨k, hk, rfl, hb⟩ := hrel
    by_cases hkm : k < m
    · obtain ⟨b, off, r, rfl, hS, hbz, hget, hokr, hrow⟩ := (HV.out.below hb).get HOK.out hkm
      obtain ⟨b', off', r', rfl, hS', hbz', hget', hokr', hrow'⟩ := (HV'.out.below hb).get HOK.out hkm
      obtain rfl : r = r' := by rw [hget] at hget'; exact Option.some.inj hget'
      obtain ⟨u0, u1, u2, u3, c0, c1, c2, c3, hvals⟩ := hrow.vals4 hokr.len
      obtain ⟨x0, x1, x2, x3, d0, d1, d2, d3, hvals'⟩ := hrow'.vals4 hokr.len
      have HT := H.out k r hget
      have HVALS := Lib.hid hvals
      have HVALS' := Lib.hid hvals'
      have HOKR := Lib.hid hokr
      clear hvals hvals' hokr hokr' hrow hrow' hget hget'
      simp only [fieldsOf, termF, occF, sortsF, sigF, moduleF, algF, List.cons_append, List.nil_append, List.length_cons, List.length_nil, Nat.reduceAdd, Nat.mul_one] at c0 c1 c2 c3 d0 d1 d2 d3
      have k0 : (0 : Int) ≤ (k : Int) := by omega
      have k1 : (k : Int) < (m : Int) := by omega
      go_wp2_with fail
      go_region_held3 (fun w' => ∀ b o, b < wr.heap.size → w'.cell? ⟨b, o, none⟩ = wr.cell? ⟨b, o, none⟩) (first | go_keep | exact fun b o h => hb2.cell (p := ⟨b, o, none⟩) h) (first | (go_at_call 12; refine (HT S S' _ _ _ HOKR.out (HVALS.out.below (Below.refl _ _).drew) (HVALS'.out.below (Below.refl _ _).drew)).mono ?_; rintro e w' ⟨rfl, hb2⟩))
      go_wp2
      go_roundw
      case rel => exact ⟨k + 1, by omega, by go_num, hb.trans ((Below.refl _ _).drew.trans (hb2.mono hb.size))⟩
      case measure => simp [intOf]; omega
    · go_wp2
      go_ret
      exact ⟨rfl, hb⟩
theorem info_Term : (Try.prog.info? 29).map (fun i => (i.zero, i.size, i.bytes)) = some (some (.agg #[.int .i64 0, .string .empty, .int .i64 0, .slice none 0 0]), 4, 56) := by kernel_rfl
set_option maxHeartbeats 1000000 in
theorem toTermS_of (rows : List (List C)) (h : ∀ (i : Nat) r, rows[i]? = some r → toTermC r) : toTermSC rows := by
  intro S v w hok hv hlen
  obtain ⟨A, m, cap, rfl, hm, hmc, hcm⟩ := hv.form
  obtain ⟨i0, hi, hz0, hz1, hz2⟩ := info_parts info_Term
  have H := Lib.hid h
  have HV := Lib.hid hv
  have HM := Lib.hid hm
  have HOK := Lib.hid hok
  have hml : m ≤ 1048576 := by omega
  clear h hv hm hok
  unfold maxLen at hcm
  have hmk := run_make (P := Try.prog) w 27 29 i0 _ Try.underlying27 hi hz0 .i64 .i64 (m : Int) (m : Int) (by omega) (by omega) (by rw [hz2]; omega) (by omega)
  go_enter Try.func37, Try.ntmps37
  go_wp2
  clear hmk
  go_loopw [4] (fun i wr => ∃ k : Nat, k ≤ m ∧ i = .int .i64 k ∧ Filling w w.heap.size 29 m 4 rows k wr) (fun i _ => m - (intOf i).toNat)
  case atStart => exact ⟨0, Nat.zero_le _, rfl, Filling.start (size_madeCells _ _)⟩
  case round =>
    obtain ⟨k, hk, rfl, hfill⟩ := hrel
    have hb := hfill.1
    by_cases hkm : k < m
    · obtain ⟨b, off, r, rfl, hS, hbz, hget, hokr, hrow⟩ := (HV.out.below hb).get HOK.out hkm
      obtain ⟨u0, u1, u2, u3, c0, c1, c2, c3, hvals⟩ := hrow.vals4 hokr.len
      have HT := H.out k r hget
      have HVALS := Lib.hid hvals
      have HOKR := Lib.hid hokr
      have HGET := Lib.hid hget
      have HF := Lib.hid hfill
      have hbg := bulk_get hget
      clear hvals hokr hrow hget hfill
      simp only [fieldsOf, termF, occF, sortsF, sigF, moduleF, algF, List.cons_append, List.nil_append, List.length_cons, List.length_nil, Nat.reduceAdd, Nat.mul_one] at c0 c1 c2 c3
      go_wp2_with fail
      refine (HT S _ _ HOKR.out HVALS.out (by omega)).mono ?_
      rintro e w2 ⟨us, rfl, hown, hb2⟩
      have hone := HOKR.out.one (OwnVals.rep _ _ (fun _ => True) _ (fun _ _ => trivial) hown)
      obtain ⟨y0, y1, y2, y3, rfl⟩ := len4 (hown.len.trans HOKR.out.len)
      have HOWN := Lib.hid hown
      have HONE := Lib.hid hone
      obtain ⟨cur, hcur, hcs⟩ := HF.out.row hb2
      have HCUR := Lib.hid hcur
      have HCS := Lib.hid hcs
      clear hown hone hcur hcs
      go_wp2_with (refine wpList_store_put rfl 29 _ _ rfl w.heap.size (k * 4) rfl [y0, y1, y2, y3] rfl i0 hi hz1 29 cur HCUR.out (by have := HCS.out; simp only [List.length_cons, List.length_nil]; omega) HONE.out ?_; intro w3 hput)
      go_roundw
      case rel => exact ⟨k + 1, by omega, by go_num, HF.out.step (fs := fieldsOf .term) HOK.out HGET.out hb2 HOWN.out hput⟩
      case measure => simp [intOf]; omega
    · go_wp2
      go_ret
      have e : k = m := by omega
      subst e
      exact ⟨_, rfl, hfill.done HM.out (by unfold maxLen; omega) (by decide) HOK.out.lens⟩
theorem szTermS_all (n : Nat) : ∀ rows, nodesRows rows < n → szTermSC rows := by
  induction n with
  | zero => intro rows h; omega
  | succ n ih => exact fun rows h => szTermS_of rows (fun i r hr => szTerm_of r (fun rows' h' => ih rows' (by have := nodes_get hr; omega)))
theorem szTermS_any (rows : List (List C)) : szTermSC rows := szTermS_all _ rows (Nat.lt_succ_self _)
theorem szTerm_any (row : List C) : szTermC row := szTerm_of row (fun rows _ => szTermS_any rows)
theorem eqTermS_all (n : Nat) : ∀ rows, nodesRows rows < n → eqTermSC rows := by
  induction n with
  | zero => intro rows h; omega
  | succ n ih => exact fun rows h => eqTermS_of rows (fun i r hr => eqTerm_of r (fun rows' h' => ih rows' (by have := nodes_get hr; omega)))
theorem eqTermS_any (rows : List (List C)) : eqTermSC rows := eqTermS_all _ rows (Nat.lt_succ_self _)
theorem eqTerm_any (row : List C) : eqTermC row := eqTerm_of row (fun rows _ => eqTermS_any rows)
theorem toTermS_all (n : Nat) : ∀ rows, nodesRows rows < n → toTermSC rows := by
  induction n with
  | zero => intro rows h; omega
  | succ n ih => exact fun rows h => toTermS_of rows (fun i r hr => toTerm_of r (fun rows' h' => ih rows' (by have := nodes_get hr; omega)))
theorem toTermS_any (rows : List (List C)) : toTermSC rows := toTermS_all _ rows (Nat.lt_succ_self _)
theorem toTerm_any (row : List C) : toTermC row := toTerm_of row (fun rows _ => toTermS_any rows)
end Go.Proofs.Ytmpcbijkbgmjkaa

namespace Go.Proofs.Ytmpcbijkbgmjkaa
open Go.RowKit

inductive Tm where
  | mk (op : Int) (name : ByteArray) (sort : Int) (args : List Tm)
def Tm.args : Tm → List Tm | .mk _ _ _ a => a
def Tm.op : Tm → Int | .mk a _ _ _ => a
def Tm.name : Tm → ByteArray | .mk _ a _ _ => a
def Tm.sort : Tm → Int | .mk _ _ a _ => a
mutual
def encTm : Tm → List C
  | .mk op nm so args => [.lit (.int .i64 op), .lit (.string nm), .lit (.int .i64 so), .sl (encTms args)]
def encTms : List Tm → List (List C)
  | [] => []
  | t :: ts => encTm t :: encTms ts
end
mutual
def okTm : Tm → Prop
  | .mk op nm so args => I64 op ∧ nm.size ≤ maxLen ∧ I64 so ∧ okTms args
def okTms : List Tm → Prop
  | [] => True
  | t :: ts => okTm t ∧ okTms ts
end
theorem encTms_eq (ts : List Tm) : encTms ts = ts.map encTm := by
  induction ts with
  | nil => simp [encTms]
  | cons t ts ih => simp [encTms, ih]
theorem encTms_len (ts : List Tm) : (encTms ts).length = ts.length := by simp [encTms_eq]
theorem encTms_get (ts : List Tm) (i : Nat) : (encTms ts)[i]? = ts[i]?.map encTm := by simp [encTms_eq]
mutual
theorem okRow_enc : ∀ (t : Tm), okTm t → okRow (fieldsOf .term) (encTm t)
  | .mk op nm so args, h => by
    simp only [okTm] at h
    simp only [encTm]
    exact mkRow_Term h.1 h.2.1 h.2.2.1 (okRows_enc args h.2.2.2)
theorem okRows_enc : ∀ (ts : List Tm), okTms ts → okRows (fieldsOf .term) (encTms ts)
  | [], _ => by simp [encTms, okRows]
  | t :: ts, h => by
    simp only [okTms] at h
    simp only [encTms, okRows]
    exact ⟨okRow_enc t h.1, okRows_enc ts h.2⟩
end
theorem dec_both (n : Nat) : (∀ row, nodesRow row < n → okRow (fieldsOf .term) row → ∃ t, row = encTm t ∧ okTm t) ∧ (∀ rows, nodesRows rows < n → okRows (fieldsOf .term) rows → ∃ ts, rows = encTms ts ∧ okTms ts) := by
  induction n with
  | zero => exact ⟨fun _ h => by omega, fun _ h => by omega⟩
  | succ n ih =>
    have h1 : ∀ row, nodesRow row < n + 1 → okRow (fieldsOf .term) row → ∃ t, row = encTm t ∧ okTm t := by
      intro row hn hok
      obtain ⟨i0, t1, i2, r3, rfl, g0, g1, g2, g3⟩ := okRow_Term hok
      obtain ⟨ts, rfl, hts⟩ := ih.2 r3 (by simp only [nodesRow, nodesC] at hn; omega) g3
      exact ⟨.mk i0 t1 i2 ts, by simp [encTm], by simp only [okTm]; exact ⟨g0, g1, g2, hts⟩⟩
    refine ⟨h1, fun rows => ?_⟩
    induction rows with
    | nil => exact fun _ _ => ⟨[], by simp [encTms], by simp [okTms]⟩
    | cons r rs ihr =>
      intro hn hok
      simp only [nodesRows] at hn
      simp only [okRows] at hok
      obtain ⟨t, rfl, ht⟩ := h1 r (by omega) hok.1
      obtain ⟨ts, rfl, hts⟩ := ihr (by omega) hok.2
      exact ⟨t :: ts, by simp [encTms], by simp only [okTms]; exact ⟨ht, hts⟩⟩
theorem decTm {row : List C} (h : okRow (fieldsOf .term) row) : ∃ t, row = encTm t ∧ okTm t := (dec_both _).1 row (Nat.lt_succ_self _) h
theorem decTms {rows : List (List C)} (h : okRows (fieldsOf .term) rows) : ∃ ts, rows = encTms ts ∧ okTms ts := (dec_both _).2 rows (Nat.lt_succ_self _) h
theorem okTms.mem : ∀ {ts : List Tm} {t : Tm}, okTms ts → t ∈ ts → okTm t
  | [], _, _, h => by simp at h
  | x :: xs, t, h, ht => by
    simp only [okTms] at h
    rcases List.mem_cons.1 ht with rfl | ht
    · exact h.1
    · exact okTms.mem h.2 ht

/-! The order of terms. -/
def cmpInt (a b : Int) : Int := if a < b then -1 else if b < a then 1 else 0
def cmpStr (a b : ByteArray) : Int := Lib.compareBytes a.data.toList b.data.toList
def firstNZ : List Int → Int
  | [] => 0
  | x :: xs => if x = 0 then firstNZ xs else x
mutual
def cmpTm : Tm → Tm → Int
  | .mk o n s a, .mk o' n' s' a' => firstNZ [cmpInt o o', cmpStr n n', cmpInt s s', cmpTms a a']
def cmpTms : List Tm → List Tm → Int
  | [], [] => 0
  | [], _ :: _ => -1
  | _ :: _, [] => 1
  | x :: xs, y :: ys => firstNZ [cmpTm x y, cmpTms xs ys]
end
theorem compareBytes_self : ∀ (l : List UInt8), Lib.compareBytes l l = 0
  | [] => rfl
  | x :: xs => by simp [Lib.compareBytes, compareBytes_self xs]
theorem compareBytes_zero : ∀ {l m : List UInt8}, Lib.compareBytes l m = 0 → l = m
  | [], [], _ => rfl
  | [], _ :: _, h => by simp [Lib.compareBytes] at h
  | _ :: _, [], h => by simp [Lib.compareBytes] at h
  | x :: xs, y :: ys, h => by
    simp only [Lib.compareBytes] at h
    split at h
    · simp at h
    · split at h
      · simp at h
      · rename_i h1 h2
        have e : x = y := UInt8.le_antisymm (UInt8.not_lt.1 h2) (UInt8.not_lt.1 h1)
        rw [e, compareBytes_zero h]
theorem compareBytes_less : ∀ (l m : List UInt8), Op.bytesLess l m = decide (Lib.compareBytes l m = -1)
  | [], [] => by simp [Op.bytesLess, Lib.compareBytes]
  | [], _ :: _ => by simp [Op.bytesLess, Lib.compareBytes]
  | _ :: _, [] => by simp [Op.bytesLess, Lib.compareBytes]
  | x :: xs, y :: ys => by
    have ih := compareBytes_less xs ys
    simp only [Op.bytesLess, Lib.compareBytes, ih]
    by_cases h1 : x < y
    · simp [h1]
    · by_cases h2 : y < x
      · have : ¬ x = y := fun e => by subst e; exact h1 h2
        simp [h1, h2, this]
      · have e : x = y := UInt8.le_antisymm (UInt8.not_lt.1 h2) (UInt8.not_lt.1 h1)
        subst e
        simp [h1]
theorem compareBytes_range : ∀ (l m : List UInt8), Lib.compareBytes l m = -1 ∨ Lib.compareBytes l m = 0 ∨ Lib.compareBytes l m = 1
  | [], [] => by simp [Lib.compareBytes]
  | [], _ :: _ => by simp [Lib.compareBytes]
  | _ :: _, [] => by simp [Lib.compareBytes]
  | x :: xs, y :: ys => by
    have ih := compareBytes_range xs ys
    simp only [Lib.compareBytes]
    split
    · simp
    · split
      · simp
      · exact ih
theorem cmpInt_range (a b : Int) : cmpInt a b = -1 ∨ cmpInt a b = 0 ∨ cmpInt a b = 1 := by unfold cmpInt; split <;> (try split) <;> simp
theorem cmpInt_zero {a b : Int} : cmpInt a b = 0 ↔ a = b := by unfold cmpInt; split <;> (try split) <;> simp <;> omega
theorem cmpStr_zero {a b : ByteArray} : cmpStr a b = 0 ↔ a = b := by
  constructor
  · intro h
    have := compareBytes_zero h
    obtain ⟨⟨la⟩⟩ := a
    obtain ⟨⟨lb⟩⟩ := b
    simp at this
    rw [this]
  · rintro rfl
    exact compareBytes_self _
theorem cmpStr_range (a b : ByteArray) : cmpStr a b = -1 ∨ cmpStr a b = 0 ∨ cmpStr a b = 1 := compareBytes_range _ _
def In3 (c : Int) : Prop := c = -1 ∨ c = 0 ∨ c = 1
theorem firstNZ_range : ∀ {l : List Int}, (∀ c ∈ l, In3 c) → In3 (firstNZ l)
  | [], _ => .inr (.inl rfl)
  | x :: xs, h => by
    simp only [firstNZ]
    split
    · exact firstNZ_range (fun c hc => h c (by simp [hc]))
    · exact h x (by simp)
mutual
theorem cmpTm_range : ∀ (a b : Tm), In3 (cmpTm a b)
  | .mk o n s a, .mk o' n' s' a' => by
    simp only [cmpTm]
    refine firstNZ_range (fun c hc => ?_)
    simp only [List.mem_cons, List.not_mem_nil, or_false] at hc
    rcases hc with rfl | rfl | rfl | rfl
    · exact cmpInt_range _ _
    · exact cmpStr_range _ _
    · exact cmpInt_range _ _
    · exact cmpTms_range a a'
theorem cmpTms_range : ∀ (a b : List Tm), In3 (cmpTms a b)
  | [], [] => .inr (.inl (by simp [cmpTms]))
  | [], _ :: _ => .inl (by simp [cmpTms])
  | _ :: _, [] => .inr (.inr (by simp [cmpTms]))
  | x :: xs, y :: ys => by
    simp only [cmpTms]
    refine firstNZ_range (fun c hc => ?_)
    simp only [List.mem_cons, List.not_mem_nil, or_false] at hc
    rcases hc with rfl | rfl
    · exact cmpTm_range x y
    · exact cmpTms_range xs ys
end
/-- The two lists agree in their first k elements. -/
theorem cmpTms_step : ∀ {ps qs : List Tm} {k : Nat} {x y : Tm}, ps[k]? = some x → qs[k]? = some y → cmpTms (ps.drop k) (qs.drop k) = firstNZ [cmpTm x y, cmpTms (ps.drop (k + 1)) (qs.drop (k + 1))] := by
  intro ps qs k x y h1 h2
  have e1 : ps.drop k = x :: ps.drop (k + 1) := by
    obtain ⟨hl, hx⟩ := List.getElem?_eq_some_iff.1 h1
    rw [← hx]; exact List.drop_eq_getElem_cons hl
  have e2 : qs.drop k = y :: qs.drop (k + 1) := by
    obtain ⟨hl, hx⟩ := List.getElem?_eq_some_iff.1 h2
    rw [← hx]; exact List.drop_eq_getElem_cons hl
  rw [e1, e2, cmpTms]
end Go.Proofs.Ytmpcbijkbgmjkaa

namespace Go.Proofs.Ytmpcbijkbgmjkaa
open Go.RowKit

theorem tm_len (t : Tm) : (encTm t).length = 4 := by cases t; rfl
theorem tm_take (t : Tm) : (encTm t).take 4 = encTm t := by cases t; rfl
theorem tm_drop (t : Tm) : (encTm t).drop 4 = [] := by cases t; rfl
theorem tm_ok (t : Tm) : (encTm t).all okCell = true := by cases t; rfl
theorem rb_tm (ts : List Tm) : rowsB 4 (encTms ts) = true := by
  rw [encTms_eq]
  exact rowsB_map (e := encTm) (n := 4) (fun t => by rw [tm_len, tm_ok]; rfl) ts
theorem tm_v0 (t : Tm) : valT .one (encTm t) = some (.d (.one (.lit (.int .i64 t.op)))) := by cases t; rfl
theorem tm_d1 (t : Tm) : (encTm t).drop 1 = [.lit (.string t.name), .lit (.int .i64 t.sort), .sl (encTms t.args)] := by cases t; rfl
theorem tm_d2 (t : Tm) : (encTm t).drop 2 = [.lit (.int .i64 t.sort), .sl (encTms t.args)] := by cases t; rfl
theorem tm_d3 (t : Tm) : (encTm t).drop 3 = [.sl (encTms t.args)] := by cases t; rfl
theorem tmz : type_of% (And.intro tm_v0 (And.intro tm_d1 (And.intro tm_d2 (And.intro tm_d3 (And.intro tm_len (And.intro tm_take (And.intro tm_drop (And.intro tm_ok (And.intro rb_tm (And.intro encTms_get (And.intro encTms_len @drop0))))))))))) := (And.intro tm_v0 (And.intro tm_d1 (And.intro tm_d2 (And.intro tm_d3 (And.intro tm_len (And.intro tm_take (And.intro tm_drop (And.intro tm_ok (And.intro rb_tm (And.intro encTms_get (And.intro encTms_len @drop0)))))))))))
end Go.Proofs.Ytmpcbijkbgmjkaa

namespace Go.Proofs.Ytmpcbijkbgmjkaa
open Go.RowKit

theorem okc4 {u0 u1 u2 u3 : Value} (h : (litRow [u0, u1, u2, u3]).all okCell = true) : okCell (.lit u0) = true ∧ okCell (.lit u1) = true ∧ okCell (.lit u2) = true ∧ okCell (.lit u3) = true := by
  simpa [litRow, Bool.and_eq_true, and_assoc] using h
theorem encTms_nil : encTms [] = [] := by simp [encTms]
theorem encTms_snoc (ts : List Tm) {i : Nat} {t : Tm} (h : ts[i]? = some t) : encTms (ts.take (i + 1)) = encTms (ts.take i) ++ [encTm t] := by
  simp only [encTms_eq, List.take_add_one, h, Option.toList, List.map_append, List.map_cons, List.map_nil]
theorem litRow4 (u0 u1 u2 u3 : Value) : litRow [u0, u1, u2, u3] = [.lit u0, .lit u1, .lit u2, .lit u3] := rfl
theorem len_lits (uss : List (List Value)) : (uss.map litRow).length = uss.length := List.length_map ..
def tmsB (ts : List Tm) : Prop := ts.length + bulkRows (encTms ts) ≤ 1048576
set_option maxHeartbeats 4000000 in
theorem con_copyTerms_of (ts : List Tm) (hB : tmsB ts) (h : ∀ t ∈ ts, ConP e0 38 [.agg (encTm t)] [] (RTree (encTm t))) : ConP e0 70 [.one (.sl (encTms ts))] [] (RTrees 29 4 (encTms ts)) := by
  have hl : ts.length ≤ 1048576 := Nat.le_trans (Nat.le_add_right _ _) hB
  refine gIP (ts := [.slot 2]) [] 1005 Try.func70 ?_
  (have F := @e0P; refine gG ?_; clear F)
  refine pE [] [1000] re_none ?_
  (have F := And.intro @encTms_len @encTms_nil; refine gL (ι := Nat × List (List Value) × (Nat → Prop)) [3, 5, 8, 9] [3, 1000] (fun x => [(8, .d (.one (.lit (.int .i64 (x.1 : Int))))), (3, .buf 3)]) (fun x => [(3, .buf none 29 4 (x.2.1.map litRow)), (1000, .set x.2.2 (fun w => OwnVs w (encTms (ts.take x.1)) x.2.2 x.2.1))]) (fun x => x.1 ≤ ts.length ∧ x.2.1.length = x.1) (fun x => ts.length - x.1) ((0, [], fun _ => False)) (⟨Nat.zero_le _, rfl⟩) (fun x hx => ?_); clear F)
  obtain ⟨i, uss, E⟩ := x
  obtain ⟨hi, hn⟩ := hx
  simp only at hi hn
  by_cases hlt : i < ts.length
  · have hg : ts[i]? = some ts[i] := List.getElem?_eq_getElem hlt
    have hc := h ts[i] (List.getElem_mem hlt)
    generalize ts[i] = t at hg hc
    have q1 : ((i : Int) < (ts.length : Int)) = True := eq_true (by omega)
    (have F := And.intro @encTms_len (And.intro @encTms_get (And.intro @q1 (And.intro @hg @tmz))); refine gG ?_; clear F)
    refine gB ?_
    (have F := @tmz; refine gCP [] [1001] (hc) ?_; clear F)
    rintro r pm ⟨us, E2, rfl, hu, hok, rfl⟩
    rw [tm_len] at hu
    obtain ⟨u0, u1, u2, u3, rfl⟩ := len4 hu
    obtain ⟨k0, k1, k2, k3⟩ := okc4 hok
    have q3 : IntKind.i64.wrap ((i : Int) + 1) = (i : Int) + 1 := IntWalk.i64_in _ (by omega)
    have q2 : i + 1 ≤ maxApp := by unfold maxApp; omega
    simp only [litRow4, setA, retA, zipM, List.cons_append, List.nil_append]
    (have F := And.intro @litRow4 (And.intro @len_lits (And.intro @hn (And.intro @q2 (And.intro @k0 (And.intro @k1 (And.intro @k2 @k3)))))); refine gR ?_; clear F)
    refine pE [1000, 1001] [1000] (re_two (G' := fun w => OwnVs w (encTms (ts.take (i + 1))) (fun b => E b ∨ E2 b) (uss ++ [[u0, u1, u2, u3]])) (fun w h1 h2 hd => ?_) (OwnVs.stable _ _ _)) ?_
    · rw [encTms_snoc ts hg]; exact OwnVs.snoc h1 h2 (fun _ h => .inl h) (fun _ h => .inr h) hd
    (have F := And.intro @litRow4 (And.intro @q3 (And.intro @encTms_len ((@List.map_append.{0,0})))); refine gG ?_; exact ⟨(i + 1, uss ++ [[u0, u1, u2, u3]], fun b => E b ∨ E2 b), ⟨hlt, by simp [hn]⟩, gw, gw, by omega⟩)
  · obtain rfl : i = ts.length := by omega
    have q1 : ((ts.length : Int) < (ts.length : Int)) = False := eq_false (by omega)
    (have F := And.intro @encTms_len @q1; refine gG ?_; clear F)
    rw [List.take_length]
    refine pS 2 fun a cap => ?_
    refine gTP [2, 1000] (RTrees.mk (by rw [hn, encTms_len]))
theorem own_tm {w : World} {op so : Int} {nm : ByteArray} {args : List Tm} {E : Nat → Prop} {v : Value} (h : Own w (.sl (encTms args)) E v) : OwnVals w (encTm (.mk op nm so args)) E [.int .i64 op, .string nm, .int .i64 so, v] := by
  simp only [encTm, OwnVals]
  refine ⟨fun _ => False, E, fun _ h => h.elim, fun _ h => h, fun _ h _ => h, by simp [Own], fun _ => False, E, fun _ h => h.elim, fun _ h => h, fun _ h _ => h, by simp [Own], fun _ => False, E, fun _ h => h.elim, fun _ h => h, fun _ h _ => h, by simp [Own], E, fun _ => False, fun _ h => h, fun _ h => h.elim, fun _ _ h => h, h, trivial⟩
set_option maxHeartbeats 4000000 in
theorem con_copyTerm_of (t : Tm) (h : ConP e0 70 [.one (.sl (encTms t.args))] [] (RTrees 29 4 (encTms t.args))) : ConP e0 38 [.agg (encTm t)] [] (RTree (encTm t)) := by
  obtain ⟨op, nm, so, args⟩ := t
  have hc : encTm (.mk op nm so args) = [.lit (.int .i64 op), .lit (.string nm), .lit (.int .i64 so), .sl (encTms args)] := by simp only [encTm]
  simp only [Tm.args] at h
  refine gIP (ts := [.cell 2 29]) [] 7 Try.func38 ?_
  (have F := @hc; refine gG ?_; clear F)
  refine gB ?_
  (have F := @hc; refine gCP [] [1000, 1001] (h) ?_; clear F)
  rintro r pm ⟨a, cap, uss, E, rfl, hu, rfl⟩
  simp only [setA, retA, zipM, List.cons_append, List.nil_append]
  (have F := @hc; refine gR ?_; clear F)
  (have F := @hc; refine gG ?_; clear F)
  refine pE [1000, 1001] [1000] (re_close (G' := fun w => OwnVals w (encTm (.mk op nm so args)) (fun b => vblk (.slice a uss.length cap) = some b ∨ E b) [.int .i64 op, .string nm, .int .i64 so, .slice a uss.length cap]) (fun w h => own_tm h) (OwnVals.stable _ _ _)) ?_
  have hm := RTree.mk (row := encTm (.mk op nm so args)) (us := [.int .i64 op, .string nm, .int .i64 so, .slice a uss.length cap]) (E := fun b => vblk (.slice a uss.length cap) = some b ∨ E b) (by rw [hc]; rfl) rfl
  rw [litRow4] at hm
  exact (have F := hc; gTP [1000] hm)
theorem con_copy (n : Nat) : (∀ t : Tm, nodesRow (encTm t) < n → bulkRow (encTm t) ≤ 1048576 → ConP e0 38 [.agg (encTm t)] [] (RTree (encTm t))) := by
  induction n with
  | zero => exact fun _ h => by omega
  | succ n ih =>
    intro t hn hb
    obtain ⟨op, nm, so, args⟩ := t
    simp only [encTm, nodesRow, nodesC, bulkRow, bulkC] at hn hb
    refine con_copyTerm_of _ (con_copyTerms_of args (by unfold tmsB; have := encTms_len args; omega) fun a ha => ?_)
    obtain ⟨i, hi⟩ := List.getElem?_of_mem ha
    have hi' : (encTms args)[i]? = some (encTm a) := by rw [encTms_get, hi]; rfl
    have h1 := nodes_get hi'
    have h2 := bulk_get hi'
    exact ih a (by omega) (by omega)
theorem con_copyTerm (t : Tm) (hb : bulkRow (encTm t) ≤ 1048576) : ConP e0 38 [.agg (encTm t)] [] (RTree (encTm t)) := con_copy _ t (Nat.lt_succ_self _) hb
end Go.Proofs.Ytmpcbijkbgmjkaa

namespace Go.Proofs.Ytmpcbijkbgmjkaa
open Go.RowKit

def zTm : Tm := .mk 0 ByteArray.empty 0 []
def subAt : Tm → List Int → Tm × Bool
  | t, [] => (t, true)
  | t, p :: ps => if p < 0 then (zTm, false) else match t.args[p.toNat]? with
    | some a => subAt a ps
    | none => (zTm, false)
/-- A term in memory of its own, and a flag. -/
def RTreeB (x : Tm × Bool) (r : List D) (pm : List Bk) : Prop := ∃ us E, r = [.agg (litRow us), .one (.lit (.bool x.2))] ∧ us.length = 4 ∧ (litRow us).all okCell = true ∧ pm = [.set E (fun w => OwnVals w (encTm x.1) E us)]
theorem RTreeB.mk {x : Tm × Bool} {b : Bool} {u0 u1 u2 u3 : Value} {E : Nat → Prop} (hok : (litRow [u0, u1, u2, u3]).all okCell = true) (hb : b = x.2) : RTreeB x [.agg [.lit u0, .lit u1, .lit u2, .lit u3], .one (.lit (.bool b))] [.set E (fun w => OwnVals w (encTm x.1) E [u0, u1, u2, u3])] := ⟨[u0, u1, u2, u3], E, by rw [hb]; rfl, rfl, hok, rfl⟩
theorem own_nil {w : World} {E : Nat → Prop} : Own w (.sl []) E (.slice none 0 0) := by
  simp only [Own]
  exact ⟨none, 0, 0, rfl, rfl, Nat.le_refl _, by decide, fun h => absurd h (by decide)⟩
theorem re_zTm : Retold [] [.set (fun _ => False) (fun w => OwnVals w (encTm zTm) (fun _ => False) [.int .i64 0, .string ByteArray.empty, .int .i64 0, .slice none 0 0])] := fun w S _ _ =>
  ⟨fun x hx => by simp at hx; subst hx; exact ⟨fun b h => h.elim, own_tm (args := []) (by simp only [encTms]; exact own_nil), OwnVals.stable _ _ _⟩, apart_1 _, fun g ⟨x, hx, hg⟩ => by simp at hx; subst hx; exact hg.elim⟩
theorem subAt_drop {t : Tm} {ps : List Int} {i : Nat} {p : Int} (h : ps[i]? = some p) : subAt t (ps.drop i) = if p < 0 then (zTm, false) else match t.args[p.toNat]? with
    | some a => subAt a (ps.drop (i + 1))
    | none => (zTm, false) := by
  obtain ⟨hl, rfl⟩ := List.getElem?_eq_some_iff.1 h
  rw [List.drop_eq_getElem_cons hl, subAt]
theorem zTm_u : encTm zTm = [.lit (.int .i64 0), .lit (.string ByteArray.empty), .lit (.int .i64 0), .sl []] := by simp [zTm, encTm, encTms]
theorem bulk_arg {a b : Tm} {i : Nat} (h : a.args[i]? = some b) : bulkRow (encTm b) ≤ bulkRow (encTm a) := by
  obtain ⟨op, nm, so, args⟩ := a
  have hi' : (encTms args)[i]? = some (encTm b) := by rw [encTms_get]; simp only [Tm.args] at h; rw [h]; rfl
  have h2 := bulk_get hi'
  simp only [encTm, bulkRow, bulkC]
  omega
set_option maxHeartbeats 4000000 in
theorem con_implAt (t : Tm) (ps : List Int) (hl : ps.length ≤ 1048576) (hb : bulkRow (encTm t) ≤ 1048576) : ConP e0 11 [.agg (encTm t), .one (.sl (ps.map encInt))] [] (RTreeB (subAt t ps)) := by
  refine gIP (ts := [.cell 4 29, .slot 5]) [] 4198327 Try.func11 ?_
  (have F := @tmz; refine gG ?_; clear F)
  (have F := @tmz; refine gL (ι := Nat × Tm) [5, 7, 10, 11, 22] [2] (fun x => [(10, .d (.one (.lit (.int .i64 (x.1 : Int)))))]) (fun x => [(2, .var none (encTm x.2))]) (fun x => x.1 ≤ ps.length ∧ subAt t ps = subAt x.2 (ps.drop x.1) ∧ bulkRow (encTm x.2) ≤ 1048576) (fun x => ps.length - x.1) ((0, t)) (⟨Nat.zero_le _, rfl, hb⟩) (fun x hx => ?_); clear F)
  obtain ⟨i, a⟩ := x
  obtain ⟨hi, hs, ha⟩ := hx
  simp only at hi hs ha
  rw [hs]
  clear hs
  by_cases hlt : i < ps.length
  · obtain ⟨p, hp⟩ : ∃ p, ps[i]? = some p := ⟨_, List.getElem?_eq_getElem hlt⟩
    have q1 : ((i : Int) < (ps.length : Int)) = True := eq_true (by omega)
    rw [subAt_drop hp]
    by_cases hp0 : p < 0
    · have q2 : (p < 0) = True := eq_true hp0
      rw [if_pos hp0]
      (have F := And.intro @q1 (And.intro @hp (And.intro @encInt_u @q2)); have NN : StopAt 5 := trivial; refine gGn ?_; clear F NN)
      refine gB ?_
      refine gX ?_
      (have F := @e0P; refine gR ?_; clear F)
      (have F := @tmz; refine gG ?_; clear F)
      refine pE [] [1001] re_zTm ?_
      exact (have F := @e0P; gTP [1001] (RTreeB.mk (x := (zTm, false)) rfl rfl))
    · have q2 : (p < 0) = False := eq_false hp0
      rw [if_neg hp0]
      cases hg : a.args[p.toNat]? with
      | none =>
        have hle := List.getElem?_eq_none_iff.1 hg
        have q3 : (p ≥ (a.args.length : Int)) = True := eq_true (by omega)
        (have F := And.intro @q1 (And.intro @hp (And.intro @encInt_u (And.intro @q2 (And.intro @tmz @q3)))); have NN : StopAt 5 := trivial; refine gGn ?_; clear F NN)
        refine gB ?_
        refine gX ?_
        (have F := @e0P; refine gR ?_; clear F)
        (have F := @tmz; refine gG ?_; clear F)
        refine pE [] [1001] re_zTm ?_
        exact (have F := @e0P; gTP [1001] (RTreeB.mk (x := (zTm, false)) rfl rfl))
      | some b =>
        have hlt2 := (List.getElem?_eq_some_iff.1 hg).1
        have q3 : (p ≥ (a.args.length : Int)) = False := eq_false (by omega)
        have q5 : (0 ≤ p) = True := eq_true (by omega)
        (have F := And.intro @q1 (And.intro @hp (And.intro @encInt_u (And.intro @q2 (And.intro @tmz (And.intro @q3 (And.intro @hg @q5)))))); refine gG ?_; clear F)
        have hbb : bulkRow (encTm b) ≤ 1048576 := Nat.le_trans (bulk_arg hg) ha
        have q4 : IntKind.i64.wrap ((i : Int) + 1) = (i : Int) + 1 := IntWalk.i64_in _ (by omega)
        (have F := @q4; refine gG ?_; exact ⟨(i + 1, b), ⟨hlt, rfl, hbb⟩, gw, gw, by omega⟩)
  · obtain rfl : i = ps.length := by omega
    have q1 : ((ps.length : Int) < (ps.length : Int)) = False := eq_false (by omega)
    rw [List.drop_length, subAt]
    (have F := @q1; refine gG ?_; clear F)
    refine gB ?_
    (have F := @tmz; refine gCP [] [1001] (con_copyTerm a ha) ?_; clear F)
    rintro r pm ⟨us, E2, rfl, hu, hok, rfl⟩
    rw [tm_len] at hu
    obtain ⟨u0, u1, u2, u3, rfl⟩ := len4 hu
    obtain ⟨k0, k1, k2, k3⟩ := okc4 hok
    simp only [litRow4, setA, retA, zipM, List.cons_append, List.nil_append]
    (have F := And.intro @tmz (And.intro @k0 (And.intro @k1 (And.intro @k2 @k3))); refine gR ?_; clear F)
    (have F := @tmz; refine gG ?_; clear F)
    exact (have F := @e0P; gTP [1001] (RTreeB.mk hok rfl))
end Go.Proofs.Ytmpcbijkbgmjkaa

namespace Go.Proofs.Ytmpcbijkbgmjkaa
open Go.RowKit

theorem re_refl (pm : List Bk) : Retold pm pm := fun w S h1 h2 => ⟨h1, h2, fun _ h => h⟩
theorem len_take {ts : List Tm} {i : Nat} (h : i ≤ ts.length) : (encTms (ts.take i)).length = i := by rw [encTms_len, List.length_take]; omega
set_option maxHeartbeats 4000000 in
theorem con_l5Copy_of (t : Tm) (hB : tmsB t.args) (h : ∀ a ∈ t.args, Con e0 36 [.agg (encTm a)] [.agg (encTm a)]) : Con e0 36 [.agg (encTm t)] [.agg (encTm t)] := by
  obtain ⟨op, nm, so, args⟩ := t
  have hc : encTm (.mk op nm so args) = [.lit (.int .i64 op), .lit (.string nm), .lit (.int .i64 so), .sl (encTms args)] := by simp only [encTm]
  simp only [Tm.args] at h hB
  have hl : args.length ≤ 1048576 := Nat.le_trans (Nat.le_add_right _ _) hB
  refine gI (ts := [.cell 2 29]) 65567 Try.func36 ?_
  (have F := @hc; have NN : StopAt 1 := trivial; refine gGn ?_; clear F NN)
  refine gB ?_
  refine gP 6 ?_
  refine gX ?_
  (have F := @hc; refine gR ?_; clear F)
  refine pN 1000 29 4 ?_
  (have F := @hc; refine gG ?_; clear F)
  (have F := And.intro @hc @encTms_nil; refine gL (ι := Nat × Option Addr × Nat) [4, 16] [3, 1000] (fun x => [(4, .d (.one (.lit (.int .i64 (x.1 : Int)))))]) (fun x => [(1000, .buf (some (x.2.1, x.2.2)) 29 4 (encTms (args.take x.1))), (3, .var none [.lit (.int .i64 op), .lit (.string nm), .lit (.int .i64 so), .lit (.slice x.2.1 x.1 x.2.2)])]) (fun x => x.1 ≤ args.length) (fun x => args.length - x.1) ((0, none, 0)) (Nat.zero_le _) (fun x hx => ?_); clear F)
  obtain ⟨i, p, cap⟩ := x
  simp only at hx
  by_cases hlt : i < args.length
  · have hg : args[i]? = some args[i] := List.getElem?_eq_getElem hlt
    have hcon := h args[i] (List.getElem_mem hlt)
    generalize args[i] = a at hg hcon
    have q1 : ((i : Int) < (args.length : Int)) = True := eq_true (by omega)
    have q4 : IntKind.i64.wrap ((i : Int) + 1) = (i : Int) + 1 := IntWalk.i64_in _ (by omega)
    have q2 : i + 1 ≤ maxApp := by unfold maxApp; omega
    have q3 := len_take hx
    have q5 : (args.take i).length = i := by rw [List.length_take]; omega
    (have F := And.intro @hc (And.intro @encTms_len (And.intro @encTms_get (And.intro @q1 (And.intro @hg @tmz)))); refine gG ?_; clear F)
    refine gB ?_
    (have F := And.intro @tmz (And.intro @encTms_get @hg); refine gC (hcon) ?_; clear F)
    (have F := And.intro @tmz (And.intro @q2 (And.intro @q3 @q5)); refine gP 3 ?_; clear F)
    refine gS 28 fun p2 cap2 => ?_
    (have F := And.intro @tmz (And.intro @q3 @q5); refine gR ?_; clear F)
    refine pE [28] [1000] (re_refl _) ?_
    rw [← encTms_snoc args hg]
    (have F := And.intro @hc @q4; refine gG ?_; exact ⟨(i + 1, p2, cap2), hlt, gw, gw, by omega⟩)
  · obtain rfl : i = args.length := by omega
    have q1 : ((args.length : Int) < (args.length : Int)) = False := eq_false (by omega)
    rw [List.take_length]
    (have F := And.intro @hc (And.intro @encTms_len @q1); refine gG ?_; clear F)
    refine pD 1000 [] [2] ?_ (hs := by simp only [pz, ↓reduceIte, Nat.reduceEqDiff, Nat.reduceAdd, Nat.reduceSub, Nat.reduceMul, Nat.reduceLeDiff, Nat.reduceBEq, Bool.false_eq_true, decide_true, decide_false, Int.reduceLE, Int.reduceToNat, Int.reduceLT, Int.reduceEq, eq_self, Nat.reduceShiftRight, Nat.reduceAnd, Nat.reduceBneDiff]; exact rfl)
    (have F := And.intro @hc @encTms_len; refine gG ?_; exact gTd)
theorem con_sCopy (n : Nat) : (∀ t : Tm, nodesRow (encTm t) < n → bulkRow (encTm t) ≤ 1048576 → Con e0 36 [.agg (encTm t)] [.agg (encTm t)]) := by
  induction n with
  | zero => exact fun _ h => by omega
  | succ n ih =>
    intro t hn hb
    obtain ⟨op, nm, so, args⟩ := t
    simp only [encTm, nodesRow, nodesC, bulkRow, bulkC] at hn hb
    refine con_l5Copy_of _ (by unfold tmsB; simp only [Tm.args]; have := encTms_len args; omega) fun a ha => ?_
    simp only [Tm.args] at ha
    obtain ⟨i, hi⟩ := List.getElem?_of_mem ha
    have hi' : (encTms args)[i]? = some (encTm a) := by rw [encTms_get, hi]; rfl
    have h1 := nodes_get hi'
    have h2 := bulk_get hi'
    exact ih a (by omega) (by omega)
theorem con_l5Copy (t : Tm) (hb : bulkRow (encTm t) ≤ 1048576) : Con e0 36 [.agg (encTm t)] [.agg (encTm t)] := con_sCopy _ t (Nat.lt_succ_self _) hb
set_option maxHeartbeats 4000000 in
theorem con_l1InA (x lo hi : Int) : Con e0 69 [.one (.lit (.int .i64 x)), .one (.lit (.int .i64 lo)), .one (.lit (.int .i64 hi))] [.one (.lit (.bool (decide (lo ≤ x ∧ x ≤ hi))))] := by
  refine gI 71 Try.func69 ?_
  by_cases h1 : lo ≤ x
  · by_cases h2 : x ≤ hi
    · (have F := And.intro @h1 @h2; refine gG ?_; exact gT)
    · (have F := And.intro @h1 @h2; refine gG ?_; exact gT)
  · (have F := @h1; refine gG ?_; exact gT)
theorem subAt_bad {t : Tm} {ps : List Int} {i : Nat} {p : Int} (h : ps[i]? = some p) (hin : ¬ (0 ≤ p ∧ p ≤ (t.args.length : Int) - 1)) : subAt t (ps.drop i) = (zTm, false) := by
  rw [subAt_drop h]
  split
  · rfl
  · rw [List.getElem?_eq_none (by omega)]
theorem args_le {a : Tm} (ha : bulkRow (encTm a) ≤ 1048576) : a.args.length ≤ 1048576 := by
  obtain ⟨op, nm, so, args⟩ := a
  simp only [encTm, bulkRow, bulkC, encTms_len] at ha
  simp only [Tm.args]
  omega
set_option maxHeartbeats 4000000 in
theorem con_l12At (t : Tm) (ps : List Int) (hl : ps.length ≤ 1048576) (hb : bulkRow (encTm t) ≤ 1048576) : Con e0 35 [.agg (encTm t), .one (.sl (ps.map encInt))] [.agg (encTm (subAt t ps).1), .one (.lit (.bool (subAt t ps).2))] := by
  refine gI (ts := [.cell 4 29, .slot 5]) 4195447 Try.func35 ?_
  (have F := @tmz; refine gG ?_; clear F)
  (have F := @tmz; refine gL (ι := Nat × Tm) [5, 6, 10, 22] [2] (fun x => [(6, .d (.one (.lit (.int .i64 (x.1 : Int)))))]) (fun x => [(2, .var none (encTm x.2))]) (fun x => x.1 ≤ ps.length ∧ subAt t ps = subAt x.2 (ps.drop x.1) ∧ bulkRow (encTm x.2) ≤ 1048576) (fun x => ps.length - x.1) ((0, t)) (⟨Nat.zero_le _, rfl, hb⟩) (fun x hx => ?_); clear F)
  obtain ⟨i, a⟩ := x
  obtain ⟨hi, hs, ha⟩ := hx
  simp only at hi hs ha
  rw [hs]
  clear hs
  by_cases hlt : i < ps.length
  · obtain ⟨p, hp⟩ : ∃ p, ps[i]? = some p := ⟨_, List.getElem?_eq_getElem hlt⟩
    have q1 : ((i : Int) < (ps.length : Int)) = True := eq_true (by omega)
    have hal := args_le ha
    have q2 : IntKind.i64.wrap ((a.args.length : Int) - 1) = (a.args.length : Int) - 1 := IntWalk.i64_in _ (by omega)
    have q4 : IntKind.i64.wrap ((i : Int) + 1) = (i : Int) + 1 := IntWalk.i64_in _ (by omega)
    by_cases hin : 0 ≤ p ∧ p ≤ (a.args.length : Int) - 1
    · obtain ⟨b, hg⟩ : ∃ b, a.args[p.toNat]? = some b := ⟨_, List.getElem?_eq_getElem (by omega)⟩
      have q3 : decide (0 ≤ p ∧ p ≤ (a.args.length : Int) - 1) = true := decide_eq_true hin
      have q5 : (0 ≤ p) = True := eq_true hin.1
      rw [subAt_drop hp, if_neg (by omega), hg]
      (have F := And.intro @q1 (And.intro @hp (And.intro @encInt_u (And.intro @q2 @tmz))); refine gG ?_; clear F)
      refine gB ?_
      (have F := And.intro @q1 (And.intro @hp (And.intro @encInt_u (And.intro @q2 @tmz))); refine gC (con_l1InA p 0 _) ?_; clear F)
      (have F := @q3; refine gR ?_; clear F)
      (have F := And.intro @q1 (And.intro @hp (And.intro @encInt_u (And.intro @q2 (And.intro @tmz (And.intro @q3 (And.intro @q5 @hg)))))); refine gG ?_; clear F)
      have hbb : bulkRow (encTm b) ≤ 1048576 := Nat.le_trans (bulk_arg hg) ha
      (have F := @q4; refine gG ?_; exact ⟨(i + 1, b), ⟨hlt, rfl, hbb⟩, gw, gw, by omega⟩)
    · have q3 : decide (0 ≤ p ∧ p ≤ (a.args.length : Int) - 1) = false := decide_eq_false hin
      rw [subAt_bad hp hin]
      (have F := And.intro @q1 (And.intro @hp (And.intro @encInt_u (And.intro @q2 @tmz))); refine gG ?_; clear F)
      refine gB ?_
      (have F := And.intro @q1 (And.intro @hp (And.intro @encInt_u (And.intro @q2 @tmz))); refine gC (con_l1InA p 0 _) ?_; clear F)
      (have F := @q3; refine gR ?_; clear F)
      (have F := And.intro @q1 (And.intro @hp (And.intro @encInt_u (And.intro @q2 (And.intro @tmz (And.intro @q3 @zTm_u))))); refine gG ?_; exact gTd)
  · obtain rfl : i = ps.length := by omega
    have q1 : ((ps.length : Int) < (ps.length : Int)) = False := eq_false (by omega)
    rw [List.drop_length, subAt]
    (have F := And.intro @q1 @tmz; refine gG ?_; exact gTd)
set_option maxHeartbeats 4000000 in
theorem con_specAt (t : Tm) (ps : List Int) (hl : ps.length ≤ 1048576) (hb : bulkRow (encTm t) ≤ 1048576) (hr : bulkRow (encTm (subAt t ps).1) ≤ 1048576) : Con e0 8 [.agg (encTm t), .one (.sl (ps.map encInt))] [.agg (encTm (if (subAt t ps).2 = true then (subAt t ps).1 else zTm)), .one (.lit (.bool (subAt t ps).2))] := by
  refine gI (ts := [.cell 4 29, .slot 5]) 33015 Try.func8 ?_
  (have F := @tmz; refine gG ?_; clear F)
  refine gB ?_
  (have F := @tmz; refine gC (con_l12At t ps hl hb) ?_; clear F)
  (have F := @tmz; refine gR ?_; clear F)
  cases hs : (subAt t ps).2 with
  | false =>
    (have F := And.intro @tmz (And.intro @hs @zTm_u); refine gG ?_; exact gTd)
  | true =>
    (have F := And.intro @tmz @hs; refine gG ?_; clear F)
    refine gB ?_
    (have F := @tmz; refine gC (con_l5Copy _ hr) ?_; clear F)
    (have F := @tmz; refine gR ?_; clear F)
    (have F := And.intro @tmz @hs; refine gG ?_; exact gTd)
end Go.Proofs.Ytmpcbijkbgmjkaa

namespace Go.Proofs.Ytmpcbijkbgmjkaa
open Go.RowKit

def bytesTy (P : Program) (s d : TypeId) : Bool := match P.underlying s, P.underlying d with
  | some (.slice e), some .string => match P.underlying e with
    | some (.int .u8) => true
    | _ => false
  | _, _ => false
def oneByte (b : Int) : ByteArray := ByteArray.empty.push (UInt8.ofNat b.toNat)
section
variable {e : Env} {σ : St} {o : Oper} {K : St → Prop}
theorem step_byte {s d : TypeId} {x : Operand} {b : Int} (ho : o.op = .convert s d x) (hx : evA σ.s x = .d (.clip [[.lit (.int .u8 b)]])) (ht : bytesTy e.P s d = true) (hK : K ⟨setA σ.s o.dst (.d (.one (.lit (.string (oneByte b))))), σ.m⟩) : StepOk e o σ K := by
  intro he U w0 S0 nt a w Q hd ⟨S, L, h⟩
  refine Oper.wp_mono (fun a' w' hs => ⟨_, hK, hs⟩) (gives_then h hd (givesA_pure fun w S L ρv hC hr => ?_))
  have hx' := hr x (by simp [ho, Op.operands])
  rw [hx] at hx'
  obtain ⟨⟨A, n, cap, hv, hn, _, _, hb⟩, _⟩ := hx'
  simp only [List.length_cons, List.length_nil, Nat.zero_add] at hn
  subst hn
  obtain ⟨g, off, rfl, _, _, hrow⟩ := hb (by decide)
  simp only [RepRows, RepRow, Rep, and_true] at hrow
  obtain ⟨u, hc, rfl⟩ := hrow
  have hl := run_loadCells_list (P := e.P) w ⟨g, off, none⟩ [.int .u8 b] (fun j u hj => by
    cases j with
    | zero => simp at hj; subst hj; rw [Addr.add_at]; exact hc
    | succ j => simp at hj)
  unfold bytesTy at ht
  split at ht
  · rename_i e1 h1 h2
    split at ht
    · rename_i h3
      refine ⟨.string (oneByte b), ?_, by simp [ARel, DRel, Rep]⟩
      simp only [List.length_cons, List.length_nil, Nat.zero_add] at hl
      simp [execOp, ho, hv, convert, underlying, h1, h2, h3, Conv.bytesToString, hl, oneByte, Result.andThen]
    · cases ht
  · cases ht
end
theorem gY {e : Env} {K : St → Prop} {ds : List (Option Nat)} {os : List Oper} {d t1 t2 ty : Nat} {p : String} {ed : Array Edge} {x : Operand} {s : List (Nat × A)} {m : List (Nat × Bk)} {b : Int} (hK : Runs e ds 0 os ⟨(d, .d (.one (.lit (.string (oneByte b))))) :: s, m⟩ K)
    (hx : evA s x = .d (.clip [[.lit (.int .u8 b)]]) := by first | (simp only [pz, ↓reduceIte, Nat.reduceEqDiff, Nat.reduceAdd, Nat.reduceSub, Nat.reduceMul, Nat.reduceLeDiff, Nat.reduceBEq, Bool.false_eq_true, decide_true, decide_false, Int.reduceLE, Int.reduceToNat, Int.reduceLT, Int.reduceEq, eq_self, Nat.reduceShiftRight, Nat.reduceAnd, Nat.reduceBneDiff]; done) | (simp only [pz, ↓reduceIte, Nat.reduceEqDiff, Nat.reduceAdd, Nat.reduceSub, Nat.reduceMul, Nat.reduceLeDiff, Nat.reduceBEq, Bool.false_eq_true, decide_true, decide_false, Int.reduceLE, Int.reduceToNat, Int.reduceLT, Int.reduceEq, eq_self, Nat.reduceShiftRight, Nat.reduceAnd, Nat.reduceBneDiff]; exact rfl)) (ht : bytesTy e.P t1 t2 = true := by kernel_rfl) : Runs e ds 0 (⟨some d, .convert t1 t2 x, ty, p, ed, none⟩ :: os) ⟨s, m⟩ K := by
  simp only [Runs] at hK ⊢
  exact runsS_step rfl (step_byte (o := ⟨some d, .convert t1 t2 x, ty, p, ed, none⟩) rfl hx ht hK)
end Go.Proofs.Ytmpcbijkbgmjkaa

namespace Go.Proofs.Ytmpcbijkbgmjkaa
open Go.RowKit

def dig (n : Nat) : ByteArray := oneByte (IntKind.u8.wrap (IntKind.i64.wrap (48 + (n : Int).tmod 10)))
def txtL (n : Nat) (acc : ByteArray) : ByteArray := if h : n = 0 then acc else txtL (n / 10) (dig n ++ acc)
termination_by n
decreasing_by omega
def txt (k : Int) : ByteArray := if k ≤ 0 then ⟨#[109, 48]⟩ else ⟨#[109]⟩ ++ txtL k.toNat ByteArray.empty
theorem txtL_z (acc : ByteArray) : txtL 0 acc = acc := by rw [txtL]; simp
theorem txtL_s {n : Nat} (h : n ≠ 0) (acc : ByteArray) : txtL n acc = txtL (n / 10) (dig n ++ acc) := by rw [txtL]; simp [h]
theorem dig_size (n : Nat) : (dig n).size = 1 := rfl
theorem txtL_size (n : Nat) : ∀ acc : ByteArray, (txtL n acc).size ≤ acc.size + n := by
  induction n using Nat.strongRecOn with
  | _ n ih =>
    intro acc
    by_cases h : n = 0
    · subst h; rw [txtL_z]; omega
    · rw [txtL_s h]
      have := ih (n / 10) (by omega) (dig n ++ acc)
      rw [ByteArray.size_append, dig_size] at this
      omega
theorem txt_size (k : Int) : (txt k).size ≤ k.toNat + 2 := by
  unfold txt
  split
  · show 2 ≤ _; omega
  · rw [ByteArray.size_append]
    have := txtL_size k.toNat ByteArray.empty
    have h1 : (ByteArray.mk #[109]).size = 1 := rfl
    have h2 : ByteArray.empty.size = 0 := rfl
    omega
set_option maxHeartbeats 4000000 in
set_option maxRecDepth 100000 in
theorem con_markText (k : Int) (hk : k ≤ 1000000000) (hk0 : 0 ≤ k) : Con e0 71 [.one (.lit (.int .i64 k))] [.one (.lit (.string (txt k)))] := by
  by_cases h0 : k ≤ 0
  · have h : txt k = ⟨#[109, 48]⟩ := by unfold txt; rw [if_pos h0]
    have q1 : (k ≤ 0) = True := eq_true h0
    rw [h]
    refine gI (ts := [.slot 2]) 173 Try.func71 ?_
    (have F := @q1; refine gG ?_; exact gTd)
  · have h : txt k = ⟨#[109]⟩ ++ txtL k.toNat ByteArray.empty := by unfold txt; rw [if_neg h0]
    have q1 : (k ≤ 0) = False := eq_false h0
    rw [h]
    obtain ⟨n, rfl⟩ : ∃ n : Nat, k = n := ⟨k.toNat, by omega⟩
    rw [Int.toNat_natCast]
    refine gI (ts := [.slot 2]) 173 Try.func71 ?_
    (have F := @q1; refine gG ?_; clear F)
    (have F := @q1; refine gL (ι := Nat × ByteArray) [0, 3, 7] [] (fun x => [(0, .d (.one (.lit (.int .i64 (x.1 : Int))))), (3, .d (.one (.lit (.string x.2))))]) (fun x => []) (fun x => txtL n ByteArray.empty = txtL x.1 x.2 ∧ x.2.size + x.1 ≤ n) (fun x => x.1) ((n, ⟨#[]⟩)) (⟨rfl, by show 0 + n ≤ n; omega⟩) (fun x hx => ?_); clear F)
    obtain ⟨j, acc⟩ := x
    obtain ⟨h1, h2⟩ := hx
    simp only at h1 h2
    rw [h1]
    clear h1
    by_cases hj : j = 0
    · subst hj
      have q2 : (((0 : Nat) : Int) > 0) = False := eq_false (by omega)
      rw [txtL_z]
      have q5 : ((ByteArray.mk #[109]).size + acc.size ≤ 9223372036854775807) = True := eq_true (by show 1 + acc.size ≤ _; omega)
      (have F := And.intro @q2 @q5; refine gG ?_; exact gTd)
    · have q2 : ((j : Int) > 0) = True := eq_true (by omega)
      rw [txtL_s hj]
      have q3 : IntKind.i64.wrap ((j : Int).tdiv 10) = ((j / 10 : Nat) : Int) := by rw [show (j : Int).tdiv 10 = ((j / 10 : Nat) : Int) from by rw [Int.ofNat_tdiv]; rfl]; exact IntWalk.i64_in _ (by omega)
      (have F := @q2; have NN : StopAt 5 := trivial; refine gGn ?_; clear F NN)
      refine gB ?_
      (have F := @q2; refine gP 5 ?_; clear F)
      refine gY ?_
      have q5 : ((dig j).size + acc.size ≤ 9223372036854775807) = True := eq_true (by rw [dig_size]; omega)
      change Runs _ _ _ _ ⟨(13, .d (.one (.lit (.string (dig j))))) :: _, _⟩ _
      (have F := And.intro @q2 @q5; refine gR ?_; clear F)
      have hd := dig_size j
      (have F := And.intro @q2 @q3; refine gG ?_; exact ⟨(j / 10, dig j ++ acc), ⟨rfl, by rw [ByteArray.size_append, hd]; omega⟩, gw, gw, by omega⟩)
end Go.Proofs.Ytmpcbijkbgmjkaa

namespace Go.Proofs.Ytmpcbijkbgmjkaa
open Go.RowKit

def mkV (k : Int) : Value → Value
  | .int i _ => .int i k
  | .string _ => .string (txt k)
  | .bool _ => .bool (k % 3 == 0)
  | v => v
mutual
def mkC : Int → C → C
  | k, .lit v => .lit (mkV k v)
  | k, .sl rows => .sl (mkRows k rows)
  | _, .ptr cs => .ptr cs
  | _, .fn f cs => .fn f cs
def mkRow : Int → List C → List C
  | _, [] => []
  | k, c :: cs => mkC k c :: mkRow (k + cntC c) cs
def mkRows : Int → List (List C) → List (List C)
  | _, [] => []
  | k, r :: rs => mkRow k r :: mkRows (k + cntRow r) rs
def cntC : C → Nat
  | .lit _ => 1
  | .sl rows => cntRows rows
  | .ptr _ => 0
  | .fn _ _ => 0
def cntRow : List C → Nat
  | [] => 0
  | c :: cs => cntC c + cntRow cs
def cntRows : List (List C) → Nat
  | [] => 0
  | r :: rs => cntRow r + cntRows rs
end
theorem mkRow_len : ∀ (k : Int) (cs : List C), (mkRow k cs).length = cs.length
  | _, [] => by simp [mkRow]
  | k, c :: cs => by simp [mkRow, mkRow_len _ cs]
theorem mkRows_len : ∀ (k : Int) (rs : List (List C)), (mkRows k rs).length = rs.length
  | _, [] => by simp [mkRows]
  | k, c :: cs => by simp [mkRows, mkRows_len _ cs]
theorem cnt_snoc : ∀ (rs : List (List C)) (r : List C), cntRows (rs ++ [r]) = cntRows rs + cntRow r
  | [], r => by simp [cntRows]
  | q :: rs, r => by simp [cntRows, cnt_snoc rs r]; omega
theorem mkRows_snoc : ∀ (rs : List (List C)) (r : List C) (k : Int), mkRows k (rs ++ [r]) = mkRows k rs ++ [mkRow (k + cntRows rs) r]
  | [], r, k => by simp [mkRows, cntRows]
  | q :: rs, r, k => by simp [mkRows, cntRows, mkRows_snoc rs r, Int.add_assoc]
theorem tk_snoc {α : Type} {l : List α} {i : Nat} {x : α} (h : l[i]? = some x) : l.take (i + 1) = l.take i ++ [x] := by simp [List.take_add_one, h]
theorem drop_get {α : Type} {l : List α} {i : Nat} {x : α} (h : l[i]? = some x) : l.drop i = x :: l.drop (i + 1) := by
  obtain ⟨h1, rfl⟩ := List.getElem?_eq_some_iff.1 h
  exact List.drop_eq_getElem_cons h1
theorem cnt_take_le : ∀ (rs : List (List C)) (i : Nat), cntRows (rs.take i) ≤ cntRows rs
  | [], i => by simp [cntRows]
  | r :: rs, 0 => by simp [cntRows]
  | r :: rs, i + 1 => by have := cnt_take_le rs i; simp only [List.take_succ_cons, cntRows]; omega

/-! Found things. -/
theorem apart_2 {x y : Bk} (h : ∀ g, pblk x g → ¬ pblk y g) : Apart [x, y] := ⟨fun z hz g hg => by simp at hz; subst hz; exact h g hg, apart_1 _⟩
theorem fd_nil {E : Nat → Prop} {v : Value} : Found (ι := Option Addr × Nat) [.set E (fun w => Own w (.sl []) E v)] (fun i => v = .slice i.1 0 i.2) (fun _ => [.set E (fun w => Own w (.sl []) E v)]) := fun w S h ha => by
  obtain ⟨h1, h2, h3⟩ : _ ∧ Own w (.sl []) E v ∧ _ := h (.set E (fun w => Own w (.sl []) E v)) (by simp)
  simp only [Own] at h2
  obtain ⟨A, n, cap, hv, hn, _⟩ := h2
  simp at hn
  subst hn
  exact ⟨(A, cap), hv, h, ha, fun _ h => h⟩
theorem fd_open {E : Nat → Prop} {v : Value} {rows : List (List C)} {sz : Nat} (hne : rows ≠ []) (hrl : rowsLen sz rows) : Found (ι := Option Addr × Nat × Nat × List (List Value) × (Nat → Prop)) [.set E (fun w => Own w (.sl rows) E v)]
    (fun i => v = .slice i.1 i.2.2.2.1.length i.2.1 ∧ i.2.2.2.1.length = rows.length ∧ rows.length ≤ maxLen) (fun i => [.buf (some (i.1, i.2.1)) i.2.2.1 sz (i.2.2.2.1.map litRow), .set i.2.2.2.2 (fun w => OwnVs w rows i.2.2.2.2 i.2.2.2.1)]) := fun w S h ha => by
  obtain ⟨h1, h2, h3⟩ : (∀ b, E b → b < w.heap.size ∧ ¬ S b) ∧ Own w (.sl rows) E v ∧ _ := h (.set E (fun w => Own w (.sl rows) E v)) (by simp)
  obtain ⟨A, n, cap, rfl, hn1, hn2, hn3⟩ := (Own.rep _ _ _ h2).form
  obtain ⟨uss, ety, E', rfl, k1, k2, k3, k4⟩ := Own.open (T := S) (fun b hb => (h1 b hb).2) hne hrl h2
  refine ⟨(A, cap, ety, uss, E'), ⟨rfl, k2.len, by omega⟩, fun x hx => ?_, apart_2 fun g hg hg2 => ?_, fun g ⟨x, hx, hg⟩ => ⟨_, List.mem_cons_self, ?_⟩⟩
  · simp only [List.mem_cons, List.not_mem_nil, or_false] at hx
    rcases hx with rfl | rfl
    · show BufRel w S ety sz (uss.map litRow) (.slice A (uss.map litRow).length cap)
      rw [List.length_map]; exact k1
    · exact ⟨fun b hb => h1 b (k3 b hb).1, k2, OwnVs.stable _ _ _⟩
  · simp only [pblk, List.length_map] at hg hg2
    exact (k3 g hg2).2 hg
  · simp only [List.mem_cons, List.not_mem_nil, or_false] at hx
    rcases hx with rfl | rfl
    · simp only [pblk, List.length_map] at hg; exact k4 g hg
    · exact (k3 g hg).1
/-- The sets of a row's slices. -/
def cellSets : List C → List Value → (Nat → Nat → Prop) → List Bk
  | .sl rows :: cs, u :: us, Es => .set (Es 0) (fun w => Own w (.sl rows) (Es 0) u) :: cellSets cs us (fun k => Es (k + 1))
  | .lit _ :: cs, _ :: us, Es => cellSets cs us Es
  | _, _, _ => []
/-- A row's values are those that its cells name. -/
def litsOk : List C → List Value → Prop
  | [], [] => True
  | .lit x :: cs, u :: us => u = x ∧ litsOk cs us
  | .sl _ :: cs, _ :: us => litsOk cs us
  | _, _ => False
def plainC : C → Bool
  | .lit _ => true
  | .sl _ => true
  | _ => false
theorem cells_of {w : World} {S : Nat → Prop} : ∀ {cs : List C} {us : List Value} {E : Nat → Prop}, cs.all plainC = true → OwnVals w cs E us → (∀ b, E b → b < w.heap.size ∧ ¬ S b) → ∃ Es, litsOk cs us ∧ (∀ x ∈ cellSets cs us Es, PinRel w S x) ∧ Apart (cellSets cs us Es) ∧ ∀ g, pblks (cellSets cs us Es) g → E g
  | [], [], E, _, _, _ => ⟨fun _ _ => False, trivial, by simp [cellSets], trivial, fun g ⟨x, hx, _⟩ => by simp [cellSets] at hx⟩
  | c :: cs, u :: us, E, hp, h, hE => by
    simp only [OwnVals] at h
    obtain ⟨S1, S2, i1, i2, hd, h1, h2⟩ := h
    simp only [List.all_cons, Bool.and_eq_true] at hp
    obtain ⟨Es, k1, k2, k3, k4⟩ := cells_of hp.2 h2 (fun b hb => hE b (i2 b hb))
    cases c with
    | lit x =>
      simp only [Own] at h1
      exact ⟨Es, ⟨h1, k1⟩, k2, k3, fun g hg => i2 g (k4 g hg)⟩
    | sl rows =>
      refine ⟨fun k => match k with | 0 => S1 | k + 1 => Es k, k1, fun x hx => ?_, ⟨fun y hy g hg hg2 => hd g hg (k4 g ⟨y, hy, hg2⟩), k3⟩, fun g ⟨x, hx, hg⟩ => ?_⟩
      · simp only [cellSets, List.mem_cons] at hx
        rcases hx with rfl | hx
        · exact ⟨fun b hb => hE b (i1 b hb), h1, Own.stable _ _ _⟩
        · exact k2 x hx
      · simp only [cellSets, List.mem_cons] at hx
        rcases hx with rfl | hx
        · exact i1 g hg
        · exact i2 g (k4 g ⟨x, hx, hg⟩)
    | ptr _ => simp [plainC] at hp
    | fn _ _ => simp [plainC] at hp
  | [], _ :: _, _, _, h, _ => by simp [OwnVals] at h
  | _ :: _, [], _, _, h, _ => by simp [OwnVals] at h
theorem OwnVals.of_cells {w : World} {S : Nat → Prop} : ∀ {cs : List C} {us : List Value} {Es : Nat → Nat → Prop}, cs.all plainC = true → litsOk cs us → (∀ x ∈ cellSets cs us Es, PinRel w S x) → Apart (cellSets cs us Es) → OwnVals w cs (pblks (cellSets cs us Es)) us
  | [], [], Es, _, _, _, _ => OwnVals.nil
  | .lit x :: cs, u :: us, Es, hp, hl, h, ha => by
    obtain ⟨rfl, hl⟩ := hl
    simp only [List.all_cons, Bool.and_eq_true] at hp
    simp only [OwnVals]
    exact ⟨fun _ => False, _, fun _ h => h.elim, fun _ h => h, fun _ h _ => h, by simp [Own], OwnVals.of_cells (Es := Es) hp.2 hl h ha⟩
  | .sl rows :: cs, u :: us, Es, hp, hl, h, ha => by
    simp only [List.all_cons, Bool.and_eq_true] at hp
    simp only [OwnVals]
    obtain ⟨a1, a2⟩ := ha
    have hE := h (.set (Es 0) (fun w => Own w (.sl rows) (Es 0) u)) List.mem_cons_self
    refine ⟨Es 0, pblks (cellSets cs us (fun k => Es (k + 1))), fun b hb => ⟨_, List.mem_cons_self, hb⟩, fun b ⟨x, hx, hb⟩ => ⟨x, List.mem_cons_of_mem _ hx, hb⟩, fun b hb ⟨x, hx, hb2⟩ => a1 x hx b hb hb2, hE.2.1, OwnVals.of_cells hp.2 hl (fun x hx => h x (List.mem_cons_of_mem _ hx)) a2⟩
  | .ptr _ :: _, _ :: _, _, hp, _, _, _ => by simp [plainC] at hp
  | .fn _ _ :: _, _ :: _, _, hp, _, _, _ => by simp [plainC] at hp
  | [], _ :: _, _, _, hl, _, _ => by simp [litsOk] at hl
  | .lit _ :: _, [], _, _, hl, _, _ => by simp [litsOk] at hl
  | .sl _ :: _, [], _, _, hl, _, _ => by simp [litsOk] at hl
theorem cellSets_set : ∀ {cs : List C} {us : List Value} {Es : Nat → Nat → Prop} (y : Bk), y ∈ cellSets cs us Es → ∃ E G, y = .set E G
  | .sl rows :: cs, u :: us, Es, y, h => by
    rcases List.mem_cons.1 h with rfl | h
    · exact ⟨_, _, rfl⟩
    · exact cellSets_set y h
  | .lit _ :: cs, _ :: us, Es, y, h => cellSets_set (cs := cs) (us := us) y h
  | .ptr _ :: _, _, _, y, h => by simp [cellSets] at h
  | .fn _ _ :: _, _, _, y, h => by simp [cellSets] at h
  | [], _, _, y, h => by simp [cellSets] at h
  | .lit _ :: _, [], _, y, h => by simp [cellSets] at h
  | .sl _ :: _, [], _, y, h => by simp [cellSets] at h
/-- The values of the first row are those that its cells name. -/
theorem fd_lits {E : Nat → Prop} {r : List C} {rest : List (List C)} {us : List Value} {urest : List (List Value)} (hp : r.all plainC = true) : Found (ι := Unit) [.set E (fun w => OwnVs w (r :: rest) E (us :: urest))] (fun _ => litsOk r us) (fun _ => [.set E (fun w => OwnVs w (r :: rest) E (us :: urest))]) := fun w S h ha => by
  obtain ⟨h1, h2, h3⟩ : (∀ b, E b → b < w.heap.size ∧ ¬ S b) ∧ OwnVs w (r :: rest) E (us :: urest) ∧ _ := h (.set E (fun w => OwnVs w (r :: rest) E (us :: urest))) (by simp)
  obtain ⟨S1, S2, i1, i2, hd, k1, k2⟩ := h2
  obtain ⟨Es, hl, _⟩ := cells_of (S := S) hp k1 (fun b hb => h1 b (i1 b hb))
  exact ⟨(), hl, h, ha, fun _ h => h⟩
/-- The first row's slices, each by itself, and the other rows. -/
theorem fd_row {E : Nat → Prop} {r : List C} {rest : List (List C)} {us : List Value} {urest : List (List Value)} (hp : r.all plainC = true) : Found (ι := (Nat → Prop) × (Nat → Nat → Prop)) [.set E (fun w => OwnVs w (r :: rest) E (us :: urest))] (fun _ => True) (fun i => .set i.1 (fun w => OwnVs w rest i.1 urest) :: cellSets r us i.2) := fun w S h ha => by
  obtain ⟨h1, h2, h3⟩ : (∀ b, E b → b < w.heap.size ∧ ¬ S b) ∧ OwnVs w (r :: rest) E (us :: urest) ∧ _ := h (.set E (fun w => OwnVs w (r :: rest) E (us :: urest))) (by simp)
  obtain ⟨S1, S2, i1, i2, hd, k1, k2⟩ := h2
  obtain ⟨Es, hl, q1, q2, q3⟩ := cells_of (S := S) hp k1 (fun b hb => h1 b (i1 b hb))
  refine ⟨(S2, Es), trivial, fun x hx => ?_, ⟨fun y hy g hg hg2 => hd g (q3 g ⟨y, hy, hg2⟩) hg, q2⟩, fun g ⟨x, hx, hg⟩ => ⟨_, List.mem_cons_self, ?_⟩⟩
  · rcases List.mem_cons.1 hx with rfl | hx
    · exact ⟨fun b hb => h1 b (i2 b hb), k2, OwnVs.stable _ _ _⟩
    · exact q1 x hx
  · rcases List.mem_cons.1 hx with rfl | hx
    · exact i2 g hg
    · exact i1 g (q3 g ⟨x, hx, hg⟩)
/-- A row joins the rows ahead of it. -/
theorem re_row {E : Nat → Prop} {done : List (List C)} {ud : List (List Value)} {cs : List C} {us : List Value} {Es : Nat → Nat → Prop} (hp : cs.all plainC = true) (hl : litsOk cs us) : Retold (.set E (fun w => OwnVs w done E ud) :: cellSets cs us Es) [.set (fun b => E b ∨ pblks (cellSets cs us Es) b) (fun w => OwnVs w (done ++ [cs]) (fun b => E b ∨ pblks (cellSets cs us Es) b) (ud ++ [us]))] := fun w S h ha => by
  have hE := h (.set E (fun w => OwnVs w done E ud)) List.mem_cons_self
  have hv := OwnVals.of_cells (w := w) (S := S) hp hl (fun x hx => h x (List.mem_cons_of_mem _ hx)) ha.2
  refine ⟨fun x hx => ?_, apart_1 _, fun g ⟨x, hx, hg⟩ => ?_⟩
  · simp only [List.mem_cons, List.not_mem_nil, or_false] at hx
    subst hx
    refine ⟨fun b hb => ?_, OwnVs.snoc hE.2.1 hv (fun _ h => .inl h) (fun _ h => .inr h) (fun b hb ⟨y, hy, hg⟩ => ha.1 y hy b hb hg), OwnVs.stable _ _ _⟩
    rcases hb with hb | ⟨y, hy, hg⟩
    · exact hE.1 b hb
    · obtain ⟨E', G', rfl⟩ := cellSets_set y hy
      exact (h _ (List.mem_cons_of_mem _ hy)).1 b hg
  · simp only [List.mem_cons, List.not_mem_nil, or_false] at hx
    subst hx
    rcases hg with hg | ⟨y, hy, hg⟩
    · exact ⟨_, List.mem_cons_self, hg⟩
    · exact ⟨y, List.mem_cons_of_mem _ hy, hg⟩
end Go.Proofs.Ytmpcbijkbgmjkaa

namespace Go.Proofs.Ytmpcbijkbgmjkaa
open Go.RowKit

def cntTop' : List C → Nat
  | [] => 0
  | .sl rows :: cs => cntRows rows + cntTop' cs
  | _ :: cs => cntTop' cs
theorem subAt_bulk : ∀ (ps : List Int) (t : Tm), bulkRow (encTm (subAt t ps).1) ≤ bulkRow (encTm t)
  | [], t => Nat.le_refl _
  | p :: ps, t => by
    rw [subAt]
    split
    · rw [zTm_u]; simp [bulkRow, bulkC, bulkRows]
    · split
      · rename_i a h
        exact Nat.le_trans (subAt_bulk ps a) (bulk_arg h)
      · rw [zTm_u]; simp [bulkRow, bulkC, bulkRows]
theorem subAt_false : ∀ (ps : List Int) (t : Tm), (subAt t ps).2 = false → (subAt t ps).1 = zTm
  | [], t, h => by simp [subAt] at h
  | p :: ps, t, h => by
    rw [subAt] at h ⊢
    split at h
    · rename_i h1; rw [if_pos h1]
    · rename_i h1
      rw [if_neg h1]
      split at h
      · rename_i a h2; exact subAt_false ps a h
      · rfl
mutual
theorem cnt_tm : ∀ t : Tm, cntTop' (encTm t) ≤ 3 * bulkRow (encTm t)
  | .mk op nm so args => by
    have := cnt_tms args
    simp only [encTm, cntTop', bulkRow, bulkC, encTms_len]
    omega
theorem cnt_tms : ∀ ts : List Tm, cntRows (encTms ts) ≤ 3 * (ts.length + bulkRows (encTms ts))
  | [] => by simp [encTms, cntRows]
  | t :: ts => by
    have h1 := cnt_tm t
    have h2 := cnt_tms ts
    have h3 : cntRow (encTm t) = 3 + cntTop' (encTm t) := by cases t; simp only [encTm, cntRow, cntC, cntTop']; omega
    simp only [encTms, cntRows, bulkRows, List.length_cons]
    omega
end
end Go.Proofs.Ytmpcbijkbgmjkaa

namespace Go.Proofs.Ytmpcbijkbgmjkaa
open Go.RowKit

theorem conP_tree {f : FuncId} {args : List D} {row : List C} (hb : hasBody e0.P f = true) (hok : row.all okCell = true)
    (h : ∀ (w : World) (S : Nat → Prop) (vs : List Value), DsRel w S args vs → Calls e0.P f vs.toArray w fun e w' => ∃ us' : List Value, e = .returned (.agg us'.toArray) ∧ OwnVals w' row (fun x => w.heap.size ≤ x ∧ x < w'.heap.size) us' ∧ Below w.heap.size w w') : ConP e0 f args [] (RTree row) := by
  refine ⟨hb, fun w S vs hS hE hG hpm ha hv => (h w S vs hv).mono ?_⟩
  rintro en w' ⟨us, h1, h2, h3⟩
  obtain ⟨E, hE1, h2⟩ : ∃ E : Nat → Prop, (∀ b, E b → w.heap.size ≤ b ∧ b < w'.heap.size) ∧ OwnVals w' row E us := ⟨_, fun _ h => h, h2⟩
  refine ⟨.agg us.toArray, [.agg (litRow us)], [.set E (fun w => OwnVals w row E us)], h1, RTree.mk h2.len (h2.cells hok), Kept.of_below h3 (fun d => d.elim), trivial, fun x hx => ?_, apart_1 _, us, rfl, RepVals_lits us⟩
  simp only [List.mem_cons, List.not_mem_nil, or_false] at hx
  subst hx
  exact ⟨⟨fun b hb => ⟨(hE1 b hb).2, fun hn => hn.2 ⟨_, List.mem_cons_self, hb⟩⟩, h2, OwnVals.stable _ _ _⟩, fun g hg => .inr (hE1 g hg).1⟩
/-- A slice in memory of its own. -/
def RTreeS (rows : List (List C)) (r : List D) (pm : List Bk) : Prop := ∃ v E, r = [.one (.lit v)] ∧ okCell (.lit v) = true ∧ pm = [.set E (fun w => Own w (.sl rows) E v)]
theorem conP_treeS {f : FuncId} {args : List D} {rows : List (List C)} (hb : hasBody e0.P f = true)
    (h : ∀ (w : World) (S : Nat → Prop) (vs : List Value), DsRel w S args vs → Calls e0.P f vs.toArray w fun e w' => ∃ v : Value, e = .returned v ∧ Own w' (.sl rows) (fun x => w.heap.size ≤ x ∧ x < w'.heap.size) v ∧ Below w.heap.size w w') : ConP e0 f args [] (RTreeS rows) := by
  refine ⟨hb, fun w S vs hS hE hG hpm ha hv => (h w S vs hv).mono ?_⟩
  rintro en w' ⟨v, h1, h2, h3⟩
  obtain ⟨E, hE1, h2⟩ : ∃ E : Nat → Prop, (∀ b, E b → w.heap.size ≤ b ∧ b < w'.heap.size) ∧ Own w' (.sl rows) E v := ⟨_, fun _ h => h, h2⟩
  refine ⟨v, [.one (.lit v)], [.set E (fun w => Own w (.sl rows) E v)], h1, ⟨v, E, rfl, okCell_one (c := .sl rows) rfl (Own.rep (.sl rows) _ v h2), rfl⟩, Kept.of_below h3 (fun d => d.elim), trivial, fun x hx => ?_, apart_1 _, by simp [retA, ARel, DRel, Rep]⟩
  simp only [List.mem_cons, List.not_mem_nil, or_false] at hx
  subst hx
  exact ⟨⟨fun b hb => ⟨(hE1 b hb).2, fun hn => hn.2 ⟨_, List.mem_cons_self, hb⟩⟩, h2, Own.stable _ _ _⟩, fun g hg => .inr (hE1 g hg).1⟩
def isSet : Bk → Bool
  | .set _ _ => true
  | _ => false
def litC : C → Bool
  | .lit _ => true
  | _ => false
def litD : D → Bool
  | .one c => litC c
  | .agg cs => cs.all litC
  | _ => false
theorem RepVals_any {w : World} {S S' : Nat → Prop} : ∀ {cs : List C} {vs : List Value}, cs.all litC = true → RepVals w S cs vs → RepVals w S' cs vs
  | [], [], _, _ => trivial
  | .lit x :: cs, v :: vs, hl, h => by
    simp only [List.all_cons, Bool.and_eq_true] at hl
    exact ⟨h.1, RepVals_any hl.2 h.2⟩
  | .sl _ :: _, _ :: _, hl, _ => by simp [litC] at hl
  | .ptr _ :: _, _ :: _, hl, _ => by simp [litC] at hl
  | .fn _ _ :: _, _ :: _, hl, _ => by simp [litC] at hl
  | [], _ :: _, _, h => h.elim
  | _ :: _, [], _, h => h.elim
theorem DRel_any {w : World} {S S' : Nat → Prop} {x : D} {v : Value} (hl : litD x = true) (h : DRel w S x v) : DRel w S' x v := by
  cases x with
  | one c => cases c with
    | lit y => exact h
    | _ => simp [litD, litC] at hl
  | agg cs => obtain ⟨vs, h1, h2⟩ := h; exact ⟨vs, h1, RepVals_any hl h2⟩
  | clip _ => simp [litD] at hl
theorem DsRel_any {w : World} {S S' : Nat → Prop} : ∀ {r : List D} {vs : List Value}, r.all litD = true → DsRel w S r vs → DsRel w S' r vs
  | [], [], _, _ => trivial
  | x :: r, v :: vs, hl, h => by
    simp only [List.all_cons, Bool.and_eq_true] at hl
    exact ⟨DRel_any hl.1 h.1, DsRel_any hl.2 h.2⟩
  | [], _ :: _, _, h => h.elim
  | _ :: _, [], _, h => h.elim
theorem ARel_any {w : World} {S S' : Nat → Prop} {L : Lay} : ∀ {r : List D} {v : Value}, r.all litD = true → ARel w S L (retA r) v → ARel w S' L (retA r) v
  | [], _, _, h => by obtain ⟨vs, h1, h2⟩ := h; exact ⟨vs, h1, DsRel_any rfl h2⟩
  | [x], v, hl, h => by
    simp only [List.all_cons, List.all_nil, Bool.and_true] at hl
    exact DRel_any (x := x) (v := v) hl h
  | x :: y :: z, _, hl, h => by obtain ⟨vs, h1, h2⟩ := h; exact ⟨vs, h1, DsRel_any hl h2⟩
/-- A contract told of data, as one told of nothing lent. -/
theorem con_P {e : Env} {f : FuncId} {args r : List D} (h : Con e f args r) : ConP e f args [] (fun r' pm => r' = r ∧ pm = []) := by
  refine ⟨h.1, fun w S vs hS hE hG hpm ha hv => (h.2 w S vs hS hE hG hv).mono ?_⟩
  rintro en w' ⟨v, h1, h2, h3, h4⟩
  refine ⟨v, r, [], h1, ⟨rfl, rfl⟩, ⟨h2.os, h2.tape, h2.output, h2.drawn, h2.size, fun k hk hn => h2.block k hk (fun h => hn (.inl h))⟩, h3, fun x hx => by simp at hx, trivial, ?_⟩
  exact ARel.keep (Nat.le_refl _) (fun _ _ _ => rfl) (fun b hb => ⟨hb.elim .inl (fun h => .inr (.inr h)), fun ⟨x, hx, _⟩ => by simp at hx⟩) h4
theorem pin_lt {w : World} {S : Nat → Prop} {x : Bk} (hs : isSet x = true) (h : PinRel w S x) {g : Nat} (hg : pblk x g) : g < w.heap.size ∧ ¬ S g := by
  cases x with
  | set E G => exact h.1 g hg
  | _ => simp [isSet] at hs
theorem pin_move {w w' : World} {S S' : Nat → Prop} {x : Bk} (hs : isSet x = true) (h : PinRel w S x) (hz : w.heap.size ≤ w'.heap.size) (hk : ∀ b, pblk x b → w'.heap[b]? = w.heap[b]?) (hS : ∀ b, pblk x b → ¬ S' b) : PinRel w' S' x := by
  cases x with
  | set E G => exact ⟨fun b hb => ⟨Nat.lt_of_lt_of_le (h.1 b hb).1 hz, hS b hb⟩, h.2.2 w w' hz hk h.2.1, h.2.2⟩
  | _ => simp [isSet] at hs
theorem apart_app : ∀ {a b : List Bk}, Apart a → Apart b → (∀ x ∈ a, ∀ y ∈ b, ∀ g, pblk x g → ¬ pblk y g) → Apart (a ++ b)
  | [], _, _, h, _ => h
  | x :: a, b, ⟨h1, h2⟩, h, hd => ⟨fun y hy g hx hg => (List.mem_append.1 hy).elim (fun q => h1 y q g hx hg) (fun q => hd x List.mem_cons_self y q g hx hg), apart_app h2 h (fun z hz => hd z (List.mem_cons_of_mem _ hz))⟩
/-- A contract told of data, used where the data are trees that the caller lends. -/
theorem conP_read {e : Env} {f : FuncId} {data lits : List D} {R : List D → List Bk → Prop} (pm : List Bk) (h : ConP e f data [] R) (hset : pm.all isSet = true) (hR : ∀ r q, R r q → r.all litD = true ∧ q.all isSet = true)
    (hx : ∀ (w : World) (S : Nat → Prop) (vs : List Value), (∀ x ∈ pm, PinRel w S x) → DsRel w S lits vs → DsRel w (fun b => S b ∨ pblks pm b) data vs) : ConP e f lits pm (fun r q => ∃ q1, R r q1 ∧ q = q1 ++ pm) := by
  refine ⟨h.1, fun w S vs hS hE hG hpm ha hv => ?_⟩
  have hset' : ∀ x ∈ pm, isSet x = true := fun x hx => List.all_eq_true.1 hset x hx
  have hlt : ∀ g, pblks pm g → g < w.heap.size ∧ ¬ S g ∧ ¬ e.E g := fun g ⟨x, hxm, hg⟩ => ⟨(pin_lt (hset' x hxm) (hpm x hxm).1 hg).1, (pin_lt (hset' x hxm) (hpm x hxm).1 hg).2, (hpm x hxm).2 g hg⟩
  refine (h.2 w (fun b => S b ∨ pblks pm b) vs (fun b hb => hb.elim (hS b) (fun q => ⟨(hlt b q).1, (hlt b q).2.2⟩)) hE hG (fun x hx => by simp at hx) trivial (hx w S vs (fun x hx => (hpm x hx).1) hv)).mono ?_
  rintro en w' ⟨v, r, q1, h1, h2, h3, h4, h5, h6, h7⟩
  obtain ⟨l1, l2⟩ := hR r q1 h2
  have l2' : ∀ x ∈ q1, isSet x = true := fun x hx => List.all_eq_true.1 l2 x hx
  have hnew : ∀ x ∈ q1, ∀ g, pblk x g → w.heap.size ≤ g := fun x hx g hg => ((h5 x hx).2 g hg).elim (fun ⟨y, hy, _⟩ => by simp at hy) id
  have hnil : ∀ b, ¬ pblks [] b := fun b ⟨y, hy, _⟩ => by simp at hy
  refine ⟨v, r, q1 ++ pm, h1, ⟨q1, h2, rfl⟩, ⟨h3.os, h3.tape, h3.output, h3.drawn, h3.size, fun k hk hn => h3.block k hk (fun q => q.elim (fun q => hn (.inl q)) (fun q => hnil k q))⟩, h4, fun x hxm => ?_, apart_app h6 ha (fun x hx y hy g hg hg2 => ?_), ARel_any l1 h7⟩
  · rcases List.mem_append.1 hxm with hq | hq
    · refine ⟨pin_move (l2' x hq) (h5 x hq).1 (Nat.le_refl _) (fun _ _ => rfl) (fun b hb hn => hn.2 ⟨x, List.mem_append.2 (.inl hq), hb⟩), fun g hg => .inr (hnew x hq g hg)⟩
    · refine ⟨pin_move (hset' x hq) (hpm x hq).1 h3.size (fun b hb => h3.block b (hlt b ⟨x, hq, hb⟩).1 (fun q => q.elim (hlt b ⟨x, hq, hb⟩).2.2 (hnil b))) (fun b hb hn => hn.2 ⟨x, List.mem_append.2 (.inr hq), hb⟩), fun g hg => .inl ⟨x, hq, hg⟩⟩
  · have := hnew x hx g hg
    have := (hlt g ⟨y, hy, hg2⟩).1
    omega
end Go.Proofs.Ytmpcbijkbgmjkaa

namespace Go.Proofs.Ytmpcbijkbgmjkaa
open Go.RowKit

/-- Literal arguments, told as the trees that lie there. -/
def Read1 (pm : List Bk) (l d : D) : Prop := l = d ∨ (∃ us row E, l = .agg (litRow us) ∧ d = .agg row ∧ .set E (fun w => OwnVals w row E us) ∈ pm) ∨ (∃ v rows E, l = .one (.lit v) ∧ d = .one (.sl rows) ∧ .set E (fun w => Own w (.sl rows) E v) ∈ pm)
def Reads (pm : List Bk) : List D → List D → Prop
  | [], [] => True
  | l :: ls, d :: ds => Read1 pm l d ∧ Reads pm ls ds
  | _, _ => False
theorem Read1.same {pm : List Bk} {d : D} : Read1 pm d d := .inl rfl
theorem Read1.tree {pm : List Bk} {us : List Value} {row : List C} {E : Nat → Prop} (h : .set E (fun w => OwnVals w row E us) ∈ pm) : Read1 pm (.agg (litRow us)) (.agg row) := .inr (.inl ⟨us, row, E, rfl, rfl, h⟩)
theorem Read1.treeS {pm : List Bk} {v : Value} {rows : List (List C)} {E : Nat → Prop} (h : .set E (fun w => Own w (.sl rows) E v) ∈ pm) : Read1 pm (.one (.lit v)) (.one (.sl rows)) := .inr (.inr ⟨v, rows, E, rfl, rfl, h⟩)
theorem Reads.rel {pm : List Bk} : ∀ {lits data : List D}, Reads pm lits data → ∀ (w : World) (S : Nat → Prop) (vs : List Value), (∀ x ∈ pm, PinRel w S x) → DsRel w S lits vs → DsRel w (fun b => S b ∨ pblks pm b) data vs
  | [], [], _, w, S, [], _, _ => trivial
  | [], [], _, w, S, _ :: _, _, h => h.elim
  | l :: ls, d :: ds, hr, w, S, [], _, h => h.elim
  | l :: ls, d :: ds, ⟨h1, h2⟩, w, S, v :: vs, hp, ⟨hv, hvs⟩ => by
    refine ⟨?_, Reads.rel h2 w S vs hp hvs⟩
    rcases h1 with rfl | ⟨us, row, E, rfl, rfl, hm⟩ | ⟨u, rows, E, rfl, rfl, hm⟩
    · exact DRel.keep (Nat.le_refl _) (fun _ _ _ => rfl) (fun b hb => .inl hb) hv
    · obtain ⟨vs', rfl, hr⟩ := hv
      rw [RepVals_lit hr]
      obtain ⟨_, h3, _⟩ := hp _ hm
      exact ⟨us, rfl, OwnVals.rep row E _ us (fun b hb => .inr ⟨_, hm, hb⟩) h3⟩
    · have hv : v = u := hv
      subst hv
      obtain ⟨_, h3, _⟩ := hp _ hm
      exact (Own.rep _ E v h3).mono fun b hb => .inr ⟨_, hm, hb⟩
  | [], _ :: _, h, _, _, _, _, _ => h.elim
  | _ :: _, [], h, _, _, _, _, _ => h.elim
/-- A call that gives memory of its own, its arguments read from trees that are lent. -/
theorem conP_rd {e : Env} {f : FuncId} {data lits : List D} {R : List D → List Bk → Prop} (pm : List Bk) (h : ConP e f data [] R) (hr : Reads pm lits data) (hset : pm.all isSet = true) (hR : ∀ r q, R r q → r.all litD = true ∧ q.all isSet = true) : ConP e f lits pm (fun r q => ∃ q1, R r q1 ∧ q = q1 ++ pm) :=
  conP_read pm h hset hR hr.rel
/-- A call that gives plain data. -/
theorem con_rd {e : Env} {f : FuncId} {data lits r : List D} (pm : List Bk) (h : Con e f data r) (hr : Reads pm lits data) (hset : pm.all isSet = true) (hl : r.all litD = true) : ConP e f lits pm (fun r' q => r' = r ∧ q = pm) := by
  have hc := conP_rd pm (con_P h) hr hset (fun r' q ⟨h1, h2⟩ => by rw [h1, h2]; exact ⟨hl, rfl⟩)
  refine ⟨hc.1, fun w S vs h1 h2 h3 h4 h5 h6 => (hc.2 w S vs h1 h2 h3 h4 h5 h6).mono ?_⟩
  rintro en w' ⟨v, r', q, k1, ⟨q1, ⟨rfl, rfl⟩, rfl⟩, k3⟩
  exact ⟨v, r', _, k1, ⟨rfl, rfl⟩, k3⟩
theorem litRow_lits (us : List Value) : (litRow us).all litC = true := by
  induction us with
  | nil => rfl
  | cons u us ih => simp only [litRow, List.map_cons, List.all_cons, litC, Bool.true_and]; exact ih
theorem RTree.lits {row : List C} {r : List D} {q : List Bk} (h : RTree row r q) : r.all litD = true ∧ q.all isSet = true := by
  obtain ⟨us, E, rfl, _, _, rfl⟩ := h
  exact ⟨by simp only [List.all_cons, List.all_nil, litD, litRow_lits]; rfl, rfl⟩
theorem RTreeS.lits {rows : List (List C)} {r : List D} {q : List Bk} (h : RTreeS rows r q) : r.all litD = true ∧ q.all isSet = true := by
  obtain ⟨v, E, rfl, _, rfl⟩ := h
  exact ⟨rfl, rfl⟩
/-- A tree and a flag. -/
def RTreeF (row : List C) (b : Bool) (r : List D) (pm : List Bk) : Prop := ∃ us E, r = [.agg (litRow us), .one (.lit (.bool b))] ∧ us.length = row.length ∧ (litRow us).all okCell = true ∧ pm = [.set E (fun w => OwnVals w row E us)]
theorem RTreeF.lits {row : List C} {b : Bool} {r : List D} {q : List Bk} (h : RTreeF row b r q) : r.all litD = true ∧ q.all isSet = true := by
  obtain ⟨us, E, rfl, _, _, rfl⟩ := h
  exact ⟨by simp only [List.all_cons, List.all_nil, litD, litRow_lits]; rfl, rfl⟩
/-- A slice's tree and a flag. -/
def RTreeSF (rows : List (List C)) (b : Bool) (r : List D) (pm : List Bk) : Prop := ∃ v E, r = [.one (.lit v), .one (.lit (.bool b))] ∧ okCell (.lit v) = true ∧ pm = [.set E (fun w => Own w (.sl rows) E v)]
theorem RTreeSF.lits {rows : List (List C)} {b : Bool} {r : List D} {q : List Bk} (h : RTreeSF rows b r q) : r.all litD = true ∧ q.all isSet = true := by
  obtain ⟨v, E, rfl, _, rfl⟩ := h
  exact ⟨rfl, rfl⟩
end Go.Proofs.Ytmpcbijkbgmjkaa

namespace Go.Proofs.Ytmpcbijkbgmjkaa
open Go.RowKit

theorem ints_bulk0 : ∀ {rows : List (List C)}, okRows (fieldsOf .int) rows → bulkRows rows = 0
  | [], _ => by simp [bulkRows]
  | r :: rs, h => by
    simp only [okRows] at h
    obtain ⟨n, rfl, _⟩ := okRow_Int h.1
    simp only [bulkRows, bulkRow, bulkC, ints_bulk0 h.2]
theorem ints_bulk {rows : List (List C)} (h : okRows (fieldsOf .int) rows) : rows.length + bulkRows rows = rows.length := by rw [ints_bulk0 h]; rfl
theorem okTm_arg {t a : Tm} {i : Nat} (h : okTm t) (ha : t.args[i]? = some a) : okTm a := by
  obtain ⟨op, nm, so, args⟩ := t
  simp only [okTm] at h
  exact h.2.2.2.mem (List.mem_of_getElem? ha)
theorem okTm_zTm : okTm zTm := by
  simp only [zTm, okTm, okTms, and_true]
  exact ⟨by unfold I64; omega, Nat.zero_le _, by unfold I64; omega⟩
theorem okTm_subAt : ∀ (ps : List Int) (t : Tm), okTm t → okTm (subAt t ps).1
  | [], t, h => h
  | p :: ps, t, h => by
    rw [subAt]
    split
    · exact okTm_zTm
    · split
      · rename_i a ha
        exact okTm_subAt ps a (okTm_arg h ha)
      · exact okTm_zTm
theorem okRow_subAt {t : Tm} {ps : List Int} (h : okTm t) (_ : ∀ x ∈ ps, I64 x) : okRow (fieldsOf .term) (encTm (subAt t ps).1) := okRow_enc _ (okTm_subAt ps t h)
theorem big_subAt {t : Tm} {ps : List Int} (b0 : bulkRow (encTm t) ≤ 1048576) : bulkRow (encTm (subAt t ps).1) ≤ 1048576 := Nat.le_trans (subAt_bulk ps t) b0
theorem con_specSub {t : Tm} {ps : List Int} (b0 : bulkRow (encTm t) ≤ 1048576) (b1 : (ps.map encInt).length + bulkRows (ps.map encInt) ≤ 1048576) : Con e0 8 [.agg (encTm t), .one (.sl (ps.map encInt))] [.agg (encTm (subAt t ps).1), .one (.lit (.bool (subAt t ps).2))] := by
  have h := con_specAt t ps (by rw [List.length_map] at b1; omega) b0 (big_subAt b0)
  cases hs : (subAt t ps).2 with
  | true => rw [hs] at h; rwa [if_pos rfl] at h
  | false => rw [hs] at h; rw [subAt_false ps t hs]; rwa [if_neg (by decide)] at h
theorem conP_implSub {t : Tm} {ps : List Int} (b0 : bulkRow (encTm t) ≤ 1048576) (b1 : (ps.map encInt).length + bulkRows (ps.map encInt) ≤ 1048576) : ConP e0 11 [.agg (encTm t), .one (.sl (ps.map encInt))] [] (RTreeF (encTm (subAt t ps).1) (subAt t ps).2) := by
  have h := con_implAt t ps (by rw [List.length_map] at b1; omega) b0
  refine ⟨h.1, fun w S vs h1 h2 h3 h4 h5 h6 => (h.2 w S vs h1 h2 h3 h4 h5 h6).mono ?_⟩
  rintro en w' ⟨v, r, q, k1, ⟨us, E, e1, e2, e3, e4⟩, k3⟩
  exact ⟨v, r, q, k1, ⟨us, E, e1, by rw [tm_len]; exact e2, e3, e4⟩, k3⟩
end Go.Proofs.Ytmpcbijkbgmjkaa

