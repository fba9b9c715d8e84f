/-
  The laws' own functions at the type Sub: what they count, copy and compare (contracts, walked).
-/
import Derived.Test.YtlhbdhdaecchoaaRows
import Derived.Test.YtlhbdhdaecchoaaBase
import Derived.Deep.RegionHeld3
set_option linter.unusedSimpArgs false
set_option linter.unusedVariables false
namespace Go.Proofs.Ytlhbdhdaecchoaa
open Go.RowKit
theorem okRow_Sub {r : List C} (h : okRow (fieldsOf .sub) r) : ∃ (i0 : Int) (i1 : Int), r = [.lit (.int .i64 i0), .lit (.int .i64 i1)] ∧ I64 i0 ∧ I64 i1 := by
  obtain ⟨c0, c1, rfl⟩ := len2 h.len
  simp only [fieldsOf, termF, occF, sortsF, sigF, moduleF, algF, List.cons_append, List.nil_append, okRow, and_true] at h
  obtain ⟨h0, h1⟩ := h
  obtain ⟨i0, rfl, g0⟩ := okC_int h0
  obtain ⟨i1, rfl, g1⟩ := okC_int h1
  exact ⟨i0, i1, rfl, g0, g1⟩
theorem mkRow_Sub {i0 : Int} {i1 : Int} (g0 : I64 i0) (g1 : I64 i1) : okRow (fieldsOf .sub) [.lit (.int .i64 i0), .lit (.int .i64 i1)] := by
  simp only [fieldsOf, termF, occF, sortsF, sigF, moduleF, algF, List.cons_append, List.nil_append, okRow, and_true]
  exact ⟨mk_int g0, mk_int g1⟩
theorem repVals_Sub {w : World} {S : Nat → Prop} {i0 : Int} {i1 : Int} {us : List Value} (h : RepVals w S [.lit (.int .i64 i0), .lit (.int .i64 i1)] us) : us = [.int .i64 i0, .int .i64 i1] := by
  obtain ⟨u0, u1, rfl⟩ := len2 h.len
  simp only [RepVals, Rep.lit_iff, and_true] at h
  obtain ⟨rfl, rfl⟩ := h
  exact rfl
theorem mkVals_Sub {w : World} {S : Nat → Prop} {i0 : Int} {i1 : Int}   : RepVals w S [.lit (.int .i64 i0), .lit (.int .i64 i1)] [.int .i64 i0, .int .i64 i1] := by
  simp only [RepVals, Rep.lit_iff, and_true]
def eqSubC (row : List C) : Prop := ∀ (S S' : Nat → Prop) (us us' : List Value) (w : World), okRow (fieldsOf .sub) row → RepVals w S row us → RepVals w S' row us' →
  Calls Try.prog 73 #[.agg us.toArray, .agg us'.toArray] w fun e w' => e = .returned (.bool true) ∧ Below w.heap.size w w'
def toSubC (row : List C) : Prop := ∀ (S : Nat → Prop) (us : List Value) (w : World), okRow (fieldsOf .sub) row → RepVals w S row us → bulkRow row ≤ 1048576 →
  Calls Try.prog 66 #[.agg us.toArray] w fun e w' => ∃ us' : List Value, e = .returned (.agg us'.toArray) ∧ OwnVals w' row (fun x => w.heap.size ≤ x ∧ x < w'.heap.size) us' ∧ Below w.heap.size w w'
def szSubSC (rows : List (List C)) : Prop := ∀ (S : Nat → Prop) (v : Value) (left : Int) (w : World), okRows (fieldsOf .sub) rows → Rep w S (.sl rows) v → 0 ≤ left → left ≤ 1048576 →
  Calls Try.prog 41 #[v, .int .i64 left] w fun e w' => e = .returned (.int .i64 (sub left (rows.length + bulkRows rows))) ∧ Below w.heap.size w w'
def eqSubSC (rows : List (List C)) : Prop := ∀ (S S' : Nat → Prop) (v v' : Value) (w : World), okRows (fieldsOf .sub) rows → Rep w S (.sl rows) v → Rep w S' (.sl rows) v' →
  Calls Try.prog 57 #[v, v'] w fun e w' => e = .returned (.bool true) ∧ Below w.heap.size w w'
def toSubSC (rows : List (List C)) : Prop := ∀ (S : Nat → Prop) (v : Value) (w : World), okRows (fieldsOf .sub) rows → Rep w S (.sl rows) v → rows.length + bulkRows rows ≤ 1048576 →
  Calls Try.prog 49 #[v] w fun e w' => ∃ v', e = .returned v' ∧ Own w' (.sl rows) (fun x => w.heap.size ≤ x ∧ x < w'.heap.size) v' ∧ Below w.heap.size w w'

set_option maxHeartbeats 1000000 in
theorem eqSub_of (row : List C) : eqSubC row := by
  intro S S' us us' w hok hv hv'
  obtain ⟨i0, i1, rfl, g0, g1⟩ := okRow_Sub hok
  obtain rfl := repVals_Sub hv
  obtain rfl := repVals_Sub hv'
  have G0 := Lib.hid g0
  have G1 := Lib.hid g1
  clear g0 g1 hok
  clear hv hv' 
  have hbw := ((Below.refl w.heap.size w).alloc (Nat.le_refl _) (.cells #[.int .i64 i0, .int .i64 i1] 110)).alloc (by simp) (.cells #[.int .i64 i0, .int .i64 i1] 110)
  go_enter Try.func73, Try.ntmps73
  go_wp2
  go_ret
  exact ⟨rfl, hbw⟩

set_option maxHeartbeats 2000000 in
theorem toSub_of (row : List C) : toSubC row := by
  intro S us w hok hv hlen
  obtain ⟨i0, i1, rfl, g0, g1⟩ := okRow_Sub hok
  obtain rfl := repVals_Sub hv
  have G0 := Lib.hid g0
  have G1 := Lib.hid g1
  clear g0 g1 hok
  clear hv 
  clear hlen
  go_enter Try.func66, Try.ntmps66
  go_wp2
  refine bodyPost_ret (v := .agg #[.int .i64 i0, .int .i64 i1]) (by simp [results, Try.results66, go_sem]) rfl ⟨[.int .i64 i0, .int .i64 i1], rfl, ?_, (by repeat (first | refine Below.alloc ?_ (by simp; try omega) _ | exact Below.refl _ _))⟩
  simp
  exact (OwnVals.lit (OwnVals.lit OwnVals.nil))
theorem eqSub_any (row : List C) : eqSubC row := eqSub_of row
theorem toSub_any (row : List C) : toSubC row := toSub_of row

theorem bulk_Sub : ∀ (rows : List (List C)), okRows (fieldsOf .sub) rows → bulkRows rows = 0
  | [], _ => by simp [bulkRows]
  | r :: rs, h => by
    obtain ⟨i0, i1, rfl, _⟩ := okRow_Sub h.1
    simp [bulkRows, bulkRow, bulkC, bulk_Sub rs h.2]
set_option maxHeartbeats 1000000 in
theorem szSubS_any (rows : List (List C)) : szSubSC rows := by
  intro S v left w hok hv h0 h1
  obtain ⟨A, m, cap, rfl, hm, hmc, hcm⟩ := hv.form
  have hz := bulk_Sub rows hok
  rw [hz, hm]
  clear hv hm hok hz
  unfold maxLen at hcm
  by_cases hlt : left - m < 0
  · rw [sub_neg (by omega)]
    go_enter Try.func41, Try.ntmps41
    go_wp2
    go_ret
    exact ⟨rfl, Below.refl _ _⟩
  · rw [sub_pos (by omega)]
    go_enter Try.func41, Try.ntmps41
    go_wp2
    go_ret
    exact ⟨ret_int (by omega), Below.refl _ _⟩

set_option maxHeartbeats 1000000 in
theorem eqSubS_of (rows : List (List C)) (h : ∀ (i : Nat) r, rows[i]? = some r → eqSubC r) : eqSubSC rows := by
  intro S S' v v' w hok hv hv'
  obtain ⟨A, m, cap, rfl, hm, hmc, hcm⟩ := hv.form
  obtain ⟨A', m', cap', rfl, hm', hmc', hcm'⟩ := hv'.form
  obtain rfl : m = m' := by omega
  have H := Lib.hid h
  have HV := Lib.hid hv
  have HV' := Lib.hid hv'
  have HM := Lib.hid hm
  have HOK := Lib.hid hok
  clear h hv hm hok hm' hv'
  unfold maxLen at hcm hcm'
  go_enter Try.func57, Try.ntmps57
  go_wp2
  go_loopw [5] (fun i wr => ∃ k : Nat, k ≤ m ∧ i = .int .i64 k ∧ Below w.heap.size w wr) (fun i _ => m - (intOf i).toNat)
  case atStart => exact ⟨0, Nat.zero_le _, rfl, Below.refl _ _⟩
  case round =>
    obtain ⟨k, hk, rfl, hb⟩ := hrel
    by_cases hkm : k < m
    · obtain ⟨b, off, r, rfl, hS, hbz, hget, hokr, hrow⟩ := (HV.out.below hb).get HOK.out hkm
      obtain ⟨b', off', r', rfl, hS', hbz', hget', hokr', hrow'⟩ := (HV'.out.below hb).get HOK.out hkm
      obtain rfl : r = r' := by rw [hget] at hget'; exact Option.some.inj hget'
      obtain ⟨u0, u1, c0, c1, hvals⟩ := hrow.vals2 hokr.len
      obtain ⟨x0, x1, d0, d1, hvals'⟩ := hrow'.vals2 hokr.len
      have HT := H.out k r hget
      have HVALS := Lib.hid hvals
      have HVALS' := Lib.hid hvals'
      have HOKR := Lib.hid hokr
      clear hvals hvals' hokr hokr' hrow hrow' hget hget'
      simp only [fieldsOf, termF, occF, sortsF, sigF, moduleF, algF, List.cons_append, List.nil_append, List.length_cons, List.length_nil, Nat.reduceAdd, Nat.mul_one] at c0 c1 d0 d1
      have k0 : (0 : Int) ≤ (k : Int) := by omega
      have k1 : (k : Int) < (m : Int) := by omega
      go_wp2_with fail
      go_region_held3 (fun w' => ∀ b o, b < wr.heap.size → w'.cell? ⟨b, o, none⟩ = wr.cell? ⟨b, o, none⟩) (first | go_keep | exact fun b o h => hb2.cell (p := ⟨b, o, none⟩) h) (first | (go_at_call 73; refine (HT S S' _ _ _ HOKR.out (HVALS.out.below (Below.refl _ _).drew) (HVALS'.out.below (Below.refl _ _).drew)).mono ?_; rintro e w' ⟨rfl, hb2⟩))
      go_wp2
      go_roundw
      case rel => exact ⟨k + 1, by omega, by go_num, hb.trans ((Below.refl _ _).drew.trans (hb2.mono hb.size))⟩
      case measure => simp [intOf]; omega
    · go_wp2
      go_ret
      exact ⟨rfl, hb⟩
theorem info_Sub : (Try.prog.info? 110).map (fun i => (i.zero, i.size, i.bytes)) = some (some (.agg #[.int .i64 0, .int .i64 0]), 2, 16) := by kernel_rfl
set_option maxHeartbeats 1000000 in
theorem toSubS_of (rows : List (List C)) (h : ∀ (i : Nat) r, rows[i]? = some r → toSubC r) : toSubSC rows := by
  intro S v w hok hv hlen
  obtain ⟨A, m, cap, rfl, hm, hmc, hcm⟩ := hv.form
  obtain ⟨i0, hi, hz0, hz1, hz2⟩ := info_parts info_Sub
  have H := Lib.hid h
  have HV := Lib.hid hv
  have HM := Lib.hid hm
  have HOK := Lib.hid hok
  have hml : m ≤ 1048576 := by omega
  clear h hv hm hok
  unfold maxLen at hcm
  have hmk := run_make (P := Try.prog) w 35 110 i0 _ Try.underlying35 hi hz0 .i64 .i64 (m : Int) (m : Int) (by omega) (by omega) (by rw [hz2]; omega) (by omega)
  go_enter Try.func49, Try.ntmps49
  go_wp2
  clear hmk
  go_loopw [4] (fun i wr => ∃ k : Nat, k ≤ m ∧ i = .int .i64 k ∧ Filling w w.heap.size 110 m 2 rows k wr) (fun i _ => m - (intOf i).toNat)
  case atStart => exact ⟨0, Nat.zero_le _, rfl, Filling.start (size_madeCells _ _)⟩
  case round =>
    obtain ⟨k, hk, rfl, hfill⟩ := hrel
    have hb := hfill.1
    by_cases hkm : k < m
    · obtain ⟨b, off, r, rfl, hS, hbz, hget, hokr, hrow⟩ := (HV.out.below hb).get HOK.out hkm
      obtain ⟨u0, u1, c0, c1, hvals⟩ := hrow.vals2 hokr.len
      have HT := H.out k r hget
      have HVALS := Lib.hid hvals
      have HOKR := Lib.hid hokr
      have HGET := Lib.hid hget
      have HF := Lib.hid hfill
      have hbg := bulk_get hget
      clear hvals hokr hrow hget hfill
      simp only [fieldsOf, termF, occF, sortsF, sigF, moduleF, algF, List.cons_append, List.nil_append, List.length_cons, List.length_nil, Nat.reduceAdd, Nat.mul_one] at c0 c1
      go_wp2_with fail
      refine (HT S _ _ HOKR.out HVALS.out (by omega)).mono ?_
      rintro e w2 ⟨us, rfl, hown, hb2⟩
      have hone := HOKR.out.one (OwnVals.rep _ _ (fun _ => True) _ (fun _ _ => trivial) hown)
      obtain ⟨y0, y1, rfl⟩ := len2 (hown.len.trans HOKR.out.len)
      have HOWN := Lib.hid hown
      have HONE := Lib.hid hone
      obtain ⟨cur, hcur, hcs⟩ := HF.out.row hb2
      have HCUR := Lib.hid hcur
      have HCS := Lib.hid hcs
      clear hown hone hcur hcs
      go_wp2_with (refine wpList_store_put rfl 110 _ _ rfl w.heap.size (k * 2) rfl [y0, y1] rfl i0 hi hz1 110 cur HCUR.out (by have := HCS.out; simp only [List.length_cons, List.length_nil]; omega) HONE.out ?_; intro w3 hput)
      go_roundw
      case rel => exact ⟨k + 1, by omega, by go_num, HF.out.step (fs := fieldsOf .sub) HOK.out HGET.out hb2 HOWN.out hput⟩
      case measure => simp [intOf]; omega
    · go_wp2
      go_ret
      have e : k = m := by omega
      subst e
      exact ⟨_, rfl, hfill.done HM.out (by unfold maxLen; omega)⟩
theorem eqSubS_any (rows : List (List C)) : eqSubSC rows := eqSubS_of rows (fun _ r _ => eqSub_any r)
theorem toSubS_any (rows : List (List C)) : toSubSC rows := toSubS_of rows (fun _ r _ => toSub_any r)
end Go.Proofs.Ytlhbdhdaecchoaa
