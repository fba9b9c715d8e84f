/-
  The laws' own functions at the type [][]int: what they count, copy and compare (contracts, walked).
-/
import Derived.Test.YtlhbdhdaecchoaaRows
import Derived.Test.YtlhbdhdaecchoaaBase
import Derived.Test.YtlhbdhdaecchoaaLInt
import Derived.Deep.RegionHeld3
set_option linter.unusedSimpArgs false
set_option linter.unusedVariables false
namespace Go.Proofs.Ytlhbdhdaecchoaa
open Go.RowKit
theorem okRow_Ints {r : List C} (h : okRow (fieldsOf .ints) r) : ∃ r0, r = [.sl r0] ∧ okRows (fieldsOf .int) r0 := by
  obtain ⟨c0, rfl⟩ := len1 h.len
  simp only [fieldsOf, okRow, and_true] at h
  obtain ⟨r0, rfl, g0⟩ := okC_sl h
  exact ⟨r0, rfl, g0⟩
theorem mkRow_Ints {r0 : List (List C)} (g0 : okRows (fieldsOf .int) r0) : okRow (fieldsOf .ints) [.sl r0] := by
  simp only [fieldsOf, okRow, and_true]
  exact mk_sl g0
def szIntsC (row : List C) : Prop := ∀ (S : Nat → Prop) (us : List Value) (left : Int) (w : World), okRow (fieldsOf .ints) row → RepVals w S row us → 0 ≤ left → left ≤ 1048576 →
  Calls Try.prog 43 #[us.getD 0 undef, .int .i64 left] w fun e w' => e = .returned (.int .i64 (sub left (bulkRow row))) ∧ Below w.heap.size w w'
def eqIntsC (row : List C) : Prop := ∀ (S S' : Nat → Prop) (us us' : List Value) (w : World), okRow (fieldsOf .ints) row → RepVals w S row us → RepVals w S' row us' →
  Calls Try.prog 59 #[us.getD 0 undef, us'.getD 0 undef] w fun e w' => e = .returned (.bool true) ∧ Below w.heap.size w w'
def toIntsC (row : List C) : Prop := ∀ (S : Nat → Prop) (us : List Value) (w : World), okRow (fieldsOf .ints) row → RepVals w S row us → bulkRow row ≤ 1048576 →
  Calls Try.prog 51 #[us.getD 0 undef] w fun e w' => ∃ v' : Value, e = .returned v' ∧ OwnVals w' row (fun x => w.heap.size ≤ x ∧ x < w'.heap.size) [v'] ∧ Below w.heap.size w w'
theorem szInts_any (row : List C) : szIntsC row := by
  intro S us left w hok hv h0 h1
  obtain ⟨r0, rfl, g0⟩ := okRow_Ints hok
  obtain ⟨u0, rfl⟩ := len1 (hv.len.trans hok.len)
  simp only [RepVals, and_true] at hv
  have := szIntS_any r0 S u0 left w g0 hv h0 h1
  simpa [bulkRow, bulkC] using this
theorem eqInts_any (row : List C) : eqIntsC row := by
  intro S S' us us' w hok hv hv'
  obtain ⟨r0, rfl, g0⟩ := okRow_Ints hok
  obtain ⟨u0, rfl⟩ := len1 (hv.len.trans hok.len)
  obtain ⟨u1, rfl⟩ := len1 (hv'.len.trans hok.len)
  simp only [RepVals, and_true] at hv hv'
  exact eqIntS_any r0 S S' u0 u1 w g0 hv hv'
theorem toInts_any (row : List C) : toIntsC row := by
  intro S us w hok hv h1
  obtain ⟨r0, rfl, g0⟩ := okRow_Ints hok
  obtain ⟨u0, rfl⟩ := len1 (hv.len.trans hok.len)
  simp only [RepVals, and_true] at hv
  refine (toIntS_any r0 S u0 w g0 hv (by simpa [bulkRow, bulkC] using h1)).mono ?_
  rintro e w' ⟨v', rfl, hown, hb⟩
  exact ⟨v', rfl, OwnVals.cons _ (fun _ => False) hown OwnVals.nil (fun _ h => h) (fun _ h => h.elim) (fun _ _ h => h), hb⟩
def szIntsSC (rows : List (List C)) : Prop := ∀ (S : Nat → Prop) (v : Value) (left : Int) (w : World), okRows (fieldsOf .ints) rows → Rep w S (.sl rows) v → 0 ≤ left → left ≤ 1048576 →
  Calls Try.prog 23 #[v, .int .i64 left] w fun e w' => e = .returned (.int .i64 (sub left (rows.length + bulkRows rows))) ∧ Below w.heap.size w w'
def eqIntsSC (rows : List (List C)) : Prop := ∀ (S S' : Nat → Prop) (v v' : Value) (w : World), okRows (fieldsOf .ints) rows → Rep w S (.sl rows) v → Rep w S' (.sl rows) v' →
  Calls Try.prog 34 #[v, v'] w fun e w' => e = .returned (.bool true) ∧ Below w.heap.size w w'
def toIntsSC (rows : List (List C)) : Prop := ∀ (S : Nat → Prop) (v : Value) (w : World), okRows (fieldsOf .ints) rows → Rep w S (.sl rows) v → rows.length + bulkRows rows ≤ 1048576 →
  Calls Try.prog 30 #[v] w fun e w' => ∃ v', e = .returned v' ∧ Own w' (.sl rows) (fun x => w.heap.size ≤ x ∧ x < w'.heap.size) v' ∧ Below w.heap.size w w'

set_option maxHeartbeats 1000000 in
theorem szIntsS_of (rows : List (List C)) (h : ∀ (i : Nat) r, rows[i]? = some r → szIntsC r) : szIntsSC rows := by
  intro S v left w hok hv h0 h1
  obtain ⟨A, m, cap, rfl, hm, hmc, hcm⟩ := hv.form
  have H := Lib.hid h
  have HV := Lib.hid hv
  have HM := Lib.hid hm
  have HOK := Lib.hid hok
  clear h hv hm hok
  unfold maxLen at hcm
  by_cases hlt : left - m < 0
  · rw [sub_neg (by have := HM.out; omega)]
    go_enter Try.func23, Try.ntmps23
    go_wp2
    go_ret
    exact ⟨rfl, Below.refl _ _⟩
  · go_enter Try.func23, Try.ntmps23
    go_wp2
    go_loopw [1, 5] (fun l i wr => ∃ k : Nat, k ≤ m ∧ i = .int .i64 k ∧ l = .int .i64 (left - m - (bulkRows (rows.take k) : Int)) ∧ 0 ≤ left - m - (bulkRows (rows.take k) : Int) ∧ Below w.heap.size w wr) (fun _ i _ => m - (intOf i).toNat)
    case atStart => exact ⟨0, Nat.zero_le _, rfl, by simp [bulkRows], by simp [bulkRows]; omega, Below.refl _ _⟩
    case round =>
      obtain ⟨k, hk, rfl, rfl, hl0, hb⟩ := hrel
      by_cases hkm : k < m
      · obtain ⟨b, off, r, rfl, hS, hbz, hget, hokr, hrow⟩ := (HV.out.below hb).get HOK.out hkm
        obtain ⟨u0, c0, hvals⟩ := hrow.vals1 hokr.len
        have HT := H.out k r hget
        have HVALS := Lib.hid hvals
        have HOKR := Lib.hid hokr
        have HBT := Lib.hid (bulk_take hget)
        have hle := bulk_take_le rows (k+1)
        clear hvals hokr hrow hget
        simp only [fieldsOf, termF, occF, sortsF, sigF, moduleF, algF, List.cons_append, List.nil_append, List.length_cons, List.length_nil, Nat.reduceAdd, Nat.mul_one] at c0
        by_cases h2 : left - m - (bulkRows (rows.take k) : Int) < bulkRow r
        · go_wp2_with fail
          refine (HT S _ _ _ HOKR.out HVALS.out (by omega) (by omega)).mono ?_
          rw [sub_neg h2]
          rintro e w' ⟨rfl, hb2⟩
          go_wp2
          go_ret
          exact ⟨ret_int (a := -1) (sub_neg (by have := HBT.out; have := HM.out; omega)).symm, hb.trans (hb2.mono hb.size)⟩
        · go_wp2_with fail
          refine (HT S _ _ _ HOKR.out HVALS.out (by omega) (by omega)).mono ?_
          rw [sub_pos (by omega)]
          rintro e w' ⟨rfl, hb2⟩
          go_wp2
          go_roundw
          case rel => exact ⟨k + 1, by omega, by go_num, by have := HBT.out; congr 1; omega, by have := HBT.out; omega, hb.trans (hb2.mono hb.size)⟩
          case measure => simp [intOf]; omega
      · go_wp2
        go_ret
        have e : k = m := by omega
        subst e
        have : rows.take k = rows := List.take_of_length_le (by have := HM.out; omega)
        rw [this] at hl0 ⊢
        exact ⟨ret_int (by have := HM.out; rw [sub_pos (by omega)]; omega), hb⟩

set_option maxHeartbeats 1000000 in
theorem eqIntsS_of (rows : List (List C)) (h : ∀ (i : Nat) r, rows[i]? = some r → eqIntsC r) : eqIntsSC rows := by
  intro S S' v v' w hok hv hv'
  obtain ⟨A, m, cap, rfl, hm, hmc, hcm⟩ := hv.form
  obtain ⟨A', m', cap', rfl, hm', hmc', hcm'⟩ := hv'.form
  obtain rfl : m = m' := by omega
  have H := Lib.hid h
  have HV := Lib.hid hv
  have HV' := Lib.hid hv'
  have HM := Lib.hid hm
  have HOK := Lib.hid hok
  clear h hv hm hok hm' hv'
  unfold maxLen at hcm hcm'
  go_enter Try.func34, Try.ntmps34
  go_wp2
  go_loopw [5] (fun i wr => ∃ k : Nat, k ≤ m ∧ i = .int .i64 k ∧ Below w.heap.size w wr) (fun i _ => m - (intOf i).toNat)
  case atStart => exact ⟨0, Nat.zero_le _, rfl, Below.refl _ _⟩
  case round =>
    obtain ⟨k, hk, rfl, hb⟩ := hrel
    by_cases hkm : k < m
    · obtain ⟨b, off, r, rfl, hS, hbz, hget, hokr, hrow⟩ := (HV.out.below hb).get HOK.out hkm
      obtain ⟨b', off', r', rfl, hS', hbz', hget', hokr', hrow'⟩ := (HV'.out.below hb).get HOK.out hkm
      obtain rfl : r = r' := by rw [hget] at hget'; exact Option.some.inj hget'
      obtain ⟨u0, c0, hvals⟩ := hrow.vals1 hokr.len
      obtain ⟨x0, d0, hvals'⟩ := hrow'.vals1 hokr.len
      have HT := H.out k r hget
      have HVALS := Lib.hid hvals
      have HVALS' := Lib.hid hvals'
      have HOKR := Lib.hid hokr
      clear hvals hvals' hokr hokr' hrow hrow' hget hget'
      simp only [fieldsOf, termF, occF, sortsF, sigF, moduleF, algF, List.cons_append, List.nil_append, List.length_cons, List.length_nil, Nat.reduceAdd, Nat.mul_one] at c0 d0
      have k0 : (0 : Int) ≤ (k : Int) := by omega
      have k1 : (k : Int) < (m : Int) := by omega
      go_wp2_with fail
      go_region_held3 (fun w' => ∀ b o, b < wr.heap.size → w'.cell? ⟨b, o, none⟩ = wr.cell? ⟨b, o, none⟩) (first | go_keep | exact fun b o h => hb2.cell (p := ⟨b, o, none⟩) h) (first | (go_at_call 59; refine (HT S S' _ _ _ HOKR.out (HVALS.out.below (Below.refl _ _).drew) (HVALS'.out.below (Below.refl _ _).drew)).mono ?_; rintro e w' ⟨rfl, hb2⟩))
      go_wp2
      go_roundw
      case rel => exact ⟨k + 1, by omega, by go_num, hb.trans ((Below.refl _ _).drew.trans (hb2.mono hb.size))⟩
      case measure => simp [intOf]; omega
    · go_wp2
      go_ret
      exact ⟨rfl, hb⟩
theorem info_Ints : (Try.prog.info? 59).map (fun i => (i.zero, i.size, i.bytes)) = some (some (.slice none 0 0), 1, 24) := by kernel_rfl
set_option maxHeartbeats 1000000 in
theorem toIntsS_of (rows : List (List C)) (h : ∀ (i : Nat) r, rows[i]? = some r → toIntsC r) : toIntsSC rows := by
  intro S v w hok hv hlen
  obtain ⟨A, m, cap, rfl, hm, hmc, hcm⟩ := hv.form
  obtain ⟨i0, hi, hz0, hz1, hz2⟩ := info_parts info_Ints
  have H := Lib.hid h
  have HV := Lib.hid hv
  have HM := Lib.hid hm
  have HOK := Lib.hid hok
  have hml : m ≤ 1048576 := by omega
  clear h hv hm hok
  unfold maxLen at hcm
  have hmk := run_make (P := Try.prog) w 29 59 i0 _ Try.underlying29 hi hz0 .i64 .i64 (m : Int) (m : Int) (by omega) (by omega) (by rw [hz2]; omega) (by omega)
  go_enter Try.func30, Try.ntmps30
  go_wp2
  clear hmk
  go_loopw [4] (fun i wr => ∃ k : Nat, k ≤ m ∧ i = .int .i64 k ∧ Filling w w.heap.size 59 m 1 rows k wr) (fun i _ => m - (intOf i).toNat)
  case atStart => exact ⟨0, Nat.zero_le _, rfl, Filling.start (by rw [size_madeCells]; omega)⟩
  case round =>
    obtain ⟨k, hk, rfl, hfill⟩ := hrel
    have hb := hfill.1
    by_cases hkm : k < m
    · obtain ⟨b, off, r, rfl, hS, hbz, hget, hokr, hrow⟩ := (HV.out.below hb).get HOK.out hkm
      obtain ⟨u0, c0, hvals⟩ := hrow.vals1 hokr.len
      have HT := H.out k r hget
      have HVALS := Lib.hid hvals
      have HOKR := Lib.hid hokr
      have HGET := Lib.hid hget
      have HF := Lib.hid hfill
      have hbg := bulk_get hget
      clear hvals hokr hrow hget hfill
      simp only [fieldsOf, termF, occF, sortsF, sigF, moduleF, algF, List.cons_append, List.nil_append, List.length_cons, List.length_nil, Nat.reduceAdd, Nat.mul_one] at c0
      go_wp2_with fail
      refine (HT S _ _ HOKR.out HVALS.out (by omega)).mono ?_
      rintro e w2 ⟨y0, rfl, hown, hb2⟩
      have hone := HOKR.out.one (OwnVals.rep _ _ (fun _ => True) _ (fun _ _ => trivial) hown)
      have hform : ∃ A1 n1 c1, y0 = Value.slice A1 n1 c1 := by
        obtain ⟨r0, rfl, _⟩ := okRow_Ints HOKR.out
        have hr := OwnVals.rep _ _ (fun _ => True) _ (fun _ _ => trivial) hown
        simp only [RepVals, and_true] at hr
        obtain ⟨A1, n1, c1, e1, _⟩ := hr.form
        exact ⟨A1, n1, c1, e1⟩
      obtain ⟨A1, n1, c1, rfl⟩ := hform
      have HOWN := Lib.hid hown
      have HONE := Lib.hid hone
      obtain ⟨cur, hcur, hcs⟩ := HF.out.row hb2
      have HCUR := Lib.hid hcur
      have HCS := Lib.hid hcs
      clear hown hone hcur hcs
      go_wp2_with (refine wpList_store_put rfl 59 _ _ rfl w.heap.size k rfl [.slice A1 n1 c1] rfl i0 hi hz1 59 cur HCUR.out (by have := HCS.out; simp only [List.length_cons, List.length_nil]; omega) HONE.out ?_; intro w3 hput)
      go_roundw
      case rel => exact ⟨k + 1, by omega, by go_num, HF.out.step (fs := fieldsOf .ints) HOK.out HGET.out hb2 HOWN.out (by simpa [fieldsOf] using hput)⟩
      case measure => simp [intOf]; omega
    · go_wp2
      go_ret
      have e : k = m := by omega
      subst e
      exact ⟨_, rfl, hfill.done HM.out (by unfold maxLen; omega)⟩
theorem szIntsS_any (rows : List (List C)) : szIntsSC rows := szIntsS_of rows (fun _ r _ => szInts_any r)
theorem eqIntsS_any (rows : List (List C)) : eqIntsSC rows := eqIntsS_of rows (fun _ r _ => eqInts_any r)
theorem toIntsS_any (rows : List (List C)) : toIntsSC rows := toIntsS_of rows (fun _ r _ => toInts_any r)
end Go.Proofs.Ytlhbdhdaecchoaa
