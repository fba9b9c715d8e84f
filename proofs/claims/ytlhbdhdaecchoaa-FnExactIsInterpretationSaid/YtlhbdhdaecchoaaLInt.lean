/-
  The laws' own functions at the type Int: what they count, copy and compare (contracts, walked).
-/
import Derived.Test.YtlhbdhdaecchoaaRows
import Derived.Test.YtlhbdhdaecchoaaBase
import Derived.Deep.QuietTactic
import Derived.BigQuiet
import Derived.Deep.RegionHeld3
set_option linter.unusedSimpArgs false
set_option linter.unusedVariables false
namespace Go.Proofs.Ytlhbdhdaecchoaa
open Go.RowKit
theorem okRow_Int {r : List C} (h : okRow (fieldsOf .int) r) : ∃ x0 : Int, r = [.lit (.int .i64 x0)] ∧ I64 x0 := by
  obtain ⟨c0, rfl⟩ := len1 h.len
  simp only [fieldsOf, okRow, and_true] at h
  have h0 := h
  obtain ⟨x0, rfl, g0⟩ := okC_int h0
  exact ⟨x0, rfl, g0⟩
theorem mkRow_Int {x0 : Int} (g0 : I64 x0) : okRow (fieldsOf .int) [.lit (.int .i64 x0)] := by
  simp only [fieldsOf, okRow, and_true]
  exact mk_int g0
def szIntSC (rows : List (List C)) : Prop := ∀ (S : Nat → Prop) (v : Value) (left : Int) (w : World), okRows (fieldsOf .int) rows → Rep w S (.sl rows) v → 0 ≤ left → left ≤ 1048576 →
  Calls Try.prog 43 #[v, .int .i64 left] w fun e w' => e = .returned (.int .i64 (sub left (rows.length + bulkRows rows))) ∧ Below w.heap.size w w'
def eqIntSC (rows : List (List C)) : Prop := ∀ (S S' : Nat → Prop) (v v' : Value) (w : World), okRows (fieldsOf .int) rows → Rep w S (.sl rows) v → Rep w S' (.sl rows) v' →
  Calls Try.prog 59 #[v, v'] w fun e w' => e = .returned (.bool true) ∧ Below w.heap.size w w'
def toIntSC (rows : List (List C)) : Prop := ∀ (S : Nat → Prop) (v : Value) (w : World), okRows (fieldsOf .int) rows → Rep w S (.sl rows) v → rows.length + bulkRows rows ≤ 1048576 →
  Calls Try.prog 51 #[v] w fun e w' => ∃ v', e = .returned v' ∧ Own w' (.sl rows) (fun x => w.heap.size ≤ x ∧ x < w'.heap.size) v' ∧ Below w.heap.size w w'
theorem bulk_Int : ∀ (rows : List (List C)), okRows (fieldsOf .int) rows → bulkRows rows = 0
  | [], _ => by simp [bulkRows]
  | r :: rs, h => by
    obtain ⟨x0, rfl, _⟩ := okRow_Int h.1
    simp [bulkRows, bulkRow, bulkC, bulk_Int rs h.2]
set_option maxHeartbeats 1000000 in
theorem szIntS_any (rows : List (List C)) : szIntSC rows := by
  intro S v left w hok hv h0 h1
  obtain ⟨A, m, cap, rfl, hm, hmc, hcm⟩ := hv.form
  have hz := bulk_Int rows hok
  rw [hz, hm]
  clear hv hm hok hz
  unfold maxLen at hcm
  by_cases hlt : left - m < 0
  · rw [sub_neg (by omega)]
    go_enter Try.func43, Try.ntmps43
    go_wp2
    go_ret
    exact ⟨rfl, Below.refl _ _⟩
  · rw [sub_pos (by omega)]
    go_enter Try.func43, Try.ntmps43
    go_wp2
    go_ret
    exact ⟨ret_int (by omega), Below.refl _ _⟩
set_option maxHeartbeats 1000000 in
theorem eqIntS_any (rows : List (List C)) : eqIntSC rows := by
  intro S S' v v' w hok hv hv'
  obtain ⟨A, m, cap, rfl, hm, hmc, hcm⟩ := hv.form
  obtain ⟨A', m', cap', rfl, hm', hmc', hcm'⟩ := hv'.form
  obtain rfl : m = m' := by omega
  have HV := Lib.hid hv
  have HV' := Lib.hid hv'
  have HM := Lib.hid hm
  have HOK := Lib.hid hok
  clear hv hm hok hm' hv'
  unfold maxLen at hcm hcm'
  go_enter Try.func59, Try.ntmps59
  go_wp2
  go_loopw [5] (fun i wr => ∃ k : Nat, k ≤ m ∧ i = .int .i64 k ∧ Below w.heap.size w wr) (fun i _ => m - (intOf i).toNat)
  case atStart => exact ⟨0, Nat.zero_le _, rfl, Below.refl _ _⟩
  case round =>
    obtain ⟨k, hk, rfl, hb⟩ := hrel
    by_cases hkm : k < m
    · obtain ⟨b, off, r, rfl, hS, hbz, hget, hokr, hrow⟩ := (HV.out.below hb).get HOK.out hkm
      obtain ⟨b', off', r', rfl, hS', hbz', hget', hokr', hrow'⟩ := (HV'.out.below hb).get HOK.out hkm
      obtain rfl : r = r' := by rw [hget] at hget'; exact Option.some.inj hget'
      obtain ⟨u0, c0, hvals⟩ := hrow.vals1 hokr.len
      obtain ⟨u1, d0, hvals'⟩ := hrow'.vals1 hokr.len
      obtain ⟨x0, rfl, g0⟩ := okRow_Int hokr
      simp only [RepVals, Rep.lit_iff, and_true] at hvals hvals'
      subst hvals
      subst hvals'
      clear hokr hokr' hrow hrow' hget hget' g0
      simp only [fieldsOf, List.length_cons, List.length_nil, Nat.reduceAdd, Nat.mul_one] at c0 d0
      have k0 : (0 : Int) ≤ (k : Int) := by omega
      have k1 : (k : Int) < (m : Int) := by omega
      go_wp2_with fail
      go_quiet (fail)
      go_wp2
      go_roundw
      case rel => exact ⟨k + 1, by omega, by go_num, hb.trans (below_drewN (Below.refl _ _) _)⟩
      case measure => simp [intOf]; omega
    · go_wp2
      go_ret
      exact ⟨rfl, hb⟩
theorem info_Int : (Try.prog.info? 3).map (fun i => (i.zero, i.size, i.bytes)) = some (some (.int .i64 0), 1, 8) := by kernel_rfl
set_option maxHeartbeats 1000000 in
theorem toIntS_any (rows : List (List C)) : toIntSC rows := by
  intro S v w hok hv hlen
  obtain ⟨A, m, cap, rfl, hm, hmc, hcm⟩ := hv.form
  obtain ⟨i0, hi, hz0, hz1, hz2⟩ := info_parts info_Int
  have HV := Lib.hid hv
  have HM := Lib.hid hm
  have HOK := Lib.hid hok
  have hml : m ≤ 1048576 := by omega
  clear hv hm hok
  unfold maxLen at hcm
  have hmk := run_make (P := Try.prog) w 59 3 i0 _ Try.underlying59 hi hz0 .i64 .i64 (m : Int) (m : Int) (by omega) (by omega) (by rw [hz2]; omega) (by omega)
  go_enter Try.func51, Try.ntmps51
  go_wp2
  clear hmk
  go_loopw [4] (fun i wr => ∃ k : Nat, k ≤ m ∧ i = .int .i64 k ∧ Filling w w.heap.size 3 m 1 rows k wr) (fun i _ => m - (intOf i).toNat)
  case atStart => exact ⟨0, Nat.zero_le _, rfl, Filling.start (by rw [size_madeCells]; omega)⟩
  case round =>
    obtain ⟨k, hk, rfl, hfill⟩ := hrel
    have hb := hfill.1
    by_cases hkm : k < m
    · obtain ⟨b, off, r, rfl, hS, hbz, hget, hokr, hrow⟩ := (HV.out.below hb).get HOK.out hkm
      obtain ⟨u0, c0, hvals⟩ := hrow.vals1 hokr.len
      obtain ⟨x0, rfl, g0⟩ := okRow_Int hokr
      simp only [RepVals, Rep.lit_iff, and_true] at hvals
      subst hvals
      have HGET := Lib.hid hget
      have HF := Lib.hid hfill
      obtain ⟨cur, hcur, hcs⟩ := HF.out.row (Below.refl _ _)
      have HCUR := Lib.hid hcur
      have HCS := Lib.hid hcs
      clear hokr hrow hget hfill g0 hcur hcs
      simp only [fieldsOf, List.length_cons, List.length_nil, Nat.reduceAdd, Nat.mul_one] at c0
      go_wp2_with (refine wpList_store_put rfl 3 _ _ rfl w.heap.size k rfl [.int .i64 x0] rfl i0 hi hz1 3 cur HCUR.out (by have := HCS.out; simp only [List.length_cons, List.length_nil]; omega) (by simp [Value.oneCell']) ?_; intro w3 hput)
      go_roundw
      case rel => exact ⟨k + 1, by omega, by go_num, HF.out.step (fs := fieldsOf .int) HOK.out HGET.out (Below.refl _ _) (OwnVals.lit OwnVals.nil) (by simpa [fieldsOf] using hput)⟩
      case measure => simp [intOf]; omega
    · go_wp2
      go_ret
      have e : k = m := by omega
      subst e
      exact ⟨_, rfl, hfill.done HM.out (by unfold maxLen; omega)⟩
end Go.Proofs.Ytlhbdhdaecchoaa
