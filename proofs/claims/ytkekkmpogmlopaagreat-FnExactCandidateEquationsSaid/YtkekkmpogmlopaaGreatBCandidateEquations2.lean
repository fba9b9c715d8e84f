/-
  Part of a proof: LInt, LDecl, LOp, LSignature, Enc, Alg0, Qe, Qh, Ow, Sb, LTerm, Tm, Cmp, Qg, Te0, Cp, Cmp2, Cmp3, Cmp4, Sp, Sn.
-/
import Derived.Test.YtkekkmpogmlopaaGreatBCandidateEquations0
import Derived.Test.YtkekkmpogmlopaaGreatBCandidateEquations1
import Derived.Test.YtkekkmpogmlopaaGreatRows
import Derived.Deep.QuietTactic
import Derived.BigQuiet
import Derived.Deep.RegionHeld3
import Derived.Lib.Bytealg
set_option linter.unusedSimpArgs false
set_option linter.unusedVariables false
namespace Go.Proofs.YtkekkmpogmlopaaGreat
open Go.RowKit
theorem okRow_Int {r : List C} (h : okRow (fieldsOf .int) r) : ∃ x0 : Int, r = [.lit (.int .i64 x0)] ∧ I64 x0 := by
  obtain ⟨c0, rfl⟩ := len1 h.len
  simp only [fieldsOf, okRow, and_true] at h
  have h0 := h
  obtain ⟨x0, rfl, g0⟩ := okC_int h0
  exact ⟨x0, rfl, g0⟩
theorem mkRow_Int {x0 : Int} (g0 : I64 x0) : okRow (fieldsOf .int) [.lit (.int .i64 x0)] := by
  simp only [fieldsOf, okRow, and_true]
  exact mk_int g0
def szIntSC (rows : List (List C)) : Prop := ∀ (S : Nat -> Prop) (v : Value) (left : Int) (w : World), okRows (fieldsOf .int) rows -> Rep w S (.sl rows) v -> 0 <= left -> left <= 1048576 ->
  Calls Tryz.prog 57 #[v, .int .i64 left] w fun e w' => e = .returned (.int .i64 (sub left (rows.length + bulkRows rows))) ∧ Below w.heap.size w w'
def eqIntSC (rows : List (List C)) : Prop := ∀ (S S' : Nat -> Prop) (v v' : Value) (w : World), okRows (fieldsOf .int) rows -> Rep w S (.sl rows) v -> Rep w S' (.sl rows) v' ->
  Calls Tryz.prog 12 #[v, v'] w fun e w' => e = .returned (.bool true) ∧ Below w.heap.size w w'
def toIntSC (rows : List (List C)) : Prop := ∀ (S : Nat -> Prop) (v : Value) (w : World), okRows (fieldsOf .int) rows -> Rep w S (.sl rows) v -> rows.length + bulkRows rows <= 1048576 ->
  Calls Tryz.prog 64 #[v] w fun e w' => ∃ v', e = .returned v' ∧ Own w' (.sl rows) (fun x => w.heap.size <= x ∧ x < w'.heap.size) v' ∧ Below w.heap.size w w'
theorem bulk_Int : ∀ (rows : List (List C)), okRows (fieldsOf .int) rows -> bulkRows rows = 0
  | [], _ => by simp [bulkRows]
  | r :: rs, h => by
    obtain ⟨x0, rfl, _⟩ := okRow_Int h.1
    simp [bulkRows, bulkRow, bulkC, bulk_Int rs h.2]
set_option maxHeartbeats 1000000 in
theorem szIntS_any (rows : List (List C)) : szIntSC rows := by
  intro S v left w hok hv h0 h1
  obtain ⟨A, m, cap, rfl, hm, hmc, hcm⟩ := hv.form
  have hz := bulk_Int rows hok
  rw [hz, hm]
  clear hv hm hok hz
  unfold maxLen at hcm
  by_cases hlt : left - m < 0
  · rw [sub_neg (by omega)]
    go_enter Tryz.func57, Tryz.ntmps57
    go_wp2
    go_ret
    exact ⟨rfl, Below.refl _ _⟩
  · rw [sub_pos (by omega)]
    go_enter Tryz.func57, Tryz.ntmps57
    go_wp2
    go_ret
    exact ⟨ret_int (by omega), Below.refl _ _⟩
set_option maxHeartbeats 1000000 in
theorem eqIntS_any (rows : List (List C)) : eqIntSC rows := by
  intro S S' v v' w hok hv hv'
  obtain ⟨A, m, cap, rfl, hm, hmc, hcm⟩ := hv.form
  obtain ⟨A', m', cap', rfl, hm', hmc', hcm'⟩ := hv'.form
  obtain rfl : m = m' := by omega
  have HV := Lib.hid hv
  have HV' := Lib.hid hv'
  have HM := Lib.hid hm
  have HOK := Lib.hid hok
  clear hv hm hok hm' hv'
  unfold maxLen at hcm hcm'
  go_enter Tryz.func12, Tryz.ntmps12
  go_wp2
  go_loopw [5] (fun i wr => ∃ k : Nat, k <= m ∧ i = .int .i64 k ∧ Below w.heap.size w wr) (fun i _ => m - (intOf i).toNat)
  case atStart => exact ⟨0, Nat.zero_le _, rfl, Below.refl _ _⟩
  case round =>
    obtain ⟨k, hk, rfl, hb⟩ := hrel
    by_cases hkm : k < m
    · obtain ⟨b, off, r, rfl, hS, hbz, hget, hokr, hrow⟩ := (HV.out.below hb).get HOK.out hkm
      obtain ⟨b', off', r', rfl, hS', hbz', hget', hokr', hrow'⟩ := (HV'.out.below hb).get HOK.out hkm
      obtain rfl : r = r' := by rw [hget] at hget'; exact Option.some.inj hget'
      obtain ⟨u0, c0, hvals⟩ := hrow.vals1 hokr.len
      obtain ⟨u1, d0, hvals'⟩ := hrow'.vals1 hokr.len
      obtain ⟨x0, rfl, g0⟩ := okRow_Int hokr
      simp only [RepVals, Rep.lit_iff, and_true] at hvals hvals'
      subst hvals
      subst hvals'
      clear hokr hokr' hrow hrow' hget hget' g0
      simp only [fieldsOf, List.length_cons, List.length_nil, Nat.reduceAdd, Nat.mul_one] at c0 d0
      have k0 : (0 : Int) <= (k : Int) := by omega
      have k1 : (k : Int) < (m : Int) := by omega
      go_wp2_with fail
      go_quiet (fail)
      go_wp2
      go_roundw
      case rel => exact ⟨k + 1, by omega, by go_num, hb.trans (below_drewN (Below.refl _ _) _)⟩
      case measure => simp [intOf]; omega
    · go_wp2
      go_ret
      exact ⟨rfl, hb⟩
theorem info_Int : (Tryz.prog.info? 3).map (fun i => (i.zero, i.size, i.bytes)) = some (some (.int .i64 0), 1, 8) := by kernel_rfl
set_option maxHeartbeats 1000000 in
theorem toIntS_any (rows : List (List C)) : toIntSC rows := by
  intro S v w hok hv hlen
  obtain ⟨A, m, cap, rfl, hm, hmc, hcm⟩ := hv.form
  obtain ⟨i0, hi, hz0, hz1, hz2⟩ := info_parts info_Int
  have HV := Lib.hid hv
  have HM := Lib.hid hm
  have HOK := Lib.hid hok
  have hml : m <= 1048576 := by omega
  clear hv hm hok
  unfold maxLen at hcm
  have hmk := run_make (P := Tryz.prog) w 37 3 i0 _ Tryz.underlying37 hi hz0 .i64 .i64 (m : Int) (m : Int) (by omega) (by omega) (by rw [hz2]; omega) (by omega)
  go_enter Tryz.func64, Tryz.ntmps64
  go_wp2
  clear hmk
  go_loopw [4] (fun i wr => ∃ k : Nat, k <= m ∧ i = .int .i64 k ∧ Filling w w.heap.size 3 m 1 rows k wr) (fun i _ => m - (intOf i).toNat)
  case atStart => exact ⟨0, Nat.zero_le _, rfl, Filling.start (by rw [size_madeCells]; omega)⟩
  case round =>
    obtain ⟨k, hk, rfl, hfill⟩ := hrel
    have hb := hfill.1
    by_cases hkm : k < m
    · obtain ⟨b, off, r, rfl, hS, hbz, hget, hokr, hrow⟩ := (HV.out.below hb).get HOK.out hkm
      obtain ⟨u0, c0, hvals⟩ := hrow.vals1 hokr.len
      obtain ⟨x0, rfl, g0⟩ := okRow_Int hokr
      simp only [RepVals, Rep.lit_iff, and_true] at hvals
      subst hvals
      have HGET := Lib.hid hget
      have HF := Lib.hid hfill
      obtain ⟨cur, hcur, hcs⟩ := HF.out.row (Below.refl _ _)
      have HCUR := Lib.hid hcur
      have HCS := Lib.hid hcs
      clear hokr hrow hget hfill g0 hcur hcs
      simp only [fieldsOf, List.length_cons, List.length_nil, Nat.reduceAdd, Nat.mul_one] at c0
      go_wp2_with (refine wpList_store_put rfl 3 _ _ rfl w.heap.size k rfl [.int .i64 x0] rfl i0 hi hz1 3 cur HCUR.out (by have := HCS.out; simp only [List.length_cons, List.length_nil]; omega) (by simp [Value.oneCell']) ?_; intro w3 hput)
      go_roundw
      case rel => exact ⟨k + 1, by omega, by go_num, HF.out.step (fs := fieldsOf .int) HOK.out HGET.out (Below.refl _ _) (OwnVals.lit OwnVals.nil) (by simpa [fieldsOf] using hput)⟩
      case measure => simp [intOf]; omega
    · go_wp2
      go_ret
      have e : k = m := by omega
      subst e
      exact ⟨_, rfl, hfill.done HM.out (by unfold maxLen; omega) (by decide) HOK.out.lens⟩
end Go.Proofs.YtkekkmpogmlopaaGreat
namespace Go.Proofs.YtkekkmpogmlopaaGreat
open Go.RowKit
theorem okRow_Decl {r : List C} (h : okRow (fieldsOf .decl) r) : ∃ (r0 : List (List C)) (i1 : Int), r = [.sl r0, .lit (.int .i64 i1)] ∧ okRows (fieldsOf .int) r0 ∧ I64 i1 := by
  obtain ⟨c0, c1, rfl⟩ := len2 h.len
  simp only [fieldsOf, termF, occF, sortsF, sigF, moduleF, algF, List.cons_append, List.nil_append, okRow, and_true] at h
  obtain ⟨h0, h1⟩ := h
  obtain ⟨r0, rfl, g0⟩ := okC_sl h0
  obtain ⟨i1, rfl, g1⟩ := okC_int h1
  exact ⟨r0, i1, rfl, g0, g1⟩
theorem repVals_Decl {w : World} {S : Nat -> Prop} {r0 : List (List C)} {i1 : Int} {us : List Value} (h : RepVals w S [.sl r0, .lit (.int .i64 i1)] us) : ∃ v0, us = [v0, .int .i64 i1] ∧ Rep w S (.sl r0) v0 := by
  obtain ⟨u0, u1, rfl⟩ := len2 h.len
  simp only [RepVals, Rep.lit_iff, and_true] at h
  obtain ⟨e0, rfl⟩ := h
  exact ⟨u0, rfl, e0⟩
def szDeclC (row : List C) : Prop := ∀ (S : Nat -> Prop) (us : List Value) (left : Int) (w : World), okRow (fieldsOf .decl) row -> RepVals w S row us -> 0 <= left -> left <= 1048576 ->
  Calls Tryz.prog 197 #[.agg us.toArray, .int .i64 left] w fun e w' => e = .returned (.int .i64 (sub left (bulkRow row))) ∧ Below w.heap.size w w'
def eqDeclC (row : List C) : Prop := ∀ (S S' : Nat -> Prop) (us us' : List Value) (w : World), okRow (fieldsOf .decl) row -> RepVals w S row us -> RepVals w S' row us' ->
  Calls Tryz.prog 200 #[.agg us.toArray, .agg us'.toArray] w fun e w' => e = .returned (.bool true) ∧ Below w.heap.size w w'
def toDeclC (row : List C) : Prop := ∀ (S : Nat -> Prop) (us : List Value) (w : World), okRow (fieldsOf .decl) row -> RepVals w S row us -> bulkRow row <= 1048576 ->
  Calls Tryz.prog 198 #[.agg us.toArray] w fun e w' => ∃ us' : List Value, e = .returned (.agg us'.toArray) ∧ OwnVals w' row (fun x => w.heap.size <= x ∧ x < w'.heap.size) us' ∧ Below w.heap.size w w'
def szDeclSC (rows : List (List C)) : Prop := ∀ (S : Nat -> Prop) (v : Value) (left : Int) (w : World), okRows (fieldsOf .decl) rows -> Rep w S (.sl rows) v -> 0 <= left -> left <= 1048576 ->
  Calls Tryz.prog 157 #[v, .int .i64 left] w fun e w' => e = .returned (.int .i64 (sub left (rows.length + bulkRows rows))) ∧ Below w.heap.size w w'
def eqDeclSC (rows : List (List C)) : Prop := ∀ (S S' : Nat -> Prop) (v v' : Value) (w : World), okRows (fieldsOf .decl) rows -> Rep w S (.sl rows) v -> Rep w S' (.sl rows) v' ->
  Calls Tryz.prog 172 #[v, v'] w fun e w' => e = .returned (.bool true) ∧ Below w.heap.size w w'
def toDeclSC (rows : List (List C)) : Prop := ∀ (S : Nat -> Prop) (v : Value) (w : World), okRows (fieldsOf .decl) rows -> Rep w S (.sl rows) v -> rows.length + bulkRows rows <= 1048576 ->
  Calls Tryz.prog 165 #[v] w fun e w' => ∃ v', e = .returned v' ∧ Own w' (.sl rows) (fun x => w.heap.size <= x ∧ x < w'.heap.size) v' ∧ Below w.heap.size w w'
set_option maxHeartbeats 1000000 in
theorem szDecl_of (row : List C) : szDeclC row := by
  intro S us left w hok hv h0 h1
  obtain ⟨r0, i1, rfl, g0, g1⟩ := okRow_Decl hok
  obtain ⟨v0, rfl, e0⟩ := repVals_Decl hv
  have HC0 := Lib.hid (szIntS_any r0)
  have HB := Lib.hid (show bulkRow [.sl r0, .lit (.int .i64 i1)] = (r0.length + bulkRows r0) from by simp only [bulkRow, bulkC]; omega)
  have G0 := Lib.hid g0
  have G1 := Lib.hid g1
  clear g0 g1 hok
  have E0 := Lib.hid e0
  clear hv e0
  generalize hrow : bulkRow [.sl r0, .lit (.int .i64 i1)] = total at HB ⊢
  clear hrow
  have hbw := (Below.refl w.heap.size w).alloc (Nat.le_refl _) (.cells #[v0, .int .i64 i1] 243)
  go_enter Tryz.func197, Tryz.ntmps197
  go_wp2_with fail
  by_cases q0 : left < ((r0.length + bulkRows r0) : Nat)
  · refine (HC0.out S _ _ _ G0.out (E0.out.below hbw) (by omega) (by omega)).mono ?_
    rw [sub_neg (by omega)]
    rintro e w1 ⟨rfl, hb1⟩
    go_wp2
    go_ret
    exact ⟨ret_int (a := -1) (sub_neg (by have := HB.out; omega)).symm, hbw.trans (hb1.mono hbw.size)⟩
  refine (HC0.out S _ _ _ G0.out (E0.out.below hbw) (by omega) (by omega)).mono ?_
  rw [sub_pos (by omega)]
  rintro e w1 ⟨rfl, hb1⟩
  obtain ⟨hc1, hf1⟩ := bcell hb1
  have hz1 : w.heap.size < w1.heap.size := (by have := hb1.size; (try simp at this); omega)
  replace hbw := hbw.trans (hb1.mono hbw.size)
  go_wp2
  go_ret
  exact ⟨ret_int (by have := HB.out; rw [sub_pos (by omega)]; omega), hbw⟩
set_option maxHeartbeats 1000000 in
theorem eqDecl_of (row : List C) : eqDeclC row := by
  intro S S' us us' w hok hv hv'
  obtain ⟨r0, i1, rfl, g0, g1⟩ := okRow_Decl hok
  obtain ⟨v0, rfl, e0⟩ := repVals_Decl hv
  obtain ⟨x0, rfl, d0⟩ := repVals_Decl hv'
  have HC0 := Lib.hid (eqIntS_any r0)
  have G0 := Lib.hid g0
  have G1 := Lib.hid g1
  clear g0 g1 hok
  have E0 := Lib.hid e0
  have D0 := Lib.hid d0
  clear hv hv' e0 d0
  have hbw := ((Below.refl w.heap.size w).alloc (Nat.le_refl _) (.cells #[v0, .int .i64 i1] 106)).alloc (by simp) (.cells #[x0, .int .i64 i1] 106)
  go_enter Tryz.func200, Tryz.ntmps200
  go_wp2_with fail
  refine (HC0.out S S' _ _ _ G0.out (E0.out.below hbw) (D0.out.below hbw)).mono ?_
  rintro e w1 ⟨rfl, hb1⟩
  obtain ⟨hc1, hf1⟩ := bcell hb1
  have hz1 : w.heap.size + 1 < w1.heap.size := (by have := hb1.size; (try simp at this); omega)
  have ha1 : w.heap.size < w1.heap.size := by omega
  replace hbw := hbw.trans (hb1.mono hbw.size)
  go_wp2
  go_ret
  exact ⟨rfl, hbw⟩
set_option maxHeartbeats 2000000 in
theorem toDecl_of (row : List C) : toDeclC row := by
  intro S us w hok hv hlen
  obtain ⟨r0, i1, rfl, g0, g1⟩ := okRow_Decl hok
  obtain ⟨v0, rfl, e0⟩ := repVals_Decl hv
  have HC0 := Lib.hid (toIntS_any r0)
  have G0 := Lib.hid g0
  have G1 := Lib.hid g1
  clear g0 g1 hok
  have E0 := Lib.hid e0
  clear hv e0
  have hl0 : (r0.length + bulkRows r0) <= 1048576 := by
    have e : (r0.length + bulkRows r0) <= bulkRow [.sl r0, .lit (.int .i64 i1)] := by simp only [bulkRow, bulkC]; omega
    exact Nat.le_trans e hlen
  clear hlen
  go_enter Tryz.func198, Tryz.ntmps198
  go_wp2_with fail
  refine (HC0.out S _ _ G0.out (by exact E0.out.below (by repeat (first | refine Below.alloc ?_ (by simp; try omega) _ | exact Below.refl _ _))) hl0).mono ?_
  rintro e w1 ⟨y0, rfl, hown0, hb1⟩
  obtain ⟨A0, n0, cap0, rfl, _, _, _⟩ := (Own.rep _ _ _ hown0).form
  have hz1 := hb1.size
  simp at hz1 hown0
  have HOWN0 := Lib.hid hown0
  clear hown0
  have hbw1 : Below w.heap.size w w1 := Below.trans (by repeat (first | refine Below.alloc ?_ (by simp; try omega) _ | exact Below.refl _ _)) (hb1.mono (by simp; try omega))
  obtain ⟨hc1, hf1⟩ := bcell hb1
  have ha1 : w.heap.size < w1.heap.size := by omega
  have hbb1 : w.heap.size + 1 < w1.heap.size := by omega
  have hcc1 : w.heap.size + 1 + 1 < w1.heap.size := by omega
  go_wp2
  refine bodyPost_ret (v := .agg #[.slice A0 n0 cap0, .int .i64 i1]) (by simp [results, Tryz.results198, go_sem, hc1, ha1, hbb1, hcc1]) rfl ⟨[.slice A0 n0 cap0, .int .i64 i1], rfl, ?_, (by repeat (first | refine Below.setCell ?_ (by simp; try omega) _ | exact hbw1))⟩
  simp
  exact (OwnVals.cons (fun x => w.heap.size + 1 + 1 + 1 <= x ∧ x < w1.heap.size) (fun x => w1.heap.size <= x ∧ x < w1.heap.size) (HOWN0.out.same (by repeat (first | refine Same.trans ?_ (Same.setCell _ _ _ _ (by simp; try omega)) | exact Same.refl _ _))) (OwnVals.lit OwnVals.nil) (fun x hx => ⟨by omega, by omega⟩) (fun x hx => ⟨by omega, by omega⟩) (fun x hx hy => by omega))
theorem szDecl_any (row : List C) : szDeclC row := szDecl_of row
theorem eqDecl_any (row : List C) : eqDeclC row := eqDecl_of row
theorem toDecl_any (row : List C) : toDeclC row := toDecl_of row
set_option maxHeartbeats 1000000 in
theorem szDeclS_of (rows : List (List C)) (h : ∀ (i : Nat) r, rows[i]? = some r -> szDeclC r) : szDeclSC rows := by
  intro S v left w hok hv h0 h1
  obtain ⟨A, m, cap, rfl, hm, hmc, hcm⟩ := hv.form
  have H := Lib.hid h
  have HV := Lib.hid hv
  have HM := Lib.hid hm
  have HOK := Lib.hid hok
  clear h hv hm hok
  unfold maxLen at hcm
  by_cases hlt : left - m < 0
  · rw [sub_neg (by have := HM.out; omega)]
    go_enter Tryz.func157, Tryz.ntmps157
    go_wp2
    go_ret
    exact ⟨rfl, Below.refl _ _⟩
  · go_enter Tryz.func157, Tryz.ntmps157
    go_wp2
    go_loopw [1, 5] (fun l i wr => ∃ k : Nat, k <= m ∧ i = .int .i64 k ∧ l = .int .i64 (left - m - (bulkRows (rows.take k) : Int)) ∧ 0 <= left - m - (bulkRows (rows.take k) : Int) ∧ Below w.heap.size w wr) (fun _ i _ => m - (intOf i).toNat)
    case atStart => exact ⟨0, Nat.zero_le _, rfl, by simp [bulkRows], by simp [bulkRows]; omega, Below.refl _ _⟩
    case round =>
      obtain ⟨k, hk, rfl, rfl, hl0, hb⟩ := hrel
      by_cases hkm : k < m
      · obtain ⟨b, off, r, rfl, hS, hbz, hget, hokr, hrow⟩ := (HV.out.below hb).get HOK.out hkm
        obtain ⟨u0, u1, c0, c1, hvals⟩ := hrow.vals2 hokr.len
        have HT := H.out k r hget
        have HVALS := Lib.hid hvals
        have HOKR := Lib.hid hokr
        have HBT := Lib.hid (bulk_take hget)
        have hle := bulk_take_le rows (k+1)
        clear hvals hokr hrow hget
        simp only [fieldsOf, termF, occF, sortsF, sigF, moduleF, algF, List.cons_append, List.nil_append, List.length_cons, List.length_nil, Nat.reduceAdd, Nat.mul_one] at c0 c1
        by_cases h2 : left - m - (bulkRows (rows.take k) : Int) < bulkRow r
        · go_wp2_with fail
          refine (HT S _ _ _ HOKR.out HVALS.out (by omega) (by omega)).mono ?_
          rw [sub_neg h2]
          rintro e w' ⟨rfl, hb2⟩
          go_wp2
          go_ret
          exact ⟨ret_int (a := -1) (sub_neg (by have := HBT.out; have := HM.out; omega)).symm, hb.trans (hb2.mono hb.size)⟩
        · go_wp2_with fail
          refine (HT S _ _ _ HOKR.out HVALS.out (by omega) (by omega)).mono ?_
          rw [sub_pos (by omega)]
          rintro e w' ⟨rfl, hb2⟩
          go_wp2
          go_roundw
          case rel => exact ⟨k + 1, by omega, by go_num, by have := HBT.out; congr 1; omega, by have := HBT.out; omega, hb.trans (hb2.mono hb.size)⟩
          case measure => simp [intOf]; omega
      · go_wp2
        go_ret
        have e : k = m := by omega
        subst e
        have : rows.take k = rows := List.take_of_length_le (by have := HM.out; omega)
        rw [this] at hl0 ⊢
        exact ⟨ret_int (by have := HM.out; rw [sub_pos (by omega)]; omega), hb⟩
set_option maxHeartbeats 1000000 in
theorem eqDeclS_of (rows : List (List C)) (h : ∀ (i : Nat) r, rows[i]? = some r -> eqDeclC r) : eqDeclSC rows := by
  intro S S' v v' w hok hv hv'
  obtain ⟨A, m, cap, rfl, hm, hmc, hcm⟩ := hv.form
  obtain ⟨A', m', cap', rfl, hm', hmc', hcm'⟩ := hv'.form
  obtain rfl : m = m' := by omega
  have H := Lib.hid h
  have HV := Lib.hid hv
  have HV' := Lib.hid hv'
  have HM := Lib.hid hm
  have HOK := Lib.hid hok
  clear h hv hm hok hm' hv'
  unfold maxLen at hcm hcm'
  go_enter Tryz.func172, Tryz.ntmps172
  go_wp2
  go_loopw [5] (fun i wr => ∃ k : Nat, k <= m ∧ i = .int .i64 k ∧ Below w.heap.size w wr) (fun i _ => m - (intOf i).toNat)
  case atStart => exact ⟨0, Nat.zero_le _, rfl, Below.refl _ _⟩
  case round =>
    obtain ⟨k, hk, rfl, hb⟩ := hrel
    by_cases hkm : k < m
    · obtain ⟨b, off, r, rfl, hS, hbz, hget, hokr, hrow⟩ := (HV.out.below hb).get HOK.out hkm
      obtain ⟨b', off', r', rfl, hS', hbz', hget', hokr', hrow'⟩ := (HV'.out.below hb).get HOK.out hkm
      obtain rfl : r = r' := by rw [hget] at hget'; exact Option.some.inj hget'
      obtain ⟨u0, u1, c0, c1, hvals⟩ := hrow.vals2 hokr.len
      obtain ⟨x0, x1, d0, d1, hvals'⟩ := hrow'.vals2 hokr.len
      have HT := H.out k r hget
      have HVALS := Lib.hid hvals
      have HVALS' := Lib.hid hvals'
      have HOKR := Lib.hid hokr
      clear hvals hvals' hokr hokr' hrow hrow' hget hget'
      simp only [fieldsOf, termF, occF, sortsF, sigF, moduleF, algF, List.cons_append, List.nil_append, List.length_cons, List.length_nil, Nat.reduceAdd, Nat.mul_one] at c0 c1 d0 d1
      have k0 : (0 : Int) <= (k : Int) := by omega
      have k1 : (k : Int) < (m : Int) := by omega
      go_wp2_with fail
      go_region_held3 (fun w' => ∀ b o, b < wr.heap.size -> w'.cell? ⟨b, o, none⟩ = wr.cell? ⟨b, o, none⟩) (first | go_keep | exact fun b o h => hb2.cell (p := ⟨b, o, none⟩) h) (first | (go_at_call 200; refine (HT S S' _ _ _ HOKR.out (HVALS.out.below (Below.refl _ _).drew) (HVALS'.out.below (Below.refl _ _).drew)).mono ?_; rintro e w' ⟨rfl, hb2⟩))
      go_wp2
      go_roundw
      case rel => exact ⟨k + 1, by omega, by go_num, hb.trans ((Below.refl _ _).drew.trans (hb2.mono hb.size))⟩
      case measure => simp [intOf]; omega
    · go_wp2
      go_ret
      exact ⟨rfl, hb⟩
theorem info_Decl : (Tryz.prog.info? 106).map (fun i => (i.zero, i.size, i.bytes)) = some (some (.agg #[.slice none 0 0, .int .i64 0]), 2, 32) := by kernel_rfl
set_option maxHeartbeats 1000000 in
theorem toDeclS_of (rows : List (List C)) (h : ∀ (i : Nat) r, rows[i]? = some r -> toDeclC r) : toDeclSC rows := by
  intro S v w hok hv hlen
  obtain ⟨A, m, cap, rfl, hm, hmc, hcm⟩ := hv.form
  obtain ⟨i0, hi, hz0, hz1, hz2⟩ := info_parts info_Decl
  have H := Lib.hid h
  have HV := Lib.hid hv
  have HM := Lib.hid hm
  have HOK := Lib.hid hok
  have hml : m <= 1048576 := by omega
  clear h hv hm hok
  unfold maxLen at hcm
  have hmk := run_make (P := Tryz.prog) w 101 106 i0 _ Tryz.underlying101 hi hz0 .i64 .i64 (m : Int) (m : Int) (by omega) (by omega) (by rw [hz2]; omega) (by omega)
  go_enter Tryz.func165, Tryz.ntmps165
  go_wp2
  clear hmk
  go_loopw [4] (fun i wr => ∃ k : Nat, k <= m ∧ i = .int .i64 k ∧ Filling w w.heap.size 106 m 2 rows k wr) (fun i _ => m - (intOf i).toNat)
  case atStart => exact ⟨0, Nat.zero_le _, rfl, Filling.start (size_madeCells _ _)⟩
  case round =>
    obtain ⟨k, hk, rfl, hfill⟩ := hrel
    have hb := hfill.1
    by_cases hkm : k < m
    · obtain ⟨b, off, r, rfl, hS, hbz, hget, hokr, hrow⟩ := (HV.out.below hb).get HOK.out hkm
      obtain ⟨u0, u1, c0, c1, hvals⟩ := hrow.vals2 hokr.len
      have HT := H.out k r hget
      have HVALS := Lib.hid hvals
      have HOKR := Lib.hid hokr
      have HGET := Lib.hid hget
      have HF := Lib.hid hfill
      have hbg := bulk_get hget
      clear hvals hokr hrow hget hfill
      simp only [fieldsOf, termF, occF, sortsF, sigF, moduleF, algF, List.cons_append, List.nil_append, List.length_cons, List.length_nil, Nat.reduceAdd, Nat.mul_one] at c0 c1
      go_wp2_with fail
      refine (HT S _ _ HOKR.out HVALS.out (by omega)).mono ?_
      rintro e w2 ⟨us, rfl, hown, hb2⟩
      have hone := HOKR.out.one (OwnVals.rep _ _ (fun _ => True) _ (fun _ _ => trivial) hown)
      obtain ⟨y0, y1, rfl⟩ := len2 (hown.len.trans HOKR.out.len)
      have HOWN := Lib.hid hown
      have HONE := Lib.hid hone
      obtain ⟨cur, hcur, hcs⟩ := HF.out.row hb2
      have HCUR := Lib.hid hcur
      have HCS := Lib.hid hcs
      clear hown hone hcur hcs
      go_wp2_with (refine wpList_store_put rfl 106 _ _ rfl w.heap.size (k * 2) rfl [y0, y1] rfl i0 hi hz1 106 cur HCUR.out (by have := HCS.out; simp only [List.length_cons, List.length_nil]; omega) HONE.out ?_; intro w3 hput)
      go_roundw
      case rel => exact ⟨k + 1, by omega, by go_num, HF.out.step (fs := fieldsOf .decl) HOK.out HGET.out hb2 HOWN.out hput⟩
      case measure => simp [intOf]; omega
    · go_wp2
      go_ret
      have e : k = m := by omega
      subst e
      exact ⟨_, rfl, hfill.done HM.out (by unfold maxLen; omega) (by decide) HOK.out.lens⟩
theorem szDeclS_any (rows : List (List C)) : szDeclSC rows := szDeclS_of rows (fun _ r _ => szDecl_any r)
theorem eqDeclS_any (rows : List (List C)) : eqDeclSC rows := eqDeclS_of rows (fun _ r _ => eqDecl_any r)
theorem toDeclS_any (rows : List (List C)) : toDeclSC rows := toDeclS_of rows (fun _ r _ => toDecl_any r)
end Go.Proofs.YtkekkmpogmlopaaGreat
namespace Go.Proofs.YtkekkmpogmlopaaGreat
open Go.RowKit
theorem okRow_Op {r : List C} (h : okRow (fieldsOf .op) r) : ∃ (t0 : ByteArray) (r1 : List (List C)) (p2 : Bool) (p3 : Bool) (i4 : Int), r = [.lit (.string t0), .sl r1, .lit (.bool p2), .lit (.bool p3), .lit (.int .i64 i4)] ∧ t0.size <= maxLen ∧ okRows (fieldsOf .decl) r1 ∧ True ∧ True ∧ I64 i4 := by
  obtain ⟨c0, c1, c2, c3, c4, rfl⟩ := len5 h.len
  simp only [fieldsOf, termF, occF, sortsF, sigF, moduleF, algF, List.cons_append, List.nil_append, okRow, and_true] at h
  obtain ⟨h0, h1, h2, h3, h4⟩ := h
  obtain ⟨t0, rfl, g0⟩ := okC_str h0
  obtain ⟨r1, rfl, g1⟩ := okC_sl h1
  obtain ⟨p2, rfl⟩ := okC_bool h2
  obtain ⟨p3, rfl⟩ := okC_bool h3
  obtain ⟨i4, rfl, g4⟩ := okC_int h4
  exact ⟨t0, r1, p2, p3, i4, rfl, g0, g1, trivial, trivial, g4⟩
theorem repVals_Op {w : World} {S : Nat -> Prop} {t0 : ByteArray} {r1 : List (List C)} {p2 : Bool} {p3 : Bool} {i4 : Int} {us : List Value} (h : RepVals w S [.lit (.string t0), .sl r1, .lit (.bool p2), .lit (.bool p3), .lit (.int .i64 i4)] us) : ∃ v1, us = [.string t0, v1, .bool p2, .bool p3, .int .i64 i4] ∧ Rep w S (.sl r1) v1 := by
  obtain ⟨u0, u1, u2, u3, u4, rfl⟩ := len5 h.len
  simp only [RepVals, Rep.lit_iff, and_true] at h
  obtain ⟨rfl, e1, rfl, rfl, rfl⟩ := h
  exact ⟨u1, rfl, e1⟩
def szOpC (row : List C) : Prop := ∀ (S : Nat -> Prop) (us : List Value) (left : Int) (w : World), okRow (fieldsOf .op) row -> RepVals w S row us -> 0 <= left -> left <= 1048576 ->
  Calls Tryz.prog 103 #[.agg us.toArray, .int .i64 left] w fun e w' => e = .returned (.int .i64 (sub left (bulkRow row))) ∧ Below w.heap.size w w'
def eqOpC (row : List C) : Prop := ∀ (S S' : Nat -> Prop) (us us' : List Value) (w : World), okRow (fieldsOf .op) row -> RepVals w S row us -> RepVals w S' row us' ->
  Calls Tryz.prog 122 #[.agg us.toArray, .agg us'.toArray] w fun e w' => e = .returned (.bool true) ∧ Below w.heap.size w w'
def toOpC (row : List C) : Prop := ∀ (S : Nat -> Prop) (us : List Value) (w : World), okRow (fieldsOf .op) row -> RepVals w S row us -> bulkRow row <= 1048576 ->
  Calls Tryz.prog 113 #[.agg us.toArray] w fun e w' => ∃ us' : List Value, e = .returned (.agg us'.toArray) ∧ OwnVals w' row (fun x => w.heap.size <= x ∧ x < w'.heap.size) us' ∧ Below w.heap.size w w'
def szOpSC (rows : List (List C)) : Prop := ∀ (S : Nat -> Prop) (v : Value) (left : Int) (w : World), okRows (fieldsOf .op) rows -> Rep w S (.sl rows) v -> 0 <= left -> left <= 1048576 ->
  Calls Tryz.prog 56 #[v, .int .i64 left] w fun e w' => e = .returned (.int .i64 (sub left (rows.length + bulkRows rows))) ∧ Below w.heap.size w w'
def eqOpSC (rows : List (List C)) : Prop := ∀ (S S' : Nat -> Prop) (v v' : Value) (w : World), okRows (fieldsOf .op) rows -> Rep w S (.sl rows) v -> Rep w S' (.sl rows) v' ->
  Calls Tryz.prog 69 #[v, v'] w fun e w' => e = .returned (.bool true) ∧ Below w.heap.size w w'
def toOpSC (rows : List (List C)) : Prop := ∀ (S : Nat -> Prop) (v : Value) (w : World), okRows (fieldsOf .op) rows -> Rep w S (.sl rows) v -> rows.length + bulkRows rows <= 1048576 ->
  Calls Tryz.prog 63 #[v] w fun e w' => ∃ v', e = .returned v' ∧ Own w' (.sl rows) (fun x => w.heap.size <= x ∧ x < w'.heap.size) v' ∧ Below w.heap.size w w'
set_option maxHeartbeats 1000000 in
theorem szOp_of (row : List C) : szOpC row := by
  intro S us left w hok hv h0 h1
  obtain ⟨t0, r1, p2, p3, i4, rfl, g0, g1, _, _, g4⟩ := okRow_Op hok
  obtain ⟨v1, rfl, e1⟩ := repVals_Op hv
  have HC1 := Lib.hid (szDeclS_any r1)
  have HB := Lib.hid (show bulkRow [.lit (.string t0), .sl r1, .lit (.bool p2), .lit (.bool p3), .lit (.int .i64 i4)] = t0.size + (r1.length + bulkRows r1) from by simp only [bulkRow, bulkC]; omega)
  have hs0 := g0
  unfold maxLen at hs0
  have G0 := Lib.hid g0
  have G1 := Lib.hid g1
  have G4 := Lib.hid g4
  clear g0 g1 g4 hok
  have E1 := Lib.hid e1
  clear hv e1
  generalize hrow : bulkRow [.lit (.string t0), .sl r1, .lit (.bool p2), .lit (.bool p3), .lit (.int .i64 i4)] = total at HB ⊢
  clear hrow
  have hbw := (Below.refl w.heap.size w).alloc (Nat.le_refl _) (.cells #[.string t0, v1, .bool p2, .bool p3, .int .i64 i4] 158)
  by_cases q0 : left - (t0.size : Int) < 0
  · go_enter Tryz.func103, Tryz.ntmps103
    go_wp2
    go_ret
    exact ⟨ret_int (a := -1) (sub_neg (by have := HB.out; omega)).symm, hbw⟩
  go_enter Tryz.func103, Tryz.ntmps103
  go_wp2_with fail
  by_cases q1 : (left - (t0.size : Int)) < ((r1.length + bulkRows r1) : Nat)
  · refine (HC1.out S _ _ _ G1.out (E1.out.below hbw) (by omega) (by omega)).mono ?_
    rw [sub_neg (by omega)]
    rintro e w1 ⟨rfl, hb1⟩
    go_wp2
    go_ret
    exact ⟨ret_int (a := -1) (sub_neg (by have := HB.out; omega)).symm, hbw.trans (hb1.mono hbw.size)⟩
  refine (HC1.out S _ _ _ G1.out (E1.out.below hbw) (by omega) (by omega)).mono ?_
  rw [sub_pos (by omega)]
  rintro e w1 ⟨rfl, hb1⟩
  obtain ⟨hc1, hf1⟩ := bcell hb1
  have hz1 : w.heap.size < w1.heap.size := (by have := hb1.size; (try simp at this); omega)
  replace hbw := hbw.trans (hb1.mono hbw.size)
  go_wp2
  go_ret
  exact ⟨ret_int (by have := HB.out; rw [sub_pos (by omega)]; omega), hbw⟩
set_option maxHeartbeats 1000000 in
theorem eqOp_of (row : List C) : eqOpC row := by
  intro S S' us us' w hok hv hv'
  obtain ⟨t0, r1, p2, p3, i4, rfl, g0, g1, _, _, g4⟩ := okRow_Op hok
  obtain ⟨v1, rfl, e1⟩ := repVals_Op hv
  obtain ⟨x1, rfl, d1⟩ := repVals_Op hv'
  have HC1 := Lib.hid (eqDeclS_any r1)
  have G0 := Lib.hid g0
  have G1 := Lib.hid g1
  have G4 := Lib.hid g4
  clear g0 g1 g4 hok
  have E1 := Lib.hid e1
  have D1 := Lib.hid d1
  clear hv hv' e1 d1
  have hbw := ((Below.refl w.heap.size w).alloc (Nat.le_refl _) (.cells #[.string t0, v1, .bool p2, .bool p3, .int .i64 i4] 103)).alloc (by simp) (.cells #[.string t0, x1, .bool p2, .bool p3, .int .i64 i4] 103)
  go_enter Tryz.func122, Tryz.ntmps122
  go_wp2_with fail
  refine (HC1.out S S' _ _ _ G1.out (E1.out.below hbw) (D1.out.below hbw)).mono ?_
  rintro e w1 ⟨rfl, hb1⟩
  obtain ⟨hc1, hf1⟩ := bcell hb1
  have hz1 : w.heap.size + 1 < w1.heap.size := (by have := hb1.size; (try simp at this); omega)
  have ha1 : w.heap.size < w1.heap.size := by omega
  replace hbw := hbw.trans (hb1.mono hbw.size)
  go_wp2
  go_ret
  exact ⟨rfl, hbw⟩
set_option maxHeartbeats 2000000 in
theorem toOp_of (row : List C) : toOpC row := by
  intro S us w hok hv hlen
  obtain ⟨t0, r1, p2, p3, i4, rfl, g0, g1, _, _, g4⟩ := okRow_Op hok
  obtain ⟨v1, rfl, e1⟩ := repVals_Op hv
  have HC1 := Lib.hid (toDeclS_any r1)
  have G0 := Lib.hid g0
  have G1 := Lib.hid g1
  have G4 := Lib.hid g4
  clear g0 g1 g4 hok
  have E1 := Lib.hid e1
  clear hv e1
  have hl1 : (r1.length + bulkRows r1) <= 1048576 := by
    have e : (r1.length + bulkRows r1) <= bulkRow [.lit (.string t0), .sl r1, .lit (.bool p2), .lit (.bool p3), .lit (.int .i64 i4)] := by simp only [bulkRow, bulkC]; omega
    exact Nat.le_trans e hlen
  clear hlen
  go_enter Tryz.func113, Tryz.ntmps113
  go_wp2_with fail
  refine (HC1.out S _ _ G1.out (by exact E1.out.below (by repeat (first | refine Below.alloc ?_ (by simp; try omega) _ | exact Below.refl _ _))) hl1).mono ?_
  rintro e w1 ⟨y1, rfl, hown1, hb1⟩
  obtain ⟨A1, n1, cap1, rfl, _, _, _⟩ := (Own.rep _ _ _ hown1).form
  have hz1 := hb1.size
  simp at hz1 hown1
  have HOWN1 := Lib.hid hown1
  clear hown1
  have hbw1 : Below w.heap.size w w1 := Below.trans (by repeat (first | refine Below.alloc ?_ (by simp; try omega) _ | exact Below.refl _ _)) (hb1.mono (by simp; try omega))
  obtain ⟨hc1, hf1⟩ := bcell hb1
  have ha1 : w.heap.size < w1.heap.size := by omega
  have hbb1 : w.heap.size + 1 < w1.heap.size := by omega
  have hcc1 : w.heap.size + 1 + 1 < w1.heap.size := by omega
  go_wp2
  refine bodyPost_ret (v := .agg #[.string t0, .slice A1 n1 cap1, .bool p2, .bool p3, .int .i64 i4]) (by simp [results, Tryz.results113, go_sem, hc1, ha1, hbb1, hcc1]) rfl ⟨[.string t0, .slice A1 n1 cap1, .bool p2, .bool p3, .int .i64 i4], rfl, ?_, (by repeat (first | refine Below.setCell ?_ (by simp; try omega) _ | exact hbw1))⟩
  simp
  exact (OwnVals.lit (OwnVals.cons (fun x => w.heap.size + 1 + 1 + 1 <= x ∧ x < w1.heap.size) (fun x => w1.heap.size <= x ∧ x < w1.heap.size) (HOWN1.out.same (by repeat (first | refine Same.trans ?_ (Same.setCell _ _ _ _ (by simp; try omega)) | exact Same.refl _ _))) (OwnVals.lit (OwnVals.lit (OwnVals.lit OwnVals.nil))) (fun x hx => ⟨by omega, by omega⟩) (fun x hx => ⟨by omega, by omega⟩) (fun x hx hy => by omega)))
theorem szOp_any (row : List C) : szOpC row := szOp_of row
theorem eqOp_any (row : List C) : eqOpC row := eqOp_of row
theorem toOp_any (row : List C) : toOpC row := toOp_of row
set_option maxHeartbeats 1000000 in
theorem szOpS_of (rows : List (List C)) (h : ∀ (i : Nat) r, rows[i]? = some r -> szOpC r) : szOpSC rows := by
  intro S v left w hok hv h0 h1
  obtain ⟨A, m, cap, rfl, hm, hmc, hcm⟩ := hv.form
  have H := Lib.hid h
  have HV := Lib.hid hv
  have HM := Lib.hid hm
  have HOK := Lib.hid hok
  clear h hv hm hok
  unfold maxLen at hcm
  by_cases hlt : left - m < 0
  · rw [sub_neg (by have := HM.out; omega)]
    go_enter Tryz.func56, Tryz.ntmps56
    go_wp2
    go_ret
    exact ⟨rfl, Below.refl _ _⟩
  · go_enter Tryz.func56, Tryz.ntmps56
    go_wp2
    go_loopw [1, 5] (fun l i wr => ∃ k : Nat, k <= m ∧ i = .int .i64 k ∧ l = .int .i64 (left - m - (bulkRows (rows.take k) : Int)) ∧ 0 <= left - m - (bulkRows (rows.take k) : Int) ∧ Below w.heap.size w wr) (fun _ i _ => m - (intOf i).toNat)
    case atStart => exact ⟨0, Nat.zero_le _, rfl, by simp [bulkRows], by simp [bulkRows]; omega, Below.refl _ _⟩
    case round =>
      obtain ⟨k, hk, rfl, rfl, hl0, hb⟩ := hrel
      by_cases hkm : k < m
      · obtain ⟨b, off, r, rfl, hS, hbz, hget, hokr, hrow⟩ := (HV.out.below hb).get HOK.out hkm
        obtain ⟨u0, u1, u2, u3, u4, c0, c1, c2, c3, c4, hvals⟩ := hrow.vals5 hokr.len
        have HT := H.out k r hget
        have HVALS := Lib.hid hvals
        have HOKR := Lib.hid hokr
        have HBT := Lib.hid (bulk_take hget)
        have hle := bulk_take_le rows (k+1)
        clear hvals hokr hrow hget
        simp only [fieldsOf, termF, occF, sortsF, sigF, moduleF, algF, List.cons_append, List.nil_append, List.length_cons, List.length_nil, Nat.reduceAdd, Nat.mul_one] at c0 c1 c2 c3 c4
        by_cases h2 : left - m - (bulkRows (rows.take k) : Int) < bulkRow r
        · go_wp2_with fail
          refine (HT S _ _ _ HOKR.out HVALS.out (by omega) (by omega)).mono ?_
          rw [sub_neg h2]
          rintro e w' ⟨rfl, hb2⟩
          go_wp2
          go_ret
          exact ⟨ret_int (a := -1) (sub_neg (by have := HBT.out; have := HM.out; omega)).symm, hb.trans (hb2.mono hb.size)⟩
        · go_wp2_with fail
          refine (HT S _ _ _ HOKR.out HVALS.out (by omega) (by omega)).mono ?_
          rw [sub_pos (by omega)]
          rintro e w' ⟨rfl, hb2⟩
          go_wp2
          go_roundw
          case rel => exact ⟨k + 1, by omega, by go_num, by have := HBT.out; congr 1; omega, by have := HBT.out; omega, hb.trans (hb2.mono hb.size)⟩
          case measure => simp [intOf]; omega
      · go_wp2
        go_ret
        have e : k = m := by omega
        subst e
        have : rows.take k = rows := List.take_of_length_le (by have := HM.out; omega)
        rw [this] at hl0 ⊢
        exact ⟨ret_int (by have := HM.out; rw [sub_pos (by omega)]; omega), hb⟩
set_option maxHeartbeats 1000000 in
theorem eqOpS_of (rows : List (List C)) (h : ∀ (i : Nat) r, rows[i]? = some r -> eqOpC r) : eqOpSC rows := by
  intro S S' v v' w hok hv hv'
  obtain ⟨A, m, cap, rfl, hm, hmc, hcm⟩ := hv.form
  obtain ⟨A', m', cap', rfl, hm', hmc', hcm'⟩ := hv'.form
  obtain rfl : m = m' := by omega
  have H := Lib.hid h
  have HV := Lib.hid hv
  have HV' := Lib.hid hv'
  have HM := Lib.hid hm
  have HOK := Lib.hid hok
  clear h hv hm hok hm' hv'
  unfold maxLen at hcm hcm'
  go_enter Tryz.func69, Tryz.ntmps69
  go_wp2
  go_loopw [5] (fun i wr => ∃ k : Nat, k <= m ∧ i = .int .i64 k ∧ Below w.heap.size w wr) (fun i _ => m - (intOf i).toNat)
  case atStart => exact ⟨0, Nat.zero_le _, rfl, Below.refl _ _⟩
  case round =>
    obtain ⟨k, hk, rfl, hb⟩ := hrel
    by_cases hkm : k < m
    · obtain ⟨b, off, r, rfl, hS, hbz, hget, hokr, hrow⟩ := (HV.out.below hb).get HOK.out hkm
      obtain ⟨b', off', r', rfl, hS', hbz', hget', hokr', hrow'⟩ := (HV'.out.below hb).get HOK.out hkm
      obtain rfl : r = r' := by rw [hget] at hget'; exact Option.some.inj hget'
      obtain ⟨u0, u1, u2, u3, u4, c0, c1, c2, c3, c4, hvals⟩ := hrow.vals5 hokr.len
      obtain ⟨x0, x1, x2, x3, x4, d0, d1, d2, d3, d4, hvals'⟩ := hrow'.vals5 hokr.len
      have HT := H.out k r hget
      have HVALS := Lib.hid hvals
      have HVALS' := Lib.hid hvals'
      have HOKR := Lib.hid hokr
      clear hvals hvals' hokr hokr' hrow hrow' hget hget'
      simp only [fieldsOf, termF, occF, sortsF, sigF, moduleF, algF, List.cons_append, List.nil_append, List.length_cons, List.length_nil, Nat.reduceAdd, Nat.mul_one] at c0 c1 c2 c3 c4 d0 d1 d2 d3 d4
      have k0 : (0 : Int) <= (k : Int) := by omega
      have k1 : (k : Int) < (m : Int) := by omega
      go_wp2_with fail
      go_region_held3 (fun w' => ∀ b o, b < wr.heap.size -> w'.cell? ⟨b, o, none⟩ = wr.cell? ⟨b, o, none⟩) (first | go_keep | exact fun b o h => hb2.cell (p := ⟨b, o, none⟩) h) (first | (go_at_call 122; refine (HT S S' _ _ _ HOKR.out (HVALS.out.below (Below.refl _ _).drew) (HVALS'.out.below (Below.refl _ _).drew)).mono ?_; rintro e w' ⟨rfl, hb2⟩))
      go_wp2
      go_roundw
      case rel => exact ⟨k + 1, by omega, by go_num, hb.trans ((Below.refl _ _).drew.trans (hb2.mono hb.size))⟩
      case measure => simp [intOf]; omega
    · go_wp2
      go_ret
      exact ⟨rfl, hb⟩
theorem info_Op : (Tryz.prog.info? 103).map (fun i => (i.zero, i.size, i.bytes)) = some (some (.agg #[.string .empty, .slice none 0 0, .bool false, .bool false, .int .i64 0]), 5, 56) := by kernel_rfl
set_option maxHeartbeats 1000000 in
theorem toOpS_of (rows : List (List C)) (h : ∀ (i : Nat) r, rows[i]? = some r -> toOpC r) : toOpSC rows := by
  intro S v w hok hv hlen
  obtain ⟨A, m, cap, rfl, hm, hmc, hcm⟩ := hv.form
  obtain ⟨i0, hi, hz0, hz1, hz2⟩ := info_parts info_Op
  have H := Lib.hid h
  have HV := Lib.hid hv
  have HM := Lib.hid hm
  have HOK := Lib.hid hok
  have hml : m <= 1048576 := by omega
  clear h hv hm hok
  unfold maxLen at hcm
  have hmk := run_make (P := Tryz.prog) w 42 103 i0 _ Tryz.underlying42 hi hz0 .i64 .i64 (m : Int) (m : Int) (by omega) (by omega) (by rw [hz2]; omega) (by omega)
  go_enter Tryz.func63, Tryz.ntmps63
  go_wp2
  clear hmk
  go_loopw [4] (fun i wr => ∃ k : Nat, k <= m ∧ i = .int .i64 k ∧ Filling w w.heap.size 103 m 5 rows k wr) (fun i _ => m - (intOf i).toNat)
  case atStart => exact ⟨0, Nat.zero_le _, rfl, Filling.start (size_madeCells _ _)⟩
  case round =>
    obtain ⟨k, hk, rfl, hfill⟩ := hrel
    have hb := hfill.1
    by_cases hkm : k < m
    · obtain ⟨b, off, r, rfl, hS, hbz, hget, hokr, hrow⟩ := (HV.out.below hb).get HOK.out hkm
      obtain ⟨u0, u1, u2, u3, u4, c0, c1, c2, c3, c4, hvals⟩ := hrow.vals5 hokr.len
      have HT := H.out k r hget
      have HVALS := Lib.hid hvals
      have HOKR := Lib.hid hokr
      have HGET := Lib.hid hget
      have HF := Lib.hid hfill
      have hbg := bulk_get hget
      clear hvals hokr hrow hget hfill
      simp only [fieldsOf, termF, occF, sortsF, sigF, moduleF, algF, List.cons_append, List.nil_append, List.length_cons, List.length_nil, Nat.reduceAdd, Nat.mul_one] at c0 c1 c2 c3 c4
      go_wp2_with fail
      refine (HT S _ _ HOKR.out HVALS.out (by omega)).mono ?_
      rintro e w2 ⟨us, rfl, hown, hb2⟩
      have hone := HOKR.out.one (OwnVals.rep _ _ (fun _ => True) _ (fun _ _ => trivial) hown)
      obtain ⟨y0, y1, y2, y3, y4, rfl⟩ := len5 (hown.len.trans HOKR.out.len)
      have HOWN := Lib.hid hown
      have HONE := Lib.hid hone
      obtain ⟨cur, hcur, hcs⟩ := HF.out.row hb2
      have HCUR := Lib.hid hcur
      have HCS := Lib.hid hcs
      clear hown hone hcur hcs
      go_wp2_with (refine wpList_store_put rfl 103 _ _ rfl w.heap.size (k * 5) rfl [y0, y1, y2, y3, y4] rfl i0 hi hz1 103 cur HCUR.out (by have := HCS.out; simp only [List.length_cons, List.length_nil]; omega) HONE.out ?_; intro w3 hput)
      go_roundw
      case rel => exact ⟨k + 1, by omega, by go_num, HF.out.step (fs := fieldsOf .op) HOK.out HGET.out hb2 HOWN.out hput⟩
      case measure => simp [intOf]; omega
    · go_wp2
      go_ret
      have e : k = m := by omega
      subst e
      exact ⟨_, rfl, hfill.done HM.out (by unfold maxLen; omega) (by decide) HOK.out.lens⟩
theorem szOpS_any (rows : List (List C)) : szOpSC rows := szOpS_of rows (fun _ r _ => szOp_any r)
theorem eqOpS_any (rows : List (List C)) : eqOpSC rows := eqOpS_of rows (fun _ r _ => eqOp_any r)
theorem toOpS_any (rows : List (List C)) : toOpSC rows := toOpS_of rows (fun _ r _ => toOp_any r)
end Go.Proofs.YtkekkmpogmlopaaGreat
namespace Go.Proofs.YtkekkmpogmlopaaGreat
open Go.RowKit
theorem okRow_Signature {r : List C} (h : okRow (sigF) r) : ∃ (r0 : List (List C)) (r1 : List (List C)) (r2 : List (List C)), r = [.sl r0, .sl r1, .sl r2] ∧ okRows (fieldsOf .str) r0 ∧ okRows (fieldsOf .sub) r1 ∧ okRows (fieldsOf .op) r2 := by
  obtain ⟨c0, c1, c2, rfl⟩ := len3 h.len
  simp only [fieldsOf, termF, occF, sortsF, sigF, moduleF, algF, List.cons_append, List.nil_append, okRow, and_true] at h
  obtain ⟨h0, h1, h2⟩ := h
  obtain ⟨r0, rfl, g0⟩ := okC_sl h0
  obtain ⟨r1, rfl, g1⟩ := okC_sl h1
  obtain ⟨r2, rfl, g2⟩ := okC_sl h2
  exact ⟨r0, r1, r2, rfl, g0, g1, g2⟩
theorem mkRow_Signature {r0 : List (List C)} {r1 : List (List C)} {r2 : List (List C)} (g0 : okRows (fieldsOf .str) r0) (g1 : okRows (fieldsOf .sub) r1) (g2 : okRows (fieldsOf .op) r2) : okRow (sigF) [.sl r0, .sl r1, .sl r2] := by
  simp only [fieldsOf, termF, occF, sortsF, sigF, moduleF, algF, List.cons_append, List.nil_append, okRow, and_true]
  exact ⟨mk_sl g0, mk_sl g1, mk_sl g2⟩
theorem repVals_Signature {w : World} {S : Nat -> Prop} {r0 : List (List C)} {r1 : List (List C)} {r2 : List (List C)} {us : List Value} (h : RepVals w S [.sl r0, .sl r1, .sl r2] us) : ∃ v0 v1 v2, us = [v0, v1, v2] ∧ Rep w S (.sl r0) v0 ∧ Rep w S (.sl r1) v1 ∧ Rep w S (.sl r2) v2 := by
  obtain ⟨u0, u1, u2, rfl⟩ := len3 h.len
  simp only [RepVals, Rep.lit_iff, and_true] at h
  obtain ⟨e0, e1, e2⟩ := h
  exact ⟨u0, u1, u2, rfl, e0, e1, e2⟩
theorem mkVals_Signature {w : World} {S : Nat -> Prop} {r0 : List (List C)} {r1 : List (List C)} {r2 : List (List C)} {v0 : Value} {v1 : Value} {v2 : Value} (e0 : Rep w S (.sl r0) v0) (e1 : Rep w S (.sl r1) v1) (e2 : Rep w S (.sl r2) v2) : RepVals w S [.sl r0, .sl r1, .sl r2] [v0, v1, v2] := by
  simp only [RepVals, Rep.lit_iff, and_true, true_and]
  exact ⟨e0, e1, e2⟩
def szSignatureC (row : List C) : Prop := ∀ (S : Nat -> Prop) (us : List Value) (left : Int) (w : World), okRow (sigF) row -> RepVals w S row us -> 0 <= left -> left <= 1048576 ->
  Calls Tryz.prog 24 #[.agg us.toArray, .int .i64 left] w fun e w' => e = .returned (.int .i64 (sub left (bulkRow row))) ∧ Below w.heap.size w w'
def eqSignatureC (row : List C) : Prop := ∀ (S S' : Nat -> Prop) (us us' : List Value) (w : World), okRow (sigF) row -> RepVals w S row us -> RepVals w S' row us' ->
  Calls Tryz.prog 30 #[.agg us.toArray, .agg us'.toArray] w fun e w' => e = .returned (.bool true) ∧ Below w.heap.size w w'
def toSignatureC (row : List C) : Prop := ∀ (S : Nat -> Prop) (us : List Value) (w : World), okRow (sigF) row -> RepVals w S row us -> bulkRow row <= 1048576 ->
  Calls Tryz.prog 27 #[.agg us.toArray] w fun e w' => ∃ us' : List Value, e = .returned (.agg us'.toArray) ∧ OwnVals w' row (fun x => w.heap.size <= x ∧ x < w'.heap.size) us' ∧ Below w.heap.size w w'
set_option maxHeartbeats 1000000 in
theorem szSignature_of (row : List C) : szSignatureC row := by
  intro S us left w hok hv h0 h1
  obtain ⟨r0, r1, r2, rfl, g0, g1, g2⟩ := okRow_Signature hok
  obtain ⟨v0, v1, v2, rfl, e0, e1, e2⟩ := repVals_Signature hv
  have HC0 := Lib.hid (szSorts_any [.sl r0, .sl r1])
  have HC2 := Lib.hid (szOpS_any r2)
  have HB := Lib.hid (show bulkRow [.sl r0, .sl r1, .sl r2] = (bulkRow [.sl r0, .sl r1]) + (r2.length + bulkRows r2) from by simp only [bulkRow, bulkC]; omega)
  have G0 := Lib.hid g0
  have G1 := Lib.hid g1
  have G2 := Lib.hid g2
  clear g0 g1 g2 hok
  have E0 := Lib.hid e0
  have E1 := Lib.hid e1
  have E2 := Lib.hid e2
  clear hv e0 e1 e2
  generalize hrow : bulkRow [.sl r0, .sl r1, .sl r2] = total at HB ⊢
  clear hrow
  have hbw := (Below.refl w.heap.size w).alloc (Nat.le_refl _) (.cells #[v0, v1, v2] 28)
  go_enter Tryz.func24, Tryz.ntmps24
  go_wp2_with fail
  by_cases q0 : left < ((bulkRow [.sl r0, .sl r1]) : Nat)
  · refine (HC0.out S _ _ _ (mkRow_Sorts G0.out G1.out) (mkVals_Sorts (E0.out.below hbw) (E1.out.below hbw)) (by omega) (by omega)).mono ?_
    rw [sub_neg (by omega)]
    rintro e w1 ⟨rfl, hb1⟩
    go_wp2
    go_ret
    exact ⟨ret_int (a := -1) (sub_neg (by have := HB.out; omega)).symm, hbw.trans (hb1.mono hbw.size)⟩
  refine (HC0.out S _ _ _ (mkRow_Sorts G0.out G1.out) (mkVals_Sorts (E0.out.below hbw) (E1.out.below hbw)) (by omega) (by omega)).mono ?_
  rw [sub_pos (by omega)]
  rintro e w1 ⟨rfl, hb1⟩
  obtain ⟨hc1, hf1⟩ := bcell hb1
  have hz1 : w.heap.size < w1.heap.size := (by have := hb1.size; (try simp at this); omega)
  replace hbw := hbw.trans (hb1.mono hbw.size)
  go_wp2_with fail
  by_cases q2 : (left - (((bulkRow [.sl r0, .sl r1]) : Nat) : Int)) < ((r2.length + bulkRows r2) : Nat)
  · refine (HC2.out S _ _ _ G2.out (E2.out.below hbw) (by omega) (by omega)).mono ?_
    rw [sub_neg (by omega)]
    rintro e w2 ⟨rfl, hb2⟩
    go_wp2
    go_ret
    exact ⟨ret_int (a := -1) (sub_neg (by have := HB.out; omega)).symm, hbw.trans (hb2.mono hbw.size)⟩
  refine (HC2.out S _ _ _ G2.out (E2.out.below hbw) (by omega) (by omega)).mono ?_
  rw [sub_pos (by omega)]
  rintro e w2 ⟨rfl, hb2⟩
  obtain ⟨hc2, hf2⟩ := bcell hb2
  have hz2 : w.heap.size < w2.heap.size := (by have := hb2.size; (try simp at this); omega)
  replace hbw := hbw.trans (hb2.mono hbw.size)
  go_wp2
  go_ret
  exact ⟨ret_int (by have := HB.out; rw [sub_pos (by omega)]; omega), hbw⟩
set_option maxHeartbeats 1000000 in
theorem eqSignature_of (row : List C) : eqSignatureC row := by
  intro S S' us us' w hok hv hv'
  obtain ⟨r0, r1, r2, rfl, g0, g1, g2⟩ := okRow_Signature hok
  obtain ⟨v0, v1, v2, rfl, e0, e1, e2⟩ := repVals_Signature hv
  obtain ⟨x0, x1, x2, rfl, d0, d1, d2⟩ := repVals_Signature hv'
  have HC0 := Lib.hid (eqSorts_any [.sl r0, .sl r1])
  have HC2 := Lib.hid (eqOpS_any r2)
  have G0 := Lib.hid g0
  have G1 := Lib.hid g1
  have G2 := Lib.hid g2
  clear g0 g1 g2 hok
  have E0 := Lib.hid e0
  have D0 := Lib.hid d0
  have E1 := Lib.hid e1
  have D1 := Lib.hid d1
  have E2 := Lib.hid e2
  have D2 := Lib.hid d2
  clear hv hv' e0 d0 e1 d1 e2 d2
  have hbw := ((Below.refl w.heap.size w).alloc (Nat.le_refl _) (.cells #[v0, v1, v2] 44)).alloc (by simp) (.cells #[x0, x1, x2] 44)
  go_enter Tryz.func30, Tryz.ntmps30
  go_wp2_with fail
  refine (HC0.out S S' _ _ _ (mkRow_Sorts G0.out G1.out) (mkVals_Sorts (E0.out.below hbw) (E1.out.below hbw)) (mkVals_Sorts (D0.out.below hbw) (D1.out.below hbw))).mono ?_
  rintro e w1 ⟨rfl, hb1⟩
  obtain ⟨hc1, hf1⟩ := bcell hb1
  have hz1 : w.heap.size + 1 < w1.heap.size := (by have := hb1.size; (try simp at this); omega)
  have ha1 : w.heap.size < w1.heap.size := by omega
  replace hbw := hbw.trans (hb1.mono hbw.size)
  go_wp2_with fail
  refine (HC2.out S S' _ _ _ G2.out (E2.out.below hbw) (D2.out.below hbw)).mono ?_
  rintro e w2 ⟨rfl, hb2⟩
  obtain ⟨hc2, hf2⟩ := bcell hb2
  have hz2 : w.heap.size + 1 < w2.heap.size := (by have := hb2.size; (try simp at this); omega)
  have ha2 : w.heap.size < w2.heap.size := by omega
  replace hbw := hbw.trans (hb2.mono hbw.size)
  go_wp2
  go_ret
  exact ⟨rfl, hbw⟩
set_option maxHeartbeats 2000000 in
theorem toSignature_of (row : List C) : toSignatureC row := by
  intro S us w hok hv hlen
  obtain ⟨r0, r1, r2, rfl, g0, g1, g2⟩ := okRow_Signature hok
  obtain ⟨v0, v1, v2, rfl, e0, e1, e2⟩ := repVals_Signature hv
  have HC0 := Lib.hid (toSorts_any [.sl r0, .sl r1])
  have HC2 := Lib.hid (toOpS_any r2)
  have G0 := Lib.hid g0
  have G1 := Lib.hid g1
  have G2 := Lib.hid g2
  clear g0 g1 g2 hok
  have E0 := Lib.hid e0
  have E1 := Lib.hid e1
  have E2 := Lib.hid e2
  clear hv e0 e1 e2
  have hl0 : (bulkRow [.sl r0, .sl r1]) <= 1048576 := by
    have e : (bulkRow [.sl r0, .sl r1]) <= bulkRow [.sl r0, .sl r1, .sl r2] := by simp only [bulkRow, bulkC]; omega
    exact Nat.le_trans e hlen
  have hl2 : (r2.length + bulkRows r2) <= 1048576 := by
    have e : (r2.length + bulkRows r2) <= bulkRow [.sl r0, .sl r1, .sl r2] := by simp only [bulkRow, bulkC]; omega
    exact Nat.le_trans e hlen
  clear hlen
  go_enter Tryz.func27, Tryz.ntmps27
  go_wp2_with fail
  refine (HC0.out S _ _ (mkRow_Sorts G0.out G1.out) (by exact mkVals_Sorts (E0.out.below (by repeat (first | refine Below.alloc ?_ (by simp; try omega) _ | exact Below.refl _ _))) (E1.out.below (by repeat (first | refine Below.alloc ?_ (by simp; try omega) _ | exact Below.refl _ _)))) hl0).mono ?_
  rintro e w1 ⟨ys0, rfl, hown0, hb1⟩
  obtain ⟨y0, y1, rfl, f0, f1⟩ := repVals_Sorts (OwnVals.rep _ _ (fun _ => True) _ (fun _ _ => trivial) hown0)
  obtain ⟨A0, n0, cap0, rfl, _, _, _⟩ := f0.form
  clear f0
  obtain ⟨A1, n1, cap1, rfl, _, _, _⟩ := f1.form
  clear f1
  have hz1 := hb1.size
  simp at hz1 hown0
  have HOWN0 := Lib.hid hown0
  clear hown0
  have hbw1 : Below w.heap.size w w1 := Below.trans (by repeat (first | refine Below.alloc ?_ (by simp; try omega) _ | exact Below.refl _ _)) (hb1.mono (by simp; try omega))
  obtain ⟨hc1, hf1⟩ := bcell hb1
  have ha1 : w.heap.size < w1.heap.size := by omega
  have hbb1 : w.heap.size + 1 < w1.heap.size := by omega
  have hcc1 : w.heap.size + 1 + 1 < w1.heap.size := by omega
  go_wp2_with fail
  refine (HC2.out S _ _ G2.out (by exact E2.out.below (by repeat (first | refine Below.setCell ?_ (by simp; try omega) _ | exact hbw1))) hl2).mono ?_
  rintro e w2 ⟨y2, rfl, hown2, hb2⟩
  obtain ⟨A2, n2, cap2, rfl, _, _, _⟩ := (Own.rep _ _ _ hown2).form
  have hz2 := hb2.size
  simp at hz2 hown2
  have HOWN2 := Lib.hid hown2
  clear hown2
  have hbw2 : Below w.heap.size w w2 := Below.trans (by repeat (first | refine Below.setCell ?_ (by simp; try omega) _ | exact hbw1)) (hb2.mono (by simp; try omega))
  obtain ⟨hc2, hf2⟩ := bcell hb2
  have ha2 : w.heap.size < w2.heap.size := by omega
  have hbb2 : w.heap.size + 1 < w2.heap.size := by omega
  have hcc2 : w.heap.size + 1 + 1 < w2.heap.size := by omega
  go_wp2
  refine bodyPost_ret (v := .agg #[.slice A0 n0 cap0, .slice A1 n1 cap1, .slice A2 n2 cap2]) (by simp [results, Tryz.results27, go_sem, hc1, ha1, hbb1, hcc1, hc2, ha2, hbb2, hcc2]) rfl ⟨[.slice A0 n0 cap0, .slice A1 n1 cap1, .slice A2 n2 cap2], rfl, ?_, (by repeat (first | refine Below.setCell ?_ (by simp; try omega) _ | exact hbw2))⟩
  simp
  exact (OwnVals.append (cs := [.sl r0, .sl r1]) (ds := [.sl r2]) (us := [.slice A0 n0 cap0, .slice A1 n1 cap1]) (vs := [.slice A2 n2 cap2]) (fun x => w.heap.size + 1 + 1 + 1 <= x ∧ x < w1.heap.size) (fun x => w1.heap.size <= x ∧ x < w2.heap.size) (HOWN0.out.same (by repeat (first | refine Same.trans ?_ (Same.setCell _ _ _ _ (by simp; try omega)) | refine Same.trans ?_ ((Same.below hb2).mono (fun x hx => by simp at hx ⊢; omega)) | exact Same.refl _ _))) (OwnVals.cons (fun x => w1.heap.size <= x ∧ x < w2.heap.size) (fun x => w2.heap.size <= x ∧ x < w2.heap.size) (HOWN2.out.same (by repeat (first | refine Same.trans ?_ (Same.setCell _ _ _ _ (by simp; try omega)) | exact Same.refl _ _))) OwnVals.nil (fun x hx => ⟨by omega, by omega⟩) (fun x hx => ⟨by omega, by omega⟩) (fun x hx hy => by omega)) (fun x hx => ⟨by omega, by omega⟩) (fun x hx => ⟨by omega, by omega⟩) (fun x hx hy => by omega))
theorem szSignature_any (row : List C) : szSignatureC row := szSignature_of row
theorem eqSignature_any (row : List C) : eqSignatureC row := eqSignature_of row
theorem toSignature_any (row : List C) : toSignatureC row := toSignature_of row
end Go.Proofs.YtkekkmpogmlopaaGreat
namespace Go.Proofs.YtkekkmpogmlopaaGreat
open Go.RowKit
theorem decL {α : Type} {fs : List F} {e : α -> List C} {p : α -> Prop} (hd : ∀ row, okRow fs row -> ∃ a, row = e a ∧ p a) : ∀ {rows : List (List C)}, okRows fs rows -> ∃ l : List α, rows = l.map e ∧ ∀ x ∈ l, p x
  | [], _ => ⟨[], rfl, by simp⟩
  | r :: rs, h => by
    simp only [okRows] at h
    obtain ⟨a, rfl, ha⟩ := hd r h.1
    obtain ⟨l, rfl, hl⟩ := decL hd h.2
    exact ⟨a :: l, rfl, fun x hx => by
      rcases List.mem_cons.1 hx with rfl | hx
      · exact ha
      · exact hl x hx⟩
theorem okL {α : Type} {fs : List F} {e : α -> List C} {p : α -> Prop} (hk : ∀ a, p a -> okRow fs (e a)) : ∀ {l : List α}, (∀ x ∈ l, p x) -> okRows fs (l.map e)
  | [], _ => by simp [okRows]
  | a :: l, h => by
    simp only [List.map_cons, okRows]
    exact ⟨hk a (h a (by simp)), okL hk (fun x hx => h x (by simp [hx]))⟩
def encInt (n : Int) : List C := [.lit (.int .i64 n)]
def encStr (s : ByteArray) : List C := [.lit (.string s)]
def encSub (p : Int × Int) : List C := [.lit (.int .i64 p.1), .lit (.int .i64 p.2)]
def okSub (p : Int × Int) : Prop := I64 p.1 ∧ I64 p.2
def okStr (s : ByteArray) : Prop := s.size <= maxLen
theorem decInt : ∀ row, okRow (fieldsOf .int) row -> ∃ a, row = encInt a ∧ I64 a := fun row h => okRow_Int h
theorem decStr : ∀ row, okRow (fieldsOf .str) row -> ∃ a, row = encStr a ∧ okStr a := fun row h => okRow_String h
theorem decSub : ∀ row, okRow (fieldsOf .sub) row -> ∃ a, row = encSub a ∧ okSub a := fun row h => by
  obtain ⟨i0, i1, rfl, h0, h1⟩ := okRow_Sub h
  exact ⟨(i0, i1), rfl, h0, h1⟩
structure Srt where
  names : List ByteArray
  subs : List (Int × Int)
def encSrt (s : Srt) : List C := [.sl (s.names.map encStr), .sl (s.subs.map encSub)]
def okSrt (s : Srt) : Prop := (∀ x ∈ s.names, okStr x) ∧ ∀ x ∈ s.subs, okSub x
structure Dcl where
  args : List Int
  res : Int
def encDcl (d : Dcl) : List C := [.sl (d.args.map encInt), .lit (.int .i64 d.res)]
def okDcl (d : Dcl) : Prop := (∀ x ∈ d.args, I64 x) ∧ I64 d.res
theorem decDcl : ∀ row, okRow (fieldsOf .decl) row -> ∃ a, row = encDcl a ∧ okDcl a := fun row h => by
  obtain ⟨r0, i1, rfl, g0, g1⟩ := okRow_Decl h
  obtain ⟨l0, rfl, k0⟩ := decL decInt g0
  exact ⟨⟨l0, i1⟩, rfl, k0, g1⟩
structure Opr where
  name : ByteArray
  decls : List Dcl
  assoc : Bool
  comm : Bool
  unit : Int
def encOpr (o : Opr) : List C := [.lit (.string o.name), .sl (o.decls.map encDcl), .lit (.bool o.assoc), .lit (.bool o.comm), .lit (.int .i64 o.unit)]
def okOpr (o : Opr) : Prop := okStr o.name ∧ (∀ x ∈ o.decls, okDcl x) ∧ I64 o.unit
theorem decOpr : ∀ row, okRow (fieldsOf .op) row -> ∃ a, row = encOpr a ∧ okOpr a := fun row h => by
  obtain ⟨t0, r1, p2, p3, i4, rfl, g0, g1, _, _, g4⟩ := okRow_Op h
  obtain ⟨l1, rfl, k1⟩ := decL decDcl g1
  exact ⟨⟨t0, l1, p2, p3, i4⟩, rfl, g0, k1, g4⟩
structure Sgn where
  sorts : Srt
  ops : List Opr
def encSgn (s : Sgn) : List C := [.sl (s.sorts.names.map encStr), .sl (s.sorts.subs.map encSub), .sl (s.ops.map encOpr)]
def okSgn (s : Sgn) : Prop := okSrt s.sorts ∧ ∀ x ∈ s.ops, okOpr x
theorem decSgn {row : List C} (h : okRow sigF row) : ∃ s, row = encSgn s ∧ okSgn s := by
  obtain ⟨r0, r1, r2, rfl, g0, g1, g2⟩ := okRow_Signature h
  obtain ⟨l0, rfl, k0⟩ := decL decStr g0
  obtain ⟨l1, rfl, k1⟩ := decL decSub g1
  obtain ⟨l2, rfl, k2⟩ := decL decOpr g2
  exact ⟨⟨⟨l0, l1⟩, l2⟩, rfl, ⟨k0, k1⟩, k2⟩
theorem Rep.at {α : Type} {w : World} {S : Nat -> Prop} {fs : List F} {e : α -> List C} {p : α -> Prop} (hk : ∀ a, p a -> okRow fs (e a)) {l : List α} (hl : ∀ x ∈ l, p x) {A : Option Addr} {m cap k : Nat} {a : α}
    (h : Rep w S (.sl (l.map e)) (.slice A m cap)) (ha : l[k]? = some a) : ∃ b off, A = some ⟨b, off, none⟩ ∧ S b ∧ b < w.heap.size ∧ RepRow w S b (off + k * fs.length) (e a) := by
  have hkl : k < l.length := (List.getElem?_eq_some_iff.1 ha).1
  obtain ⟨A', m', cap', hf, hm, _, _⟩ := h.form
  injection hf with h1 h2 h3
  subst h1 h2 h3
  obtain ⟨b, off, r, rfl, hS, hbz, hget, hokr, hrow⟩ := h.get (okL hk hl) (i := k) (by rw [<- hm]; simpa using hkl)
  refine ⟨b, off, rfl, hS, hbz, ?_⟩
  rw [List.getElem?_map, ha] at hget
  simp only [Option.map_some, Option.some.injEq] at hget
  rw [hget]
  exact hrow
end Go.Proofs.YtkekkmpogmlopaaGreat
namespace Go.Proofs.YtkekkmpogmlopaaGreat
open Go.RowKit
def encInts (l : List Int) : List C := [.sl (l.map encInt)]
end Go.Proofs.YtkekkmpogmlopaaGreat
namespace Go.Proofs.YtkekkmpogmlopaaGreat
open Go.RowKit
noncomputable def e0 : Env := ⟨Tryz.prog, fun _ => False, fun _ => True, False⟩
noncomputable def e1 : Env := ⟨Tryz.prog, fun _ => False, fun _ => True, True⟩
theorem e1P : e1.P = Tryz.prog := rfl
theorem e1_ok : e1.Ok := ⟨fun _ _ _ _ _ => trivial, by kernel_rfl⟩
theorem con_1 {f : FuncId} {args r : List D} (h : Con e1 f args r) : Con e0 f args r :=
  ⟨h.1, fun w S vs hS hE hG hvs => (h.2 w S vs hS hE hG hvs).mono fun en w' ⟨v, h1, h2, h3, h4⟩ => ⟨v, h1, ⟨h2.os, h2.tape, h2.output, fun d => d.elim, h2.size, h2.block⟩, h3, h4⟩⟩
theorem e0P : e0.P = Tryz.prog := rfl
theorem e0_ok : e0.Ok := ⟨fun _ _ _ _ _ => trivial, by kernel_rfl⟩
theorem con_below {e : Env} (he : e.Ok) {f : FuncId} {args r : List D} (hb : hasBody e.P f = true)
    (h : ∀ (w : World) (S : Nat -> Prop) (vs : List Value), DsRel w S args vs -> Calls e.P f vs.toArray w fun en w' => ∃ v, en = .returned v ∧ Below w.heap.size w w' ∧ ARel w' (fun b => S b ∨ (w.heap.size <= b ∧ b < w'.heap.size)) ⟨fun _ => 0, fun _ => Go.undef⟩ (retA r) v) (hD : ¬ e.D := by exact id) : Con e f args r := by
  refine ⟨hb, fun w S vs hS hE hG hvs => (h w S vs hvs).mono fun en w' ⟨v, h1, h2, h3⟩ => ⟨v, h1, Kept.of_below h2 (fun d => (hD d).elim), he.keep _ _ h2.size (fun b hb => h2.block b (hE b hb)) hG, ?_⟩⟩
  exact h3
theorem rowsB_map {α : Type} {e : α -> List C} {n : Nat} (h : ∀ a, ((e a).length == n && (e a).all okCell) = true) (l : List α) : rowsB n (l.map e) = true := by
  unfold rowsB
  rw [List.all_map]
  exact List.all_eq_true.2 fun a _ => h a
theorem rowsB_nil {n : Nat} : rowsB n [] = true := rfl
theorem rowsB_cons {n : Nat} {r : List C} {rs : List (List C)} : rowsB n (r :: rs) = (r.length == n && r.all okCell && rowsB n rs) := rfl
theorem rb_int (l : List Int) : rowsB 1 (l.map encInt) = true := rowsB_map (e := encInt) (n := 1) (fun _ => rfl) l
theorem rb_str (l : List ByteArray) : rowsB 1 (l.map encStr) = true := rowsB_map (e := encStr) (n := 1) (fun _ => rfl) l
theorem rb_sub (l : List (Int × Int)) : rowsB 2 (l.map encSub) = true := rowsB_map (e := encSub) (n := 2) (fun _ => rfl) l
theorem rb_dcl (l : List Dcl) : rowsB 2 (l.map encDcl) = true := rowsB_map (e := encDcl) (n := 2) (fun _ => rfl) l
theorem rb_opr (l : List Opr) : rowsB 5 (l.map encOpr) = true := rowsB_map (e := encOpr) (n := 5) (fun _ => rfl) l
theorem rb_ints (l : List (List Int)) : rowsB 1 (l.map encInts) = true := rowsB_map (e := encInts) (n := 1) (fun _ => rfl) l
theorem wrapN {a b : Int} (h : a = b) (h1 : -9223372036854775808 <= b) (h2 : b <= 9223372036854775807) : IntKind.i64.wrap a = b := by rw [h]; exact IntWalk.i64_in _ ⟨h1, h2⟩
theorem wrap1 {k : Nat} (h : k < 9223372036854775807) : IntKind.i64.wrap ((k : Int) + 1) = ((k + 1 : Nat) : Int) := wrapN (by omega) (by omega) (by omega)
theorem bqtt : (true == true) = true := rfl
theorem bqtf : (true == false) = false := rfl
theorem bqft : (false == true) = false := rfl
theorem bqff : (false == false) = true := rfl
theorem natInt (n : Nat) : (n : Int).toNat = n := Int.toNat_natCast n
theorem gs_n {t : Nat} : gs [] t = .undef := rfl
theorem gs_c {k t : Nat} {a : A} {r : List (Nat × A)} : gs ((k, a) :: r) t = if t = k then a else gs r t := rfl
theorem gm_n {t : Nat} : gm [] t = none := rfl
theorem gm_c {k t : Nat} {a : Bk} {r : List (Nat × Bk)} : gm ((k, a) :: r) t = if t = k then some a else gm r t := rfl
theorem initS_n {k : Nat} : initS k [] = [] := rfl
theorem initS_c {k : Nat} {d : D} {r : List D} : initS k (d :: r) = (k, .d d) :: initS (k + 1) r := rfl
theorem pz : type_of% (ai @tt_0 (ai @tt_1 (ai @tt_2 (ai @tt_3 (ai @tt_4 (ai @tt_5 (ai @tt_6 (ai @tt_7 (ai @pm_0 (ai @pm_1 (ai @pm_2 (ai @pm_3 (ai @pm_4 (ai @pm_5 (ai @pm_6 (ai @pm_7 (ai @pm_8 (ai @pm_9 (ai @pm_10 (ai @pm_11 (ai @e0P (ai @e1P (ai @gs_n (ai @gs_c (ai @gm_n (ai @gm_c (ai @initS_n (ai @initS_c (ai @rb_int (ai @rb_str (ai @rb_sub (ai @rb_dcl (ai @rb_opr (ai @rb_ints (ai @rowsB_nil (ai @rowsB_cons (ai @bqtt (ai @bqtf (ai @bqft (ai @bqff (ai @Bool.and_self (ai @Bool.or_true (ai @Bool.true_or (ai @Bool.or_false (ai @Bool.false_or (ai @Nat.zero_add (ai @Nat.add_zero (ai @and_self (ai @true_and (ai @and_true (ai @Bool.not_true (ai @Bool.not_false (ai @natInt (ai @trimS_n (ai @trimS_c (ai @tb_eq (ai @endR_d (ai @callOf_c (ai @Int.natCast_nonneg (ai @Int.toNat_zero (ai @Int.toNat_one (ai @Nat.le_refl (ai @List.map_nil.{0, 0} (ai @List.getElem?_cons_zero.{0} (ai @List.getElem?_cons_succ.{0} (ai @List.drop_succ_cons.{0} (ai @List.drop_zero.{0} (ai @List.drop_nil.{0} (ai @List.take_succ_cons.{0} (ai @List.take_zero.{0} (ai @List.length_cons.{0} (ai @List.length_nil.{0} (ai @List.length_append.{0} (ai @List.all_cons.{0} (ai @List.all_nil.{0} (ai @List.isEmpty_cons.{0} (ai @List.isEmpty_nil.{0} (ai @List.cons_append.{0} (ai @List.nil_append.{0} (ai @List.append_nil.{0} (ai @Option.map_some.{0, 0} (ai @Option.map_none.{0, 0} (ai @Option.join_some.{0} (ai @Option.getD_some.{0} (ai @Option.isNone_none.{0} (ai @Option.isNone_some.{0} (ai @Option.isSome_none.{0} (ai @Option.isSome_some.{0} (ai @List.map_cons.{0, 0} (ai @List.length_map.{0, 0} (@List.getElem?_map.{0, 0}))))))))))))))))))))))))))))))))))))))))))))))))))))))))))))))))))))))))))))))))))))))))))) := ai @tt_0 (ai @tt_1 (ai @tt_2 (ai @tt_3 (ai @tt_4 (ai @tt_5 (ai @tt_6 (ai @tt_7 (ai @pm_0 (ai @pm_1 (ai @pm_2 (ai @pm_3 (ai @pm_4 (ai @pm_5 (ai @pm_6 (ai @pm_7 (ai @pm_8 (ai @pm_9 (ai @pm_10 (ai @pm_11 (ai @e0P (ai @e1P (ai @gs_n (ai @gs_c (ai @gm_n (ai @gm_c (ai @initS_n (ai @initS_c (ai @rb_int (ai @rb_str (ai @rb_sub (ai @rb_dcl (ai @rb_opr (ai @rb_ints (ai @rowsB_nil (ai @rowsB_cons (ai @bqtt (ai @bqtf (ai @bqft (ai @bqff (ai @Bool.and_self (ai @Bool.or_true (ai @Bool.true_or (ai @Bool.or_false (ai @Bool.false_or (ai @Nat.zero_add (ai @Nat.add_zero (ai @and_self (ai @true_and (ai @and_true (ai @Bool.not_true (ai @Bool.not_false (ai @natInt (ai @trimS_n (ai @trimS_c (ai @tb_eq (ai @endR_d (ai @callOf_c (ai @Int.natCast_nonneg (ai @Int.toNat_zero (ai @Int.toNat_one (ai @Nat.le_refl (ai @List.map_nil.{0, 0} (ai @List.getElem?_cons_zero.{0} (ai @List.getElem?_cons_succ.{0} (ai @List.drop_succ_cons.{0} (ai @List.drop_zero.{0} (ai @List.drop_nil.{0} (ai @List.take_succ_cons.{0} (ai @List.take_zero.{0} (ai @List.length_cons.{0} (ai @List.length_nil.{0} (ai @List.length_append.{0} (ai @List.all_cons.{0} (ai @List.all_nil.{0} (ai @List.isEmpty_cons.{0} (ai @List.isEmpty_nil.{0} (ai @List.cons_append.{0} (ai @List.nil_append.{0} (ai @List.append_nil.{0} (ai @Option.map_some.{0, 0} (ai @Option.map_none.{0, 0} (ai @Option.join_some.{0} (ai @Option.getD_some.{0} (ai @Option.isNone_none.{0} (ai @Option.isNone_some.{0} (ai @Option.isSome_none.{0} (ai @Option.isSome_some.{0} (ai @List.map_cons.{0, 0} (ai @List.length_map.{0, 0} (@List.getElem?_map.{0, 0}))))))))))))))))))))))))))))))))))))))))))))))))))))))))))))))))))))))))))))))))))))))))))
end Go.Proofs.YtkekkmpogmlopaaGreat
namespace Go.Proofs.YtkekkmpogmlopaaGreat
open Go.RowKit
theorem encInt_u : ∀ n, encInt n = [.lit (.int .i64 n)] := fun _ => rfl
theorem encDcl_u : ∀ d, encDcl d = [.sl (d.args.map encInt), .lit (.int .i64 d.res)] := fun _ => rfl
theorem encOpr_u : ∀ o, encOpr o = [.lit (.string o.name), .sl (o.decls.map encDcl), .lit (.bool o.assoc), .lit (.bool o.comm), .lit (.int .i64 o.unit)] := fun _ => rfl
theorem encSgn_u : ∀ s, encSgn s = [.sl (s.sorts.names.map encStr), .sl (s.sorts.subs.map encSub), .sl (s.ops.map encOpr)] := fun _ => rfl
theorem retA_u : ∀ x, retA [x] = .d x := fun _ => rfl
theorem gB {X Y : Prop} (b : Y) (h : Y -> X := by
  intro b
  first
    | with_reducible refine region_0k ?_
    | (first
      | refine region_Dk 1 (by decide +kernel) ?_
      | refine region_Dk 2 (by decide +kernel) ?_
      | refine region_Dk 3 (by decide +kernel) ?_
      | refine region_Dk 4 (by decide +kernel) ?_
      | refine region_Dk 5 (by decide +kernel) ?_
      | refine region_Dk 6 (by decide +kernel) ?_
      | refine region_Dk 7 (by decide +kernel) ?_
      | refine region_Dk 8 (by decide +kernel) ?_
      | refine region_Dk 9 (by decide +kernel) ?_
      | refine region_Dk 10 (by decide +kernel) ?_
      | refine region_Dk 11 (by decide +kernel) ?_
      | refine region_Dk 12 (by decide +kernel) ?_
      | refine region_Dk 13 (by decide +kernel) ?_
      | refine region_Dk 14 (by decide +kernel) ?_
      | refine region_Dk 15 (by decide +kernel) ?_
      | refine region_Dk 16 (by decide +kernel) ?_
      | refine region_Dk 17 (by decide +kernel) ?_
      | refine region_Dk 18 (by decide +kernel) ?_
      | refine region_Dk 19 (by decide +kernel) ?_
      | refine region_Dk 20 (by decide +kernel) ?_
      | refine region_Dk 21 (by decide +kernel) ?_
      | refine region_Dk 22 (by decide +kernel) ?_
      | refine region_Dk 23 (by decide +kernel) ?_
      | refine region_Dk 24 (by decide +kernel) ?_
      | refine region_Dk 25 (by decide +kernel) ?_
      | refine region_Dk 26 (by decide +kernel) ?_
      | refine region_Dk 27 (by decide +kernel) ?_
      | refine region_Dk 28 (by decide +kernel) ?_
      | refine region_Dk 29 (by decide +kernel) ?_
      | refine region_Dk 30 (by decide +kernel) ?_
      | refine region_Dk 31 (by decide +kernel) ?_
      | refine region_Dk 32 (by decide +kernel) ?_
      | refine region_Dk 33 (by decide +kernel) ?_
      | refine region_Dk 34 (by decide +kernel) ?_
      | refine region_Dk 35 (by decide +kernel) ?_
      | refine region_Dk 36 (by decide +kernel) ?_
      | refine region_Dk 37 (by decide +kernel) ?_
      | refine region_Dk 38 (by decide +kernel) ?_
      | refine region_Dk 39 (by decide +kernel) ?_
      | refine region_Dk 40 (by decide +kernel) ?_
      | refine region_Dk 41 (by decide +kernel) ?_
      | refine region_Dk 42 (by decide +kernel) ?_
      | refine region_Dk 43 (by decide +kernel) ?_
      | refine region_Dk 44 (by decide +kernel) ?_
      | refine region_Dk 45 (by decide +kernel) ?_
      | refine region_Dk 46 (by decide +kernel) ?_
      | refine region_Dk 47 (by decide +kernel) ?_
      | refine region_Dk 48 (by decide +kernel) ?_
      | refine region_Dk 49 (by decide +kernel) ?_
      | refine region_Dk 50 (by decide +kernel) ?_
      | refine region_Dk 51 (by decide +kernel) ?_
      | refine region_Dk 52 (by decide +kernel) ?_
      | refine region_Dk 53 (by decide +kernel) ?_
      | refine region_Dk 54 (by decide +kernel) ?_
      | refine region_Dk 55 (by decide +kernel) ?_
      | refine region_Dk 56 (by decide +kernel) ?_
      | refine region_Dk 57 (by decide +kernel) ?_
      | refine region_Dk 58 (by decide +kernel) ?_
      | refine region_Dk 59 (by decide +kernel) ?_
      | refine region_Dk 60 (by decide +kernel) ?_
      | refine region_Dk 61 (by decide +kernel) ?_
      | refine region_Dk 62 (by decide +kernel) ?_
      | refine region_Dk 63 (by decide +kernel) ?_
      | refine region_Dk 64 (by decide +kernel) ?_)
  intro ds hds
  simp only [List.map] at hds
  subst hds
  exact b) : X := h b
theorem gC {X Y Z : Prop} (c : Z) (b : Y) (h : Z -> Y -> X := by
  intro c b
  refine rcT (by simp only [pz, ↓reduceIte, Nat.reduceEqDiff, Nat.reduceAdd, Nat.reduceSub, Nat.reduceMul, Nat.reduceLeDiff, Nat.reduceBEq, Bool.false_eq_true, decide_true, decide_false, Int.reduceLE, Int.reduceToNat, Int.reduceLT, Int.reduceEq, eq_self, Nat.reduceShiftRight, Nat.reduceAnd, Nat.reduceBneDiff, F]; exact rfl) c (by simp only [setA, retA]; exact rfl) ?_
  exact b) : X := h c b
theorem gCE {X Y Z : Prop} (c : Z) (b : Y) (h : Z -> Y -> X := by
  intro c b
  refine runs_goE (by simp only [pz, ↓reduceIte, Nat.reduceEqDiff, Nat.reduceAdd, Nat.reduceSub, Nat.reduceMul, Nat.reduceLeDiff, Nat.reduceBEq, Bool.false_eq_true, decide_true, decide_false, Int.reduceLE, Int.reduceToNat, Int.reduceLT, Int.reduceEq, eq_self, Nat.reduceShiftRight, Nat.reduceAnd, Nat.reduceBneDiff, F]; exact rfl) (by simp only [pz, ↓reduceIte, Nat.reduceEqDiff, Nat.reduceAdd, Nat.reduceSub, Nat.reduceMul, Nat.reduceLeDiff, Nat.reduceBEq, Bool.false_eq_true, decide_true, decide_false, Int.reduceLE, Int.reduceToNat, Int.reduceLT, Int.reduceEq, eq_self, Nat.reduceShiftRight, Nat.reduceAnd, Nat.reduceBneDiff, F]; exact rfl) c ?_
  exact b) : X := h c b
theorem gR {X Y : Prop} (b : Y) (h : Y -> X := by
  intro b
  refine reT (by simp only [pz, ↓reduceIte, Nat.reduceEqDiff, Nat.reduceAdd, Nat.reduceSub, Nat.reduceMul, Nat.reduceLeDiff, Nat.reduceBEq, Bool.false_eq_true, decide_true, decide_false, Int.reduceLE, Int.reduceToNat, Int.reduceLT, Int.reduceEq, eq_self, Nat.reduceShiftRight, Nat.reduceAnd, Nat.reduceBneDiff, F]; exact rfl) ?_
  first | (change pwp _ _ _ _ _) | refine wkI ?_ | skip
  exact b) : X := h b
theorem gG {X Y : Prop} (b : Y) (h : Y -> X := by
  intro b
  repeat (first
    | with_reducible refine pwp_seqW ?_
    | with_reducible refine pwp_block ?_
    | ((first | with_reducible refine pwp_skip ?_ | with_reducible refine pwp_exit ?_); try refine wkI ?_)
    | (with_reducible refine pwp_ct ?_ ?_; · simp only [pz, ↓reduceIte, Nat.reduceEqDiff, F])
    | (with_reducible refine pwp_cf ?_ ?_; · simp only [pz, ↓reduceIte, Nat.reduceEqDiff, F])
    | (refine gB ?_; refine reT (by simp only [pz, ↓reduceIte, Nat.reduceEqDiff, Nat.reduceAdd, Nat.reduceSub, Nat.reduceMul, Nat.reduceLeDiff, Nat.reduceBEq, Bool.false_eq_true, decide_true, decide_false, Int.reduceLE, Int.reduceToNat, Int.reduceLT, Int.reduceEq, eq_self, Nat.reduceShiftRight, Nat.reduceAnd, Nat.reduceBneDiff, F]; exact rfl) ?_; try refine wkI ?_))
  exact b) : X := h b
def StopAt (_ : Nat) : Prop := True
theorem ne_reg {n : Nat} (_ : StopAt n) {e : Env} {mask id : Nat} {ops : Array Oper} {fl : Bool} {σ : St} {Q : PX -> St -> Prop} (h : pwp e mask (.region id ops fl) σ Q) (_ : (id == n) = false := by decide) : pwp e mask (.region id ops fl) σ Q := h
theorem gGn {X Y : Prop} (b : Y) (h : Y -> X := by
  intro b
  repeat (first
    | with_reducible refine pwp_seqW ?_
    | with_reducible refine pwp_block ?_
    | ((first | with_reducible refine pwp_skip ?_ | with_reducible refine pwp_exit ?_); try refine wkI ?_)
    | (with_reducible refine pwp_ct ?_ ?_; · simp only [pz, ↓reduceIte, Nat.reduceEqDiff, F])
    | (with_reducible refine pwp_cf ?_ ?_; · simp only [pz, ↓reduceIte, Nat.reduceEqDiff, F])
    | (refine ne_reg NN ?_; refine gB ?_; refine reT (by simp only [pz, ↓reduceIte, Nat.reduceEqDiff, Nat.reduceAdd, Nat.reduceSub, Nat.reduceMul, Nat.reduceLeDiff, Nat.reduceBEq, Bool.false_eq_true, decide_true, decide_false, Int.reduceLE, Int.reduceToNat, Int.reduceLT, Int.reduceEq, eq_self, Nat.reduceShiftRight, Nat.reduceAnd, Nat.reduceBneDiff, F]; exact rfl) ?_; try refine wkI ?_))
  exact b) : X := h b
theorem gT {X : Prop} (h : X := by
  refine pwp_ret (ret_ok ?_)
  simp [resOk, resA, resSlots, gs, F]) : X := h
theorem gTz {X : Prop} {P : Program} {ts : List RS} {r : List D} {σ σ1 : St} (ks : List Nat) (hx : retQ P ts r .ret σ -> X := by exact fun h => pwp_ret h) (hf : frzs ks σ = σ1 := by simp only [pz, ↓reduceIte, Nat.reduceEqDiff, Nat.reduceAdd, Nat.reduceSub, Nat.reduceMul, Nat.reduceLeDiff, Nat.reduceBEq, Bool.false_eq_true, decide_true, decide_false, Int.reduceLE, Int.reduceToNat, Int.reduceLT, Int.reduceEq, eq_self, Nat.reduceShiftRight, Nat.reduceAnd, Nat.reduceBneDiff, F]; exact rfl) (h : resOk P σ1 ts r := by simp [resOk, resA, resSlots, gs, F]) : X := hx (ret_fz ks hf h)
theorem gTd {X : Prop} {P : Program} {ts : List RS} {r : List D} {σ : St} (hx : retQ P ts r .ret σ -> X := by exact fun h => pwp_ret h) (hr : resD P σ ts = some r := by first | (simp only [pz, ↓reduceIte, Nat.reduceEqDiff, Nat.reduceAdd, Nat.reduceSub, Nat.reduceMul, Nat.reduceLeDiff, Nat.reduceBEq, Bool.false_eq_true, decide_true, decide_false, Int.reduceLE, Int.reduceToNat, Int.reduceLT, Int.reduceEq, eq_self, Nat.reduceShiftRight, Nat.reduceAnd, Nat.reduceBneDiff, F]; done) | (simp only [pz, ↓reduceIte, Nat.reduceEqDiff, Nat.reduceAdd, Nat.reduceSub, Nat.reduceMul, Nat.reduceLeDiff, Nat.reduceBEq, Bool.false_eq_true, decide_true, decide_false, Int.reduceLE, Int.reduceToNat, Int.reduceLT, Int.reduceEq, eq_self, Nat.reduceShiftRight, Nat.reduceAnd, Nat.reduceBneDiff, F]; exact rfl)) : X := hx (ret_ok (resOk_of hr))
theorem gF {e : Env} {mask : Nat} {Q : PX -> St -> Prop} {σ σ1 : St} {id : Nat} {l : List Oper} {s2 : List (Nat × A)} {m2 : List (Nat × Bk)} {Y : Prop} (ks : List Nat) (b : Y) (hf : frzs ks σ = σ1 := by simp only [pz, ↓reduceIte, Nat.reduceEqDiff, Nat.reduceAdd, Nat.reduceSub, Nat.reduceMul, Nat.reduceLeDiff, Nat.reduceBEq, Bool.false_eq_true, decide_true, decide_false, Int.reduceLE, Int.reduceToNat, Int.reduceLT, Int.reduceEq, eq_self, Nat.reduceShiftRight, Nat.reduceAnd, Nat.reduceBneDiff, F]; exact rfl)
    (h : endR mask (runOps e.P (l.map (·.dst)) 0 l σ1) = some (s2, m2) := by simp only [pz, ↓reduceIte, Nat.reduceEqDiff, Nat.reduceAdd, Nat.reduceSub, Nat.reduceMul, Nat.reduceLeDiff, Nat.reduceBEq, Bool.false_eq_true, decide_true, decide_false, Int.reduceLE, Int.reduceToNat, Int.reduceLT, Int.reduceEq, eq_self, Nat.reduceShiftRight, Nat.reduceAnd, Nat.reduceBneDiff, F]; exact rfl) (hy : Y -> Q .normal ⟨s2, m2⟩ := by first | exact fun b => wkI b | exact fun b => b) : pwp e mask (.region id l.toArray false) σ Q :=
  region_F ks hf rfl (reT h (hy b))
theorem gw {X : Prop} (h : X := by simp [weakS, weakM, gs, gm, F]) : X := h
theorem gL {e : Env} {mask : Nat} {Q : PX -> St -> Prop} {c : Code} {s : List (Nat × A)} {m : List (Nat × Bk)} {ι : Type} (ds dm : List Nat) (us : ι -> List (Nat × A)) (ms : ι -> List (Nat × Bk)) (ok : ι -> Prop) (μ : ι -> Nat) (x0 : ι) (h0 : ok x0)
    {s0 : List (Nat × A)} {m0 : List (Nat × Bk)} {ss : ι -> List (Nat × A)} {mm : ι -> List (Nat × Bk)}
    (hr : ∀ x, ok x -> pwp e mask c ⟨ss x, mm x⟩ (fun p σ'' => match p with
      | .normal => ∃ y, ok y ∧ weakS σ''.s (ss y) ∧ weakM σ''.m (mm y) ∧ μ y < μ x
      | p => Q p σ''))
    (hs0 : headS ds s = s0 := by simp only [headS, headM, List.elem_cons, List.elem_nil, Nat.reduceBEq, Bool.or_false, Bool.false_or, Bool.or_true, Bool.true_or, Bool.or_self, ↓reduceIte, Bool.false_eq_true]; exact rfl) (hm0 : headM dm m = m0 := by simp only [headS, headM, List.elem_cons, List.elem_nil, Nat.reduceBEq, Bool.or_false, Bool.false_or, Bool.or_true, Bool.true_or, Bool.or_self, ↓reduceIte, Bool.false_eq_true]; exact rfl) (hss : ∀ x, us x ++ s0 = ss x := by intro x; simp only [List.cons_append, List.nil_append]; exact rfl) (hmm : ∀ x, ms x ++ m0 = mm x := by intro x; simp only [List.cons_append, List.nil_append]; exact rfl)
    (hs : weakS s (us x0) := by simp [weakS, gs, F]) (hm : weakM m (ms x0) := by simp [weakM, gm, F]) : pwp e mask (.loop c) ⟨s, m⟩ Q := pwp_loopU ds dm us ms ok μ x0 hs0 hm0 hss hmm hs hm h0 hr
theorem gM {e : Env} {mask : Nat} {Q : PX -> St -> Prop} {a : Code} {s : List (Nat × A)} {m : List (Nat × Bk)} {ι : Type} (ds dm : List Nat) (us : ι -> List (Nat × A)) (ms : ι -> List (Nat × Bk)) (R : ι -> Prop)
    {s0 : List (Nat × A)} {m0 : List (Nat × Bk)} {ss : ι -> List (Nat × A)} {mm : ι -> List (Nat × Bk)}
    (h : pwp e mask a ⟨s, m⟩ (fun x σ' => match x with
      | .normal => ∃ y, R y ∧ weakS σ'.s (ss y) ∧ weakM σ'.m (mm y)
      | x => Q x σ')) (hb : ∀ x, R x -> Q .normal ⟨ss x, mm x⟩) 
    (hs0 : headS ds s = s0 := by simp only [headS, headM, List.elem_cons, List.elem_nil, Nat.reduceBEq, Bool.or_false, Bool.false_or, Bool.or_true, Bool.true_or, Bool.or_self, ↓reduceIte, Bool.false_eq_true]; exact rfl) (hm0 : headM dm m = m0 := by simp only [headS, headM, List.elem_cons, List.elem_nil, Nat.reduceBEq, Bool.or_false, Bool.false_or, Bool.or_true, Bool.true_or, Bool.or_self, ↓reduceIte, Bool.false_eq_true]; exact rfl) (hss : ∀ x, us x ++ s0 = ss x := by intro x; simp only [List.cons_append, List.nil_append]; exact rfl) (hmm : ∀ x, ms x ++ m0 = mm x := by intro x; simp only [List.cons_append, List.nil_append]; exact rfl)
    (hQ : ∀ σ σ1, Wk σ σ1 -> Q .normal σ1 -> Q .normal σ := by exact fun _ _ h p => Exists.elim p fun σ2 q => ⟨σ2, h.trans q.1, q.2⟩) : pwp e mask a ⟨s, m⟩ Q := pwp_meetU hQ ds dm us ms R hs0 hm0 hss hmm h hb
theorem gI {e : Env} {f : FuncId} {fn : Func} {c : Code} {args r : List D} {ts : List RS} (mask : Nat) (hf : e.P.funcs[f]? = some fn) (h : pwp e mask c ⟨initS 0 args, []⟩ (retQ e.P ts r)) (hb : fn.body = some c := by exact rfl) (hnm : (fn.name == "runtime.NumGoroutine") = false := by kernel_rfl)
    (hok : okCode fn.ntmps c = true := by kernel_rfl) (hal : Nat.ble args.length fn.ntmps = true := by exact rfl) (hres : resSlots fn.results.toList = ts := by exact rfl) (he : e.Ok := by first | exact e0_ok | exact e1_ok | assumption) : Con e f args r := con_of_pwp he mask hf hb hnm hok hal hres h
theorem gIE {e : Env} {f : FuncId} {fn : Func} {c : Code} {args : List D} {R : List D -> Prop} {ts : List RS} (mask : Nat) (hf : e.P.funcs[f]? = some fn) (h : pwp e mask c ⟨initS 0 args, []⟩ (retQE e.P ts R)) (hb : fn.body = some c := by exact rfl) (hnm : (fn.name == "runtime.NumGoroutine") = false := by kernel_rfl)
    (hok : okCode fn.ntmps c = true := by kernel_rfl) (hal : Nat.ble args.length fn.ntmps = true := by exact rfl) (hres : resSlots fn.results.toList = ts := by exact rfl) (he : e.Ok := by first | exact e0_ok | exact e1_ok | assumption) : ConE e f args R := conE_of_pwp he mask hf hb hnm hok hal hres h
theorem gCP {e : Env} {K : St -> Prop} {ds : List (Option Nat)} {n n' : Nat} {os os' : List Oper} {σ : St} {c : Operand} {args : List Operand} {f : FuncId} {xs : List D} {d : Option Nat} {s1 s2 s3 : List (Nat × A)} {m1 m2 m3 : List (Nat × Bk)} {pm : List Bk} {R : List D -> List Bk -> Prop} (ks ks' : List Nat) (hc : ConP e f xs pm R)
    (hK : ∀ r pm', R r pm' -> Runs e ds n' os' ⟨setA s3 d (retA r), zipM ks' pm' ++ m3⟩ K) (h : runOps e.P ds n os σ = .call false c args d n' os' ⟨s1, m1⟩ := by simp only [pz, ↓reduceIte, Nat.reduceEqDiff, Nat.reduceAdd, Nat.reduceSub, Nat.reduceMul, Nat.reduceLeDiff, Nat.reduceBEq, Bool.false_eq_true, decide_true, decide_false, Int.reduceLE, Int.reduceToNat, Int.reduceLT, Int.reduceEq, eq_self, Nat.reduceShiftRight, Nat.reduceAnd, Nat.reduceBneDiff, F]; exact rfl) (h1 : callP false c args ⟨s1, m1⟩ = some (f, xs, ⟨s2, m2⟩) := by simp only [pz, ↓reduceIte, Nat.reduceEqDiff, Nat.reduceAdd, Nat.reduceSub, Nat.reduceMul, Nat.reduceLeDiff, Nat.reduceBEq, Bool.false_eq_true, decide_true, decide_false, Int.reduceLE, Int.reduceToNat, Int.reduceLT, Int.reduceEq, eq_self, Nat.reduceShiftRight, Nat.reduceAnd, Nat.reduceBneDiff, F]; exact rfl)
    (hpm : getM m2 ks = some pm := by first | (simp only [pz, ↓reduceIte, Nat.reduceEqDiff, Nat.reduceAdd, Nat.reduceSub, Nat.reduceMul, Nat.reduceLeDiff, Nat.reduceBEq, Bool.false_eq_true, decide_true, decide_false, Int.reduceLE, Int.reduceToNat, Int.reduceLT, Int.reduceEq, eq_self, Nat.reduceShiftRight, Nat.reduceAnd, Nat.reduceBneDiff]; exact rfl) | simp only [pz, ↓reduceIte, Nat.reduceEqDiff, Nat.reduceAdd, Nat.reduceSub, Nat.reduceMul, Nat.reduceLeDiff, Nat.reduceBEq, Bool.false_eq_true, decide_true, decide_false, Int.reduceLE, Int.reduceToNat, Int.reduceLT, Int.reduceEq, eq_self, Nat.reduceShiftRight, Nat.reduceAnd, Nat.reduceBneDiff]) (hpn : pm.all pinned = true := by simp only [pz, ↓reduceIte, Nat.reduceEqDiff, Nat.reduceAdd, Nat.reduceSub, Nat.reduceMul, Nat.reduceLeDiff, Nat.reduceBEq, Bool.false_eq_true, decide_true, decide_false, Int.reduceLE, Int.reduceToNat, Int.reduceLT, Int.reduceEq, eq_self, Nat.reduceShiftRight, Nat.reduceAnd, Nat.reduceBneDiff]) (hn : ks.Nodup := by decide) (hk : killKs (ks ++ ks') s2 = s3 := by simp only [pz, ↓reduceIte, Nat.reduceEqDiff, Nat.reduceAdd, Nat.reduceSub, Nat.reduceMul, Nat.reduceLeDiff, Nat.reduceBEq, Bool.false_eq_true, decide_true, decide_false, Int.reduceLE, Int.reduceToNat, Int.reduceLT, Int.reduceEq, eq_self, Nat.reduceShiftRight, Nat.reduceAnd, Nat.reduceBneDiff]; exact rfl) (hr : remMs (ks ++ ks') m2 = m3 := by simp only [pz, ↓reduceIte, Nat.reduceEqDiff, Nat.reduceAdd, Nat.reduceSub, Nat.reduceMul, Nat.reduceLeDiff, Nat.reduceBEq, Bool.false_eq_true, decide_true, decide_false, Int.reduceLE, Int.reduceToNat, Int.reduceLT, Int.reduceEq, eq_self, Nat.reduceShiftRight, Nat.reduceAnd, Nat.reduceBneDiff]; exact rfl) : Runs e ds n os σ K := runs_goP ks ks' h h1 hc hpm hpn hn hk hr hK
theorem gCI {e : Env} {K : St -> Prop} {ds : List (Option Nat)} {n n' : Nat} {os os' : List Oper} {σ : St} {c x0 : Operand} {rest : List Operand} {f : FuncId} {xs : List D} {d : Option Nat} {s1 s3 : List (Nat × A)} {m1 m3 : List (Nat × Bk)} {k ty sz : Nat} {rows rows' : List (List C)} {r : List D} {oa : Option (Option Addr × Nat)} (hc : ConI e f ty sz rows xs rows' r) (hl : rows'.length = rows.length)
    (hK : Runs e ds n' os' ⟨s3, (k, .buf oa ty sz rows') :: m3⟩ K) (h : runOps e.P ds n os σ = .call false c (x0 :: rest) d n' os' ⟨s1, m1⟩ := by simp only [pz, ↓reduceIte, Nat.reduceEqDiff, Nat.reduceAdd, Nat.reduceSub, Nat.reduceMul, Nat.reduceLeDiff, Nat.reduceBEq, Bool.false_eq_true, decide_true, decide_false, Int.reduceLE, Int.reduceToNat, Int.reduceLT, Int.reduceEq, eq_self, Nat.reduceShiftRight, Nat.reduceAnd, Nat.reduceBneDiff, F]; exact rfl) (h1 : callO c x0 rest ⟨s1, m1⟩ = some (f, k, ty, sz, rows, xs) := by simp only [pz, ↓reduceIte, Nat.reduceEqDiff, Nat.reduceAdd, Nat.reduceSub, Nat.reduceMul, Nat.reduceLeDiff, Nat.reduceBEq, Bool.false_eq_true, decide_true, decide_false, Int.reduceLE, Int.reduceToNat, Int.reduceLT, Int.reduceEq, eq_self, Nat.reduceShiftRight, Nat.reduceAnd, Nat.reduceBneDiff, F]; exact rfl)
    (hm : gm m1 k = some (.buf oa ty sz rows) := by simp only [pz, ↓reduceIte, Nat.reduceEqDiff, Nat.reduceAdd, Nat.reduceSub, Nat.reduceMul, Nat.reduceLeDiff, Nat.reduceBEq, Bool.false_eq_true, decide_true, decide_false, Int.reduceLE, Int.reduceToNat, Int.reduceLT, Int.reduceEq, eq_self, Nat.reduceShiftRight, Nat.reduceAnd, Nat.reduceBneDiff]; exact rfl) (h2 : setA s1 d (retA r) = s3 := by simp only [setA, retA]; exact rfl) (h3 : remM k m1 = m3 := by simp only [pz, ↓reduceIte, Nat.reduceEqDiff, Nat.reduceAdd, Nat.reduceSub, Nat.reduceMul, Nat.reduceLeDiff, Nat.reduceBEq, Bool.false_eq_true, decide_true, decide_false, Int.reduceLE, Int.reduceToNat, Int.reduceLT, Int.reduceEq, eq_self, Nat.reduceShiftRight, Nat.reduceAnd, Nat.reduceBneDiff]; exact rfl) : Runs e ds n os σ K := runs_goI h h1 hm hc hl h2 h3 hK
theorem gCR {e : Env} {K : St -> Prop} {ds : List (Option Nat)} {n n' : Nat} {os os' : List Oper} {σ : St} {c : Operand} {args : List Operand} {f : FuncId} {xs : List D} {d ty sz : Nat} {s1 s2 s3 : List (Nat × A)} {m1 m2 m3 : List (Nat × Bk)} {rows : List (List C)} (hc : ConR e f xs ty sz rows) (hK : Runs e ds n' os' ⟨(d, .buf d) :: s3, (d, .buf none ty sz rows) :: m3⟩ K)
    (h : runOps e.P ds n os σ = .call false c args (some d) n' os' ⟨s1, m1⟩ := by simp only [pz, ↓reduceIte, Nat.reduceEqDiff, Nat.reduceAdd, Nat.reduceSub, Nat.reduceMul, Nat.reduceLeDiff, Nat.reduceBEq, Bool.false_eq_true, decide_true, decide_false, Int.reduceLE, Int.reduceToNat, Int.reduceLT, Int.reduceEq, eq_self, Nat.reduceShiftRight, Nat.reduceAnd, Nat.reduceBneDiff, F]; exact rfl) (h1 : callP false c args ⟨s1, m1⟩ = some (f, xs, ⟨s2, m2⟩) := by simp only [pz, ↓reduceIte, Nat.reduceEqDiff, Nat.reduceAdd, Nat.reduceSub, Nat.reduceMul, Nat.reduceLeDiff, Nat.reduceBEq, Bool.false_eq_true, decide_true, decide_false, Int.reduceLE, Int.reduceToNat, Int.reduceLT, Int.reduceEq, eq_self, Nat.reduceShiftRight, Nat.reduceAnd, Nat.reduceBneDiff, F]; exact rfl) (h2 : killK d s2 = s3 := by simp only [pz, ↓reduceIte, Nat.reduceEqDiff, Nat.reduceAdd, Nat.reduceSub, Nat.reduceMul, Nat.reduceLeDiff, Nat.reduceBEq, Bool.false_eq_true, decide_true, decide_false, Int.reduceLE, Int.reduceToNat, Int.reduceLT, Int.reduceEq, eq_self, Nat.reduceShiftRight, Nat.reduceAnd, Nat.reduceBneDiff]; exact rfl) (h3 : remM d m2 = m3 := by simp only [pz, ↓reduceIte, Nat.reduceEqDiff, Nat.reduceAdd, Nat.reduceSub, Nat.reduceMul, Nat.reduceLeDiff, Nat.reduceBEq, Bool.false_eq_true, decide_true, decide_false, Int.reduceLE, Int.reduceToNat, Int.reduceLT, Int.reduceEq, eq_self, Nat.reduceShiftRight, Nat.reduceAnd, Nat.reduceBneDiff]; exact rfl) : Runs e ds n os σ K := runs_goR h h1 hc h2 h3 hK
theorem gP {e : Env} {K : St -> Prop} {ds : List (Option Nat)} {n n' : Nat} {os os' : List Oper} {σ : St} {s1 : List (Nat × A)} {m1 : List (Nat × Bk)} (j : Nat) (hK : Runs e ds n' os' ⟨s1, m1⟩ K) (h : stopOf (runN e.P ds j n os σ) = some (n', os', s1, m1) := by simp only [pz, ↓reduceIte, Nat.reduceEqDiff, Nat.reduceAdd, Nat.reduceSub, Nat.reduceMul, Nat.reduceLeDiff, Nat.reduceBEq, Bool.false_eq_true, decide_true, decide_false, Int.reduceLE, Int.reduceToNat, Int.reduceLT, Int.reduceEq, eq_self, Nat.reduceShiftRight, Nat.reduceAnd, Nat.reduceBneDiff, F]; exact rfl) : Runs e ds n os σ K := runs_part j h hK
theorem gS {e : Env} {K : St -> Prop} {ds : List (Option Nat)} {os : List Oper} {s : List (Nat × A)} {m m2 : List (Nat × Bk)} {ety sz : Nat} {rows : List (List C)} {s2 : Option Addr -> Nat -> List (Nat × A)} (k : Nat) (hK : ∀ a cap, Runs e ds 0 os ⟨s2 a cap, (k, .buf (some (a, cap)) ety sz rows) :: m2⟩ K)
    (hm : gm m k = some (.buf none ety sz rows) := by simp only [pz, ↓reduceIte, Nat.reduceEqDiff, Nat.reduceAdd, Nat.reduceSub, Nat.reduceMul, Nat.reduceLeDiff, Nat.reduceBEq, Bool.false_eq_true, decide_true, decide_false, Int.reduceLE, Int.reduceToNat, Int.reduceLT, Int.reduceEq, eq_self, Nat.reduceShiftRight, Nat.reduceAnd, Nat.reduceBneDiff]; exact rfl) (hs : ∀ a cap, mapS (litB k a rows.length cap) s = s2 a cap := by intro a cap; simp only [pz, ↓reduceIte, Nat.reduceEqDiff, Nat.reduceAdd, Nat.reduceSub, Nat.reduceMul, Nat.reduceLeDiff, Nat.reduceBEq, Bool.false_eq_true, decide_true, decide_false, Int.reduceLE, Int.reduceToNat, Int.reduceLT, Int.reduceEq, eq_self, Nat.reduceShiftRight, Nat.reduceAnd, Nat.reduceBneDiff]; exact rfl) (hr : remM k m = m2 := by simp only [pz, ↓reduceIte, Nat.reduceEqDiff, Nat.reduceAdd, Nat.reduceSub, Nat.reduceMul, Nat.reduceLeDiff, Nat.reduceBEq, Bool.false_eq_true, decide_true, decide_false, Int.reduceLE, Int.reduceToNat, Int.reduceLT, Int.reduceEq, eq_self, Nat.reduceShiftRight, Nat.reduceAnd, Nat.reduceBneDiff]; exact rfl) : Runs e ds 0 os ⟨s, m⟩ K :=
  runs_turn (turn_pinB k hm) fun σ' ⟨a, cap, hσ⟩ => by subst hσ; simp only [hs, hr]; exact hK a cap
theorem gO {e : Env} {K : St -> Prop} {ds : List (Option Nat)} {os : List Oper} {s s2 : List (Nat × A)} {m m2 : List (Nat × Bk)} (t ety sz : Nat) (hK : Runs e ds 0 os ⟨(t, .buf t) :: s2, (t, .buf none ety sz []) :: m2⟩ K) (h0 : 0 < sz := by decide) (hm : gs s t = .d (.clip []) := by simp only [pz, ↓reduceIte, Nat.reduceEqDiff, Nat.reduceAdd, Nat.reduceSub, Nat.reduceMul, Nat.reduceLeDiff, Nat.reduceBEq, Bool.false_eq_true, decide_true, decide_false, Int.reduceLE, Int.reduceToNat, Int.reduceLT, Int.reduceEq, eq_self, Nat.reduceShiftRight, Nat.reduceAnd, Nat.reduceBneDiff])
    (hs : killK t s = s2 := by simp only [pz, ↓reduceIte, Nat.reduceEqDiff, Nat.reduceAdd, Nat.reduceSub, Nat.reduceMul, Nat.reduceLeDiff, Nat.reduceBEq, Bool.false_eq_true, decide_true, decide_false, Int.reduceLE, Int.reduceToNat, Int.reduceLT, Int.reduceEq, eq_self, Nat.reduceShiftRight, Nat.reduceAnd, Nat.reduceBneDiff]; exact rfl) (hr : remM t m = m2 := by simp only [pz, ↓reduceIte, Nat.reduceEqDiff, Nat.reduceAdd, Nat.reduceSub, Nat.reduceMul, Nat.reduceLeDiff, Nat.reduceBEq, Bool.false_eq_true, decide_true, decide_false, Int.reduceLE, Int.reduceToNat, Int.reduceLT, Int.reduceEq, eq_self, Nat.reduceShiftRight, Nat.reduceAnd, Nat.reduceBneDiff]; exact rfl) : Runs e ds 0 os ⟨s, m⟩ K :=
  runs_turn (turn_own t ety sz h0 hm) fun σ' hσ => by subst hσ; simp only [hs, hr]; exact hK
theorem pD {e : Env} {mask : Nat} {Q : PX -> St -> Prop} {c : Code} {s s2 : List (Nat × A)} {m m2 : List (Nat × Bk)} {a : Option Addr} {cap ety sz : Nat} {rows : List (List C)} (k : Nat) (ts ks : List Nat) (hK : pwp e mask c ⟨s2, m2⟩ Q) (hm : gm m k = some (.buf (some (a, cap)) ety sz rows) := by simp only [pz, ↓reduceIte, Nat.reduceEqDiff, Nat.reduceAdd, Nat.reduceSub, Nat.reduceMul, Nat.reduceLeDiff, Nat.reduceBEq, Bool.false_eq_true, decide_true, decide_false, Int.reduceLE, Int.reduceToNat, Int.reduceLT, Int.reduceEq, eq_self, Nat.reduceShiftRight, Nat.reduceAnd, Nat.reduceBneDiff]; exact rfl)
    (hs : datS a rows.length cap rows ts (frzS k (.buf (some (a, cap)) ety sz rows) s) = s2 := by simp only [pz, ↓reduceIte, Nat.reduceEqDiff, Nat.reduceAdd, Nat.reduceSub, Nat.reduceMul, Nat.reduceLeDiff, Nat.reduceBEq, Bool.false_eq_true, decide_true, decide_false, Int.reduceLE, Int.reduceToNat, Int.reduceLT, Int.reduceEq, eq_self, Nat.reduceShiftRight, Nat.reduceAnd, Nat.reduceBneDiff]; exact rfl) (hr : datM a rows.length cap rows ks (remM k m) = m2 := by simp only [pz, ↓reduceIte, Nat.reduceEqDiff, Nat.reduceAdd, Nat.reduceSub, Nat.reduceMul, Nat.reduceLeDiff, Nat.reduceBEq, Bool.false_eq_true, decide_true, decide_false, Int.reduceLE, Int.reduceToNat, Int.reduceLT, Int.reduceEq, eq_self, Nat.reduceShiftRight, Nat.reduceAnd, Nat.reduceBneDiff]; exact rfl) : pwp e mask c ⟨s, m⟩ Q :=
  pwp_turn (turn_dat k ts ks hm) fun σ' hσ => by subst hσ; simp only [hs, hr]; exact hK
theorem pV {e : Env} {mask : Nat} {Q : PX -> St -> Prop} {c : Code} {s : List (Nat × A)} {m m2 : List (Nat × Bk)} {cs : List C} {s2 : Nat -> List (Nat × A)} (k : Nat) (hK : ∀ b, (∀ k' b' cs', k' ≠ k -> gm m k' = some (.var (some b') cs') -> b ≠ b') -> pwp e mask c ⟨s2 b, (k, .var (some b) cs) :: m2⟩ Q)
    (hm : gm m k = some (.var none cs) := by simp only [pz, ↓reduceIte, Nat.reduceEqDiff, Nat.reduceAdd, Nat.reduceSub, Nat.reduceMul, Nat.reduceLeDiff, Nat.reduceBEq, Bool.false_eq_true, decide_true, decide_false, Int.reduceLE, Int.reduceToNat, Int.reduceLT, Int.reduceEq, eq_self, Nat.reduceShiftRight, Nat.reduceAnd, Nat.reduceBneDiff]; exact rfl) (hs : ∀ b, mapS (litV k b) s = s2 b := by intro b; simp only [pz, ↓reduceIte, Nat.reduceEqDiff, Nat.reduceAdd, Nat.reduceSub, Nat.reduceMul, Nat.reduceLeDiff, Nat.reduceBEq, Bool.false_eq_true, decide_true, decide_false, Int.reduceLE, Int.reduceToNat, Int.reduceLT, Int.reduceEq, eq_self, Nat.reduceShiftRight, Nat.reduceAnd, Nat.reduceBneDiff]; exact rfl) (hr : remM k m = m2 := by simp only [pz, ↓reduceIte, Nat.reduceEqDiff, Nat.reduceAdd, Nat.reduceSub, Nat.reduceMul, Nat.reduceLeDiff, Nat.reduceBEq, Bool.false_eq_true, decide_true, decide_false, Int.reduceLE, Int.reduceToNat, Int.reduceLT, Int.reduceEq, eq_self, Nat.reduceShiftRight, Nat.reduceAnd, Nat.reduceBneDiff]; exact rfl) : pwp e mask c ⟨s, m⟩ Q :=
  pwp_turn (turn_pinV k hm) fun σ' ⟨b, hb, hσ⟩ => by subst hσ; simp only [hs, hr]; exact hK b hb
theorem pS {e : Env} {mask : Nat} {Q : PX -> St -> Prop} {c : Code} {s : List (Nat × A)} {m m2 : List (Nat × Bk)} {ety sz : Nat} {rows : List (List C)} {s2 : Option Addr -> Nat -> List (Nat × A)} (k : Nat) (hK : ∀ a cap, pwp e mask c ⟨s2 a cap, (k, .buf (some (a, cap)) ety sz rows) :: m2⟩ Q)
    (hm : gm m k = some (.buf none ety sz rows) := by simp only [pz, ↓reduceIte, Nat.reduceEqDiff, Nat.reduceAdd, Nat.reduceSub, Nat.reduceMul, Nat.reduceLeDiff, Nat.reduceBEq, Bool.false_eq_true, decide_true, decide_false, Int.reduceLE, Int.reduceToNat, Int.reduceLT, Int.reduceEq, eq_self, Nat.reduceShiftRight, Nat.reduceAnd, Nat.reduceBneDiff]; exact rfl) (hs : ∀ a cap, mapS (litB k a rows.length cap) s = s2 a cap := by intro a cap; simp only [pz, ↓reduceIte, Nat.reduceEqDiff, Nat.reduceAdd, Nat.reduceSub, Nat.reduceMul, Nat.reduceLeDiff, Nat.reduceBEq, Bool.false_eq_true, decide_true, decide_false, Int.reduceLE, Int.reduceToNat, Int.reduceLT, Int.reduceEq, eq_self, Nat.reduceShiftRight, Nat.reduceAnd, Nat.reduceBneDiff]; exact rfl) (hr : remM k m = m2 := by simp only [pz, ↓reduceIte, Nat.reduceEqDiff, Nat.reduceAdd, Nat.reduceSub, Nat.reduceMul, Nat.reduceLeDiff, Nat.reduceBEq, Bool.false_eq_true, decide_true, decide_false, Int.reduceLE, Int.reduceToNat, Int.reduceLT, Int.reduceEq, eq_self, Nat.reduceShiftRight, Nat.reduceAnd, Nat.reduceBneDiff]; exact rfl) : pwp e mask c ⟨s, m⟩ Q :=
  pwp_turn (turn_pinB k hm) fun σ' ⟨a, cap, hσ⟩ => by subst hσ; simp only [hs, hr]; exact hK a cap
def Retold (pm pm' : List Bk) : Prop := ∀ (w : World) (S : Nat -> Prop), (∀ x ∈ pm, PinRel w S x) -> Apart pm -> (∀ x ∈ pm', PinRel w S x) ∧ Apart pm' ∧ ∀ g, pblks pm' g -> pblks pm g
theorem pE {e : Env} {mask : Nat} {Q : PX -> St -> Prop} {c : Code} {s s2 : List (Nat × A)} {m m2 m3 : List (Nat × Bk)} {pm pm' : List Bk} (ks ks' : List Nat) (hre : Retold pm pm') (hK : pwp e mask c ⟨s2, m3⟩ Q) (hpm : getM m ks = some pm := by first | (simp only [pz, ↓reduceIte, Nat.reduceEqDiff, Nat.reduceAdd, Nat.reduceSub, Nat.reduceMul, Nat.reduceLeDiff, Nat.reduceBEq, Bool.false_eq_true, decide_true, decide_false, Int.reduceLE, Int.reduceToNat, Int.reduceLT, Int.reduceEq, eq_self, Nat.reduceShiftRight, Nat.reduceAnd, Nat.reduceBneDiff]; exact rfl) | simp only [pz, ↓reduceIte, Nat.reduceEqDiff, Nat.reduceAdd, Nat.reduceSub, Nat.reduceMul, Nat.reduceLeDiff, Nat.reduceBEq, Bool.false_eq_true, decide_true, decide_false, Int.reduceLE, Int.reduceToNat, Int.reduceLT, Int.reduceEq, eq_self, Nat.reduceShiftRight, Nat.reduceAnd, Nat.reduceBneDiff]) (hn : ks.Nodup := by decide) (hp : pm.all pinned = true := by simp only [pz, ↓reduceIte, Nat.reduceEqDiff, Nat.reduceAdd, Nat.reduceSub, Nat.reduceMul, Nat.reduceLeDiff, Nat.reduceBEq, Bool.false_eq_true, decide_true, decide_false, Int.reduceLE, Int.reduceToNat, Int.reduceLT, Int.reduceEq, eq_self, Nat.reduceShiftRight, Nat.reduceAnd, Nat.reduceBneDiff])
    (hs : killKs (ks ++ ks') s = s2 := by simp only [pz, ↓reduceIte, Nat.reduceEqDiff, Nat.reduceAdd, Nat.reduceSub, Nat.reduceMul, Nat.reduceLeDiff, Nat.reduceBEq, Bool.false_eq_true, decide_true, decide_false, Int.reduceLE, Int.reduceToNat, Int.reduceLT, Int.reduceEq, eq_self, Nat.reduceShiftRight, Nat.reduceAnd, Nat.reduceBneDiff]; exact rfl) (hr : remMs (ks ++ ks') m = m2 := by simp only [pz, ↓reduceIte, Nat.reduceEqDiff, Nat.reduceAdd, Nat.reduceSub, Nat.reduceMul, Nat.reduceLeDiff, Nat.reduceBEq, Bool.false_eq_true, decide_true, decide_false, Int.reduceLE, Int.reduceToNat, Int.reduceLT, Int.reduceEq, eq_self, Nat.reduceShiftRight, Nat.reduceAnd, Nat.reduceBneDiff]; exact rfl) (h3 : zipM ks' pm' ++ m2 = m3 := by simp only [pz, ↓reduceIte, Nat.reduceEqDiff, Nat.reduceAdd, Nat.reduceSub, Nat.reduceMul, Nat.reduceLeDiff, Nat.reduceBEq, Bool.false_eq_true, decide_true, decide_false, Int.reduceLE, Int.reduceToNat, Int.reduceLT, Int.reduceEq, eq_self, Nat.reduceShiftRight, Nat.reduceAnd, Nat.reduceBneDiff]; exact rfl) : pwp e mask c ⟨s, m⟩ Q :=
  pwp_turn (turn_re (Φ := fun x => x = pm') ks ks' hn hpm hp (fun w S h1 h2 => ⟨pm', rfl, hre w S h1 h2⟩)) fun σ' ⟨q, hq, hσ⟩ => by subst hq hσ; simp only [hs, hr, h3]; exact hK
def Found {ι : Type} (pm : List Bk) (Φ : ι -> Prop) (f : ι -> List Bk) : Prop := ∀ (w : World) (S : Nat -> Prop), (∀ x ∈ pm, PinRel w S x) -> Apart pm -> ∃ i, Φ i ∧ (∀ x ∈ f i, PinRel w S x) ∧ Apart (f i) ∧ ∀ g, pblks (f i) g -> pblks pm g
theorem pEx {e : Env} {mask : Nat} {Q : PX -> St -> Prop} {c : Code} {s s2 : List (Nat × A)} {m m2 : List (Nat × Bk)} {pm : List Bk} {ι : Type} {Φ : ι -> Prop} {f : ι -> List Bk} {m3 : ι -> List (Nat × Bk)} (ks ks' : List Nat) (hre : Found pm Φ f) (hK : ∀ i, Φ i -> pwp e mask c ⟨s2, m3 i⟩ Q) (hpm : getM m ks = some pm := by first | (simp only [pz, ↓reduceIte, Nat.reduceEqDiff, Nat.reduceAdd, Nat.reduceSub, Nat.reduceMul, Nat.reduceLeDiff, Nat.reduceBEq, Bool.false_eq_true, decide_true, decide_false, Int.reduceLE, Int.reduceToNat, Int.reduceLT, Int.reduceEq, eq_self, Nat.reduceShiftRight, Nat.reduceAnd, Nat.reduceBneDiff]; exact rfl) | simp only [pz, ↓reduceIte, Nat.reduceEqDiff, Nat.reduceAdd, Nat.reduceSub, Nat.reduceMul, Nat.reduceLeDiff, Nat.reduceBEq, Bool.false_eq_true, decide_true, decide_false, Int.reduceLE, Int.reduceToNat, Int.reduceLT, Int.reduceEq, eq_self, Nat.reduceShiftRight, Nat.reduceAnd, Nat.reduceBneDiff]) (hn : ks.Nodup := by decide) (hp : pm.all pinned = true := by simp only [pz, ↓reduceIte, Nat.reduceEqDiff, Nat.reduceAdd, Nat.reduceSub, Nat.reduceMul, Nat.reduceLeDiff, Nat.reduceBEq, Bool.false_eq_true, decide_true, decide_false, Int.reduceLE, Int.reduceToNat, Int.reduceLT, Int.reduceEq, eq_self, Nat.reduceShiftRight, Nat.reduceAnd, Nat.reduceBneDiff])
    (hs : killKs (ks ++ ks') s = s2 := by simp only [pz, ↓reduceIte, Nat.reduceEqDiff, Nat.reduceAdd, Nat.reduceSub, Nat.reduceMul, Nat.reduceLeDiff, Nat.reduceBEq, Bool.false_eq_true, decide_true, decide_false, Int.reduceLE, Int.reduceToNat, Int.reduceLT, Int.reduceEq, eq_self, Nat.reduceShiftRight, Nat.reduceAnd, Nat.reduceBneDiff]; exact rfl) (hr : remMs (ks ++ ks') m = m2 := by simp only [pz, ↓reduceIte, Nat.reduceEqDiff, Nat.reduceAdd, Nat.reduceSub, Nat.reduceMul, Nat.reduceLeDiff, Nat.reduceBEq, Bool.false_eq_true, decide_true, decide_false, Int.reduceLE, Int.reduceToNat, Int.reduceLT, Int.reduceEq, eq_self, Nat.reduceShiftRight, Nat.reduceAnd, Nat.reduceBneDiff]; exact rfl) (h3 : ∀ i, zipM ks' (f i) ++ m2 = m3 i := by intro i; simp only [pz, ↓reduceIte, Nat.reduceEqDiff, Nat.reduceAdd, Nat.reduceSub, Nat.reduceMul, Nat.reduceLeDiff, Nat.reduceBEq, Bool.false_eq_true, decide_true, decide_false, Int.reduceLE, Int.reduceToNat, Int.reduceLT, Int.reduceEq, eq_self, Nat.reduceShiftRight, Nat.reduceAnd, Nat.reduceBneDiff]; exact rfl) : pwp e mask c ⟨s, m⟩ Q :=
  pwp_turn (turn_re (Φ := fun x => ∃ i, Φ i ∧ x = f i) ks ks' hn hpm hp (fun w S h1 h2 => Exists.elim (hre w S h1 h2) fun i hi => ⟨f i, ⟨i, hi.1, rfl⟩, hi.2⟩)) fun σ' ⟨q, ⟨i, hi, hq⟩, hσ⟩ => by subst hq hσ; simp only [hs, hr, h3]; exact hK i hi
theorem gIP {e : Env} {f : FuncId} {fn : Func} {c : Code} {args : List D} {pm : List Bk} {m0 : List (Nat × Bk)} {R : List D -> List Bk -> Prop} {ts : List RS} (keys : List Nat) (mask : Nat) (hf : e.P.funcs[f]? = some fn) (h : pwp e mask c ⟨initS 0 args, m0⟩ (retQP e.P ts R)) (hm : zipM keys pm = m0 := by simp only [pz, ↓reduceIte, Nat.reduceEqDiff, Nat.reduceAdd, Nat.reduceSub, Nat.reduceMul, Nat.reduceLeDiff, Nat.reduceBEq, Bool.false_eq_true, decide_true, decide_false, Int.reduceLE, Int.reduceToNat, Int.reduceLT, Int.reduceEq, eq_self, Nat.reduceShiftRight, Nat.reduceAnd, Nat.reduceBneDiff]; exact rfl) (hb : fn.body = some c := by exact rfl) (hnm : (fn.name == "runtime.NumGoroutine") = false := by kernel_rfl)
    (hok : okCode fn.ntmps c = true := by kernel_rfl) (hal : Nat.ble args.length fn.ntmps = true := by exact rfl) (hres : resSlots fn.results.toList = ts := by exact rfl) (he : e.Ok := by first | exact e0_ok | exact e1_ok | assumption) : ConP e f args pm R := conP_of_pwp he keys mask hf hb hnm hok hal hres (by rw [hm]; exact h)
theorem gTP {X : Prop} {P : Program} {ts : List RS} {R : List D -> List Bk -> Prop} {σ : St} {r : List D} {pm : List Bk} (ks : List Nat) (hR : R r pm) (hx : retQP P ts R .ret σ -> X := by exact fun h => pwp_ret h) (hr : resD P σ ts = some r := by first | (simp only [pz, ↓reduceIte, Nat.reduceEqDiff, Nat.reduceAdd, Nat.reduceSub, Nat.reduceMul, Nat.reduceLeDiff, Nat.reduceBEq, Bool.false_eq_true, decide_true, decide_false, Int.reduceLE, Int.reduceToNat, Int.reduceLT, Int.reduceEq, eq_self, Nat.reduceShiftRight, Nat.reduceAnd, Nat.reduceBneDiff, F]; exact rfl) | simp only [pz, ↓reduceIte, Nat.reduceEqDiff, Nat.reduceAdd, Nat.reduceSub, Nat.reduceMul, Nat.reduceLeDiff, Nat.reduceBEq, Bool.false_eq_true, decide_true, decide_false, Int.reduceLE, Int.reduceToNat, Int.reduceLT, Int.reduceEq, eq_self, Nat.reduceShiftRight, Nat.reduceAnd, Nat.reduceBneDiff, F]) (hg : getM σ.m ks = some pm := by first | (simp only [pz, ↓reduceIte, Nat.reduceEqDiff, Nat.reduceAdd, Nat.reduceSub, Nat.reduceMul, Nat.reduceLeDiff, Nat.reduceBEq, Bool.false_eq_true, decide_true, decide_false, Int.reduceLE, Int.reduceToNat, Int.reduceLT, Int.reduceEq, eq_self, Nat.reduceShiftRight, Nat.reduceAnd, Nat.reduceBneDiff]; exact rfl) | simp only [pz, ↓reduceIte, Nat.reduceEqDiff, Nat.reduceAdd, Nat.reduceSub, Nat.reduceMul, Nat.reduceLeDiff, Nat.reduceBEq, Bool.false_eq_true, decide_true, decide_false, Int.reduceLE, Int.reduceToNat, Int.reduceLT, Int.reduceEq, eq_self, Nat.reduceShiftRight, Nat.reduceAnd, Nat.reduceBneDiff]) (hn : ks.Nodup := by decide) (hp : pm.all pinned = true := by simp only [pz, ↓reduceIte, Nat.reduceEqDiff, Nat.reduceAdd, Nat.reduceSub, Nat.reduceMul, Nat.reduceLeDiff, Nat.reduceBEq, Bool.false_eq_true, decide_true, decide_false, Int.reduceLE, Int.reduceToNat, Int.reduceLT, Int.reduceEq, eq_self, Nat.reduceShiftRight, Nat.reduceAnd, Nat.reduceBneDiff]) : X :=
  hx ⟨r, ks, pm, hg, hn, hp, hR, resOk_of hr⟩
end Go.Proofs.YtkekkmpogmlopaaGreat
namespace Go.Proofs.YtkekkmpogmlopaaGreat
open Go.RowKit
def OwnVs (w : World) : List (List C) -> (Nat -> Prop) -> List (List Value) -> Prop
  | [], _, [] => True
  | r :: rs, S, us :: uss => ∃ S1 S2 : Nat -> Prop, (∀ x, S1 x -> S x) ∧ (∀ x, S2 x -> S x) ∧ (∀ x, S1 x -> S2 x -> False) ∧ OwnVals w r S1 us ∧ OwnVs w rs S2 uss
  | _, _, _ => False
def litRow (us : List Value) : List C := us.map .lit
section
variable {w w' : World}
theorem OwnVs.keep (hz : w.heap.size <= w'.heap.size) : ∀ (rows : List (List C)) (S S' : Nat -> Prop) (uss : List (List Value)), (∀ b, S b -> w'.heap[b]? = w.heap[b]?) -> (∀ b, S b -> S' b) -> OwnVs w rows S uss -> OwnVs w' rows S' uss
  | [], _, _, [], _, _, _ => trivial
  | r :: rs, S, S', us :: uss, hk, hS, h => by
    obtain ⟨S1, S2, h1, h2, hd, hr, hrs⟩ := h
    exact ⟨S1, S2, fun x hx => hS x (h1 x hx), fun x hx => hS x (h2 x hx), hd, OwnVals.keep hz r S1 S1 us (fun x hx => hk x (h1 x hx)) (fun _ h => h) hr, OwnVs.keep hz rs S2 S2 uss (fun x hx => hk x (h2 x hx)) (fun _ h => h) hrs⟩
  | [], _, _, _ :: _, _, _, h => h.elim
  | _ :: _, _, _, [], _, _, h => h.elim
theorem OwnVs.len : ∀ {rows : List (List C)} {S : Nat -> Prop} {uss : List (List Value)}, OwnVs w rows S uss -> uss.length = rows.length
  | [], _, [], _ => rfl
  | r :: rs, S, us :: uss, ⟨S1, S2, _, _, _, _, h⟩ => by simp [OwnVs.len h]
theorem OwnVs.snoc : ∀ {rows : List (List C)} {r : List C} {S S1 S2 : Nat -> Prop} {uss : List (List Value)} {us : List Value}, OwnVs w rows S1 uss -> OwnVals w r S2 us -> (∀ x, S1 x -> S x) -> (∀ x, S2 x -> S x) -> (∀ x, S1 x -> S2 x -> False) -> OwnVs w (rows ++ [r]) S (uss ++ [us])
  | [], r, S, S1, S2, [], us, _, h2, i1, i2, hd => ⟨S2, fun _ => False, i2, fun _ h => h.elim, fun _ _ h => h, h2, trivial⟩
  | q :: qs, r, S, S1, S2, vs :: vss, us, ⟨T1, T2, a1, a2, a3, a4, a5⟩, h2, i1, i2, hd =>
    ⟨T1, fun x => T2 x ∨ S2 x, fun x hx => i1 x (a1 x hx), fun x hx => hx.elim (fun h => i1 x (a2 x h)) (i2 x), fun x hx hy => hy.elim (a3 x hx) (hd x (a1 x hx)), a4,
      OwnVs.snoc a5 h2 (fun _ h => .inl h) (fun _ h => .inr h) (fun x hx hy => hd x (a2 x hx) hy)⟩
  | [], _, _, _, _, _ :: _, _, h, _, _, _, _ => h.elim
  | _ :: _, _, _, _, _, [], _, h, _, _, _, _ => h.elim
theorem OwnVs.get : ∀ {rows : List (List C)} {S : Nat -> Prop} {uss : List (List Value)} {i : Nat} {r : List C} {us : List Value}, OwnVs w rows S uss -> rows[i]? = some r -> uss[i]? = some us -> OwnVals w r S us
  | r :: rs, S, us :: uss, 0, r', us', ⟨S1, S2, h1, _, _, h, _⟩, hr, hu => by
    simp at hr hu; subst hr hu
    exact OwnVals.keep (Nat.le_refl _) r S1 S us (fun _ _ => rfl) h1 h
  | r :: rs, S, us :: uss, i + 1, r', us', ⟨S1, S2, _, h2, _, _, h⟩, hr, hu =>
    OwnVals.keep (Nat.le_refl _) r' S2 S us' (fun _ _ => rfl) h2 (OwnVs.get h (by simpa using hr) (by simpa using hu))
  | [], _, _, _, _, _, _, hr, _ => by simp at hr
  | _ :: _, _, [], _, _, _, h, _, _ => h.elim
theorem OwnVs.stable (rows : List (List C)) (E : Nat -> Prop) (uss : List (List Value)) : StableOn E (fun w => OwnVs w rows E uss) := fun w w' hz hk h => OwnVs.keep hz rows E E uss hk (fun _ h => h) h
theorem OwnVals.stable (r : List C) (E : Nat -> Prop) (us : List Value) : StableOn E (fun w => OwnVals w r E us) := fun w w' hz hk h => OwnVals.keep hz r E E us hk (fun _ h => h) h
theorem Own.stable (c : C) (E : Nat -> Prop) (v : Value) : StableOn E (fun w => Own w c E v) := fun w w' hz hk h => Own.keep hz c E E v hk (fun _ h => h) h
theorem RepVals_lit {S : Nat -> Prop} : ∀ {us vs : List Value}, RepVals w S (litRow us) vs -> vs = us
  | [], [], _ => rfl
  | u :: us, v :: vs, h => by
    simp only [litRow, List.map_cons, RepVals, Rep] at h
    rw [h.1, RepVals_lit h.2]
  | [], _ :: _, h => by simp [litRow, RepVals] at h
  | _ :: _, [], h => by simp [litRow, RepVals] at h
theorem OwnRows.close {b : Nat} {T : Nat -> Prop} : ∀ {rows : List (List C)} {uss : List (List Value)} {S : Nat -> Prop} {off : Nat}, RepRows w T b off (uss.map litRow) -> OwnVs w rows S uss -> OwnRows w b rows S off
  | [], [], _, _, _, _ => by simp [OwnRows]
  | r :: rs, us :: uss, S, off, hr, ⟨S1, S2, h1, h2, hd, hv, hvs⟩ => by
    simp only [List.map_cons, RepRows] at hr
    simp only [OwnRows]
    obtain ⟨vs, q1, q2⟩ := hr.1.vals
    have e := RepVals_lit q1
    subst e
    have hl : (litRow vs).length = r.length := by simp [litRow, OwnVals.len hv]
    refine ⟨S1, S2, h1, h2, hd, OwnRow.of_vals r S1 vs off hv q2, ?_⟩
    rw [<- hl]
    exact OwnRows.close hr.2 hvs
  | [], _ :: _, _, _, _, h => h.elim
  | _ :: _, [], _, _, _, h => h.elim
theorem Own.close {T : Nat -> Prop} {ety sz : Nat} {rows : List (List C)} {uss : List (List Value)} {E : Nat -> Prop} {a : Option Addr} {cap : Nat} (hb : BufRel w T ety sz (uss.map litRow) (.slice a uss.length cap)) (hv : OwnVs w rows E uss) (hd : ∀ b, vblk (.slice a uss.length cap) = some b -> ¬ E b) :
    Own w (.sl rows) (fun b => vblk (.slice a uss.length cap) = some b ∨ E b) (.slice a uss.length cap) := by
  have hlen := hv.len
  obtain ⟨h1, h2, h3⟩ := hb
  simp only [Own]
  rcases h3 with ⟨h4, a', h5⟩ | ⟨g, cap', cur, h5, hc, hg, hs, hh, hl, hm, hcs, hr⟩
  · injection h5 with e1 e2 e3
    subst e1 e3
    have hu0 : uss = [] := by simpa using h4
    exact ⟨a, uss.length, 0, rfl, hlen.symm, by rw [hu0]; exact Nat.le_refl _, by decide, fun h => absurd h (by decide)⟩
  · injection h5 with e1 e2 e3
    subst e1 e3
    have hvb : vblk (.slice (some ⟨g, 0, none⟩) uss.length cap) = some g := by simp only [vblk]; rw [if_neg (by omega)]
    simp only [List.length_map] at hl
    refine ⟨_, uss.length, cap, rfl, hlen.symm, hl, hm, fun h0 => ⟨g, 0, E, rfl, .inl hvb, hg, ⟨fun o => frozen_of_row w g o cur ety hh, rfl, cur, ety, sz, hh, hcs, h1, fun r hr0 => ?_⟩, fun x hx => ⟨.inr hx, fun e => hd g hvb (e ▸ hx)⟩, OwnRows.close hr hv⟩⟩
    obtain ⟨i, hi⟩ := List.getElem?_of_mem hr0
    have hil := (List.getElem?_eq_some_iff.1 hi).1
    obtain ⟨us, hu⟩ : ∃ us, uss[i]? = some us := ⟨_, List.getElem?_eq_getElem (by omega)⟩
    have hq := (h2 (litRow us) (List.mem_map.2 ⟨us, List.mem_of_getElem? hu, rfl⟩)).1
    have hq2 := OwnVals.len (hv.get hi hu)
    simp only [litRow, List.length_map] at hq
    omega
theorem OwnRow.open {b : Nat} : ∀ {cs : List C} {S : Nat -> Prop} {off : Nat}, OwnRow w b cs S off -> ∃ us, OwnVals w cs S us ∧ ∀ j u, us[j]? = some u -> w.cell? ⟨b, off + j, none⟩ = some u
  | [], S, off, _ => ⟨[], OwnVals.nil, fun j u h => by simp at h⟩
  | c :: cs, S, off, h => by
    simp only [OwnRow] at h
    obtain ⟨S1, S2, u, h1, h2, hd, hu, hc, hcs⟩ := h
    obtain ⟨us, k1, k2⟩ := OwnRow.open hcs
    refine ⟨u :: us, OwnVals.cons S1 S2 hc k1 h1 h2 hd, fun j v hj => ?_⟩
    cases j with
    | zero => simp at hj; subst hj; exact hu
    | succ j => have := k2 j v (by simpa using hj); rw [<- this]; congr 2; omega
theorem OwnRows.open {b : Nat} : ∀ {rows : List (List C)} {S : Nat -> Prop} {off : Nat}, OwnRows w b rows S off -> ∃ uss, OwnVs w rows S uss ∧ ∀ T : Nat -> Prop, RepRows w T b off (uss.map litRow)
  | [], S, off, _ => ⟨[], trivial, fun T => by simp [RepRows]⟩
  | r :: rs, S, off, h => by
    simp only [OwnRows] at h
    obtain ⟨S1, S2, h1, h2, hd, hr, hrs⟩ := h
    obtain ⟨us, k1, k2⟩ := OwnRow.open hr
    obtain ⟨uss, k3, k4⟩ := OwnRows.open hrs
    refine ⟨us :: uss, ⟨S1, S2, h1, h2, hd, k1, k3⟩, fun T => ?_⟩
    simp only [List.map_cons, RepRows]
    refine ⟨RepRow.of_vals _ us off (RepVals_lits us) k2, ?_⟩
    rw [show (litRow us).length = r.length by simp [litRow, k1.len]]
    exact k4 T
theorem OwnVals.cells : ∀ {cs : List C} {S : Nat -> Prop} {us : List Value}, OwnVals w cs S us -> cs.all okCell = true -> (litRow us).all okCell = true
  | [], _, [], _, _ => rfl
  | c :: cs, S, u :: us, h, hc => by
    simp only [OwnVals] at h
    obtain ⟨S1, S2, _, _, _, h1, h2⟩ := h
    simp only [List.all_cons, Bool.and_eq_true] at hc
    simp only [litRow, List.map_cons, List.all_cons, Bool.and_eq_true]
    exact ⟨okCell_one (c := c) hc.1 (Own.rep c S1 u h1), OwnVals.cells h2 hc.2⟩
  | [], _, _ :: _, h, _ => by simp [OwnVals] at h
  | _ :: _, _, [], h, _ => by simp [OwnVals] at h
theorem Own.open {T : Nat -> Prop} {rows : List (List C)} {E : Nat -> Prop} {a : Option Addr} {n cap sz : Nat} (hT : ∀ b, E b -> ¬ T b) (hne : rows ≠ []) (hrl : rowsLen sz rows) (h : Own w (.sl rows) E (.slice a n cap)) :
    ∃ uss ety E', n = uss.length ∧ BufRel w T ety sz (uss.map litRow) (.slice a uss.length cap) ∧ OwnVs w rows E' uss ∧ (∀ b, E' b -> E b ∧ vblk (.slice a uss.length cap) ≠ some b) ∧ ∀ b, vblk (.slice a uss.length cap) = some b -> E b := by
  simp only [Own] at h
  obtain ⟨A, n', cap', hv, hn, hle, hmx, hb⟩ := h
  injection hv with e1 e2 e3
  subst e1 e2 e3
  have h0 : 0 < rows.length := List.length_pos_iff.2 hne
  obtain ⟨b, off, S', rfl, hEb, hbl, ⟨hfr, rfl, cur, ety, sz', hh, hcs, hz, hrs⟩, hS', hrows⟩ := hb (by omega)
  obtain ⟨uss, k1, k2⟩ := OwnRows.open hrows
  have hl := k1.len
  have hsz : sz' = sz := by
    obtain ⟨r, hr⟩ := List.exists_mem_of_ne_nil _ hne
    rw [<- hrs r hr, (hrl r hr).1]
  subst hsz
  have hvb : vblk (.slice (some ⟨b, 0, none⟩) uss.length cap) = some b := by simp only [vblk]; rw [if_neg (by omega)]
  have hrow : rowsLen sz' (uss.map litRow) := fun x hx => by
    obtain ⟨us, hus, rfl⟩ := List.mem_map.1 hx
    obtain ⟨i, hi⟩ := List.getElem?_of_mem hus
    have hil := (List.getElem?_eq_some_iff.1 hi).1
    obtain ⟨r, hr⟩ : ∃ r, rows[i]? = some r := ⟨_, List.getElem?_eq_getElem (by omega)⟩
    have hov := k1.get hr hi
    have hrm := hrl r (List.mem_of_getElem? hr)
    exact ⟨by simp only [litRow, List.length_map]; rw [hov.len]; exact hrm.1, hov.cells hrm.2⟩
  refine ⟨uss, ety, S', by omega, ⟨hz, hrow, .inr ⟨b, cap, cur, by simp, by omega, hbl, hT b hEb, hh, by simp only [List.length_map]; omega, hmx, hcs, k2 T⟩⟩, k1, fun x hx => ⟨(hS' x hx).1, fun e => ?_⟩, fun x hx => ?_⟩
  · rw [hvb] at e; injection e with e; exact (hS' x hx).2 e.symm
  · rw [hvb] at hx; injection hx with hx; rw [<- hx]; exact hEb
end
theorem apart_1 (x : Bk) : Apart [x] := ⟨by simp, trivial⟩
theorem re_none : Retold [] [.set (fun _ => False) (fun w => OwnVs w [] (fun _ => False) [])] := fun w S _ _ =>
  ⟨fun x hx => by simp at hx; subst hx; exact ⟨fun b h => h.elim, trivial, OwnVs.stable _ _ _⟩, apart_1 _, fun g ⟨x, hx, hg⟩ => by simp at hx; subst hx; exact hg.elim⟩
theorem re_close {a : Option Addr} {cap ety sz : Nat} {uss : List (List Value)} {rows : List (List C)} {E : Nat -> Prop} {G' : World -> Prop} (hG : ∀ w, Own w (.sl rows) (fun b => vblk (.slice a uss.length cap) = some b ∨ E b) (.slice a uss.length cap) -> G' w) (hst : StableOn (fun b => vblk (.slice a uss.length cap) = some b ∨ E b) G') :
    Retold [.buf (some (a, cap)) ety sz (uss.map litRow), .set E (fun w => OwnVs w rows E uss)] [.set (fun b => vblk (.slice a uss.length cap) = some b ∨ E b) G'] := fun w S h ha => by
  have h1 : BufRel w S ety sz (uss.map litRow) (.slice a (uss.map litRow).length cap) := h (.buf (some (a, cap)) ety sz (uss.map litRow)) (by simp)
  have h2 := h (.set E (fun w => OwnVs w rows E uss)) (by simp)
  have hd := ha.1 (.set E (fun w => OwnVs w rows E uss)) (by simp)
  rw [List.length_map] at h1
  simp only [pblk, List.length_map] at hd
  refine ⟨fun x hx => ?_, apart_1 _, fun g ⟨x, hx, hg⟩ => ?_⟩
  · simp at hx; subst hx
    refine ⟨fun b hb => ?_, hG w (Own.close h1 h2.2.1 hd), hst⟩
    rcases hb with hb | hb
    · exact Own1.lt (L := ⟨fun _ => 0, fun _ => .slice a uss.length cap⟩) (k := 0) (bk := .buf none ety sz (uss.map litRow)) ⟨by simp, h1⟩ hb
    · exact h2.1 b hb
  · simp at hx; subst hx
    rcases hg with hg | hg
    · exact ⟨.buf (some (a, cap)) ety sz (uss.map litRow), by simp, by simp only [pblk, List.length_map]; exact hg⟩
    · exact ⟨.set E (fun w => OwnVs w rows E uss), by simp, hg⟩
def RTree (row : List C) (r : List D) (pm : List Bk) : Prop := ∃ us E, r = [.agg (litRow us)] ∧ us.length = row.length ∧ (litRow us).all okCell = true ∧ pm = [.set E (fun w => OwnVals w row E us)]
def RTrees (ety sz : Nat) (rows : List (List C)) (r : List D) (pm : List Bk) : Prop := ∃ a cap uss E, r = [.one (.lit (.slice a uss.length cap))] ∧ uss.length = rows.length ∧ pm = [.buf (some (a, cap)) ety sz (uss.map litRow), .set E (fun w => OwnVs w rows E uss)]
theorem RTree.mk {row : List C} {us : List Value} {E : Nat -> Prop} (h : us.length = row.length) (hok : (litRow us).all okCell = true) : RTree row [.agg (litRow us)] [.set E (fun w => OwnVals w row E us)] := ⟨us, E, rfl, h, hok, rfl⟩
theorem RTrees.mk {ety sz : Nat} {rows : List (List C)} {a : Option Addr} {cap : Nat} {uss : List (List Value)} {E : Nat -> Prop} (h : uss.length = rows.length) : RTrees ety sz rows [.one (.lit (.slice a uss.length cap))] [.buf (some (a, cap)) ety sz (uss.map litRow), .set E (fun w => OwnVs w rows E uss)] := ⟨a, cap, uss, E, rfl, h, rfl⟩
end Go.Proofs.YtkekkmpogmlopaaGreat
namespace Go.Proofs.YtkekkmpogmlopaaGreat
open Go.RowKit
theorem flat_take {n : Nat} : ∀ {rows : List (List C)} (l : Nat), rowsLen n rows -> (rows.take l).flatten = rows.flatten.take (l * n)
  | [], l, _ => by simp
  | r :: rs, 0, _ => by simp
  | r :: rs, l + 1, h => by
    have h1 := (h r List.mem_cons_self).1
    have h2 := flat_take (n := n) l (fun x hx => h x (List.mem_cons_of_mem _ hx) : rowsLen n rs)
    simp only [List.take_succ_cons, List.flatten_cons, h2]
    rw [show (l + 1) * n = r.length + l * n by rw [h1, Nat.succ_mul, Nat.add_comm], List.take_length_add_append]
theorem flat_drop {n : Nat} : ∀ {rows : List (List C)} (l : Nat), rowsLen n rows -> (rows.drop l).flatten = rows.flatten.drop (l * n)
  | [], l, _ => by simp
  | r :: rs, 0, _ => by simp
  | r :: rs, l + 1, h => by
    have h1 := (h r List.mem_cons_self).1
    have h2 := flat_drop (n := n) l (fun x hx => h x (List.mem_cons_of_mem _ hx) : rowsLen n rs)
    simp only [List.drop_succ_cons, List.flatten_cons, h2]
    rw [show (l + 1) * n = r.length + l * n by rw [h1, Nat.succ_mul, Nat.add_comm], List.drop_length_add_append]
section
variable {e : Env} {U : Nat -> Prop} {w0 : World} {S0 : Nat -> Prop} {nt : Nat} {σ : St} {a : Act} {w : World} {S : Nat -> Prop} {L : Lay}
theorem Sim.storeRows (h : Sim e U w0 S0 nt σ a w S L) (he : e.Ok) {o : Option (Option Addr × Nat)} {k l g ety sz : Nat} {rows news : List (List C)} {vs : List Value} (hm : gm σ.m k = some (.buf o ety sz rows)) (hg : vblk (L.v k) = some g) (hl : l + news.length <= rows.length) (hn : rowsLen sz news) (hu : RepVals w S news.flatten vs) :
    ∃ w', (storeCells ⟨g, l * sz, none⟩ vs).run e.P w = .ok () w' ∧ SimE e U w0 S0 nt ⟨σ.s, (k, .buf o ety sz (rows.take l ++ news ++ rows.drop (l + news.length))) :: remM k σ.m⟩ a w' := by
  obtain ⟨hb0, hs0, hrl, h3⟩ := h.cls.own k _ hm
  have hvl := hu.len
  have h1 := flat_ok hn
  rw [flat_len hn] at hvl
  rcases h3 with ⟨h3, p, h4⟩ | ⟨g', cap, cur, hv, hcp, hg1, hg2, hheap0, hlen, hcap, hcs, hrows⟩
  · rw [h4] at hg; cases p <;> simp [vblk] at hg
  · have hgg : g' = g := by rw [hv] at hg; simp only [vblk] at hg; rw [if_neg (by omega)] at hg; injection hg
    subst hgg
    have hfl := flat_len hrl
    have hin : l * sz + vs.length <= rows.length * sz := by
      have := Nat.mul_le_mul_right sz hl
      rw [Nat.add_mul] at this
      omega
    have hin2 : rows.length * sz <= cap * sz := Nat.mul_le_mul_right sz hlen
    have hst := run_storeCells_at e.P g' (l * sz) ety vs 0 cur w hheap0 (by rw [hcs]; omega) (okCell_all h1 hu)
    simp only [Nat.add_zero] at hst
    have hput := put_setRow w g' (l * sz) ety vs cur hheap0 (by rw [hcs]; omega)
    refine ⟨_, hst, ?_⟩
    have hheap := setRow_heap w g' cur (cur.toList.take (l * sz) ++ vs ++ cur.toList.drop (l * sz + vs.length)).toArray ety _ hheap0
    have hdr : (w.setRow g' (cur.toList.take (l * sz) ++ vs ++ cur.toList.drop (l * sz + vs.length)).toArray).drawn = w.drawn := setRow_drawn _ _ _
    generalize hW : w.setRow g' (cur.toList.take (l * sz) ++ vs ++ cur.toList.drop (l * sz + vs.length)).toArray = W at hput hheap hdr ⊢
    have hsz : W.heap.size = w.heap.size := hput.size
    have hkc : ∀ b o, S b -> W.cell? ⟨b, o, none⟩ = w.cell? ⟨b, o, none⟩ := fun b o hs => cell_of_heap (hput.other b (fun e => hg2 (e ▸ hs))) o
    have hbk : blkOf L k (.buf o ety sz rows) g' := hg
    have hln : (rows.take l ++ news ++ rows.drop (l + news.length)).length = rows.length := by simp; omega
    have hown : Own1 W S L k (.buf o ety sz (rows.take l ++ news ++ rows.drop (l + news.length))) := by
      simp only [Own1]
      refine ⟨fun a ha => by rw [hb0 a ha, hln], hs0, fun x hx => ?_, .inr ⟨g', cap, _, by rw [hv, hln], hcp, by omega, hg2, hheap, by rw [hln]; exact hlen, hcap, by simp; omega, ?_⟩⟩
      · rcases List.mem_append.1 hx with hx | hx
        · rcases List.mem_append.1 hx with hx | hx
          · exact hrl x (List.mem_of_mem_take hx)
          · exact hn x hx
        · exact hrl x (List.mem_of_mem_drop hx)
      · apply RepRows.of_flat
        rw [List.flatten_append, List.flatten_append, flat_take l hrl, flat_drop _ hrl]
        have hz : w.heap.size <= W.heap.size := by omega
        have hf := hrows.flat
        have r1 := RepRow.keepAt (S' := S) hz hkc (fun _ h => h) g' 0 (rows.flatten.take (l * sz)) (fun i hi => hput.old _ (.inl (by simp at hi; omega))) (hf.take (l * sz))
        have r3 : RepRow W S g' (l * sz) news.flatten := RepRow.of_vals _ vs _ (RepVals.keep2 hz hkc (fun _ h => h) hu) hput.new
        have r5 := RepRow.keepAt (S' := S) hz hkc (fun _ h => h) g' _ (rows.flatten.drop ((l + news.length) * sz)) (fun i hi => hput.old _ (.inr (by rw [hvl]; rw [Nat.add_mul]; omega))) (hf.drop ((l + news.length) * sz))
        have l1 : (rows.flatten.take (l * sz)).length = l * sz := by rw [List.length_take, hfl]; omega
        refine RepRow.append _ _ 0 (RepRow.append _ _ 0 r1 ?_) ?_
        · rw [l1, Nat.zero_add]; exact r3
        · rw [List.length_append, l1, flat_len hn, <- Nat.add_mul]
          exact r5
    obtain ⟨t1, t2, t3⟩ := h.touch he (d := k) (bk := .buf o ety sz (rows.take l ++ news ++ rows.drop (l + news.length))) (m' := (k, .buf o ety sz (rows.take l ++ news ++ rows.drop (l + news.length))) :: remM k σ.m) (w' := W) (L' := L) (τ := some g') (fun _ h => h) (fun _ h => .inl h)
      (fun k' x hkd hx => by simp only [gm, hkd, if_false, gm_remM] at hx; exact hx) (by simp [gm]) (fun _ _ => ⟨rfl, rfl⟩)
      (fun q hq => by injection hq with hq; subst hq; exact ⟨hg2, h.cls.notE hm hbk, h.cls.mine k _ _ hm hbk⟩)
      (fun k' x q hkd hx hq hb => by
        injection hq with hq; subst hq
        simp only [gm, hkd, if_false, gm_remM] at hx
        exact hkd (h.cls.inj k' k x _ _ hx hm hb hbk))
      ⟨hput.os, hput.tape, hput.output, fun _ => Nat.le_of_eq hdr.symm, by omega, fun b hb hE => hput.other b (fun eq => hE (by rw [eq]))⟩ hown (fun q hq => .inl (by rw [<- hq]; exact hg.symm))
    exact ⟨S, L, t1, fun t => t3 _ _ (fun _ => ⟨rfl, rfl⟩) (h.rel t), h.size, h.defers, t2⟩
end
section
variable {e : Env} {σ : St} {o : Oper} {K : St -> Prop}
theorem step_sub {t : TypeId} {x : Operand} {lo hi : Option Operand} (ho : o.op = .slice t x lo hi none) {k cap ety sz : Nat} {a : Option Addr} {rows : List (List C)} {l h : Int} (hx : nrm σ.m (evA σ.s x) = .buf k) (hm : gm σ.m k = some (.buf (some (a, cap)) ety sz rows)) (ht : elemT e.P t = some sz)
    (hlo : loA (lo.map (evA σ.s)) = some l) (hhi : hiA rows.length (hi.map (evA σ.s)) = some h) (hb : 0 <= l ∧ l <= h ∧ h <= rows.length) (hK : K ⟨setA σ.s o.dst (.d (.one (.lit (sliced a l.toNat h.toNat cap sz)))), σ.m⟩) : StepOk e o σ K := by
  intro he U w0 S0 nt ac w Q hd ⟨S, L, h1⟩
  refine Oper.wp_mono (fun a' w' hs => ⟨_, hK, hs⟩) (gives_then h1 hd (givesA_pure fun w S L ρv hC hr => ?_))
  have hx' := nrm_rel hC (hr x (by simp [ho, Op.operands]))
  rw [hx] at hx'
  have hx' : ρv x = L.v k := hx'
  obtain ⟨hpl, _, _, hbuf⟩ := hC.own k _ hm
  have hv : L.v k = .slice a rows.length cap := hpl (a, cap) rfl
  have hcap : rows.length <= cap := by
    rcases hbuf with ⟨h4, _⟩ | ⟨g, cap', cur, h4, _, _, _, _, h5, _⟩
    · rw [h4]; exact Nat.zero_le _
    · rw [hv] at h4; injection h4 with _ _ h4; rw [h4]; exact h5
  have hel : ∃ ety i, e.P.underlying t = some (.slice ety) ∧ e.P.info? ety = some i ∧ i.size = sz := by
    unfold elemT at ht
    split at ht
    · rename_i ety hu
      simp only [Option.map_eq_some_iff] at ht
      obtain ⟨i, hi, hs⟩ := ht
      exact ⟨ety, i, hu, hi, hs⟩
    · cases ht
  obtain ⟨el, i, hu, hi', hsz⟩ := hel
  have hlo := loA_spec (w := w) (S := S) (L := L) (ρv := ρv) hlo (fun y hy => hr y (by simp [ho, Op.operands, hy]))
  have hhi := hiA_spec (w := w) (S := S) (L := L) (ρv := ρv) hhi (fun y hy => hr y (by simp [ho, Op.operands, hy]))
  refine ⟨sliced a l.toNat h.toNat cap sz, ?_, by simp [ARel, DRel, Rep]⟩
  have hbnd : (Instr.sliceBounds true rows.length cap (lo.map ρv) (hi.map ρv) none).run e.P w = .ok (l.toNat, h.toNat, cap) w := by
    have eh : (h.toNat : Int) = h := Int.toNat_of_nonneg (by omega)
    have b1 : 0 <= h := by omega
    have b2 : h <= (cap : Int) := by omega
    have b3 : 0 <= l := hb.1
    have b4 : l <= h := hb.2.1
    rcases hlo with ⟨rfl, rfl⟩ | e1 <;> rcases hhi with ⟨rfl, e2⟩ | e2
    · simp [Instr.sliceBounds, e2, Result.andThen]
    · simp [Instr.sliceBounds, e2, Result.andThen, run_sliceBound, b1, b2]
    · have b5 : l <= (rows.length : Int) := by omega
      simp [Instr.sliceBounds, e1, e2, Result.andThen, run_sliceBound, b3, b5]
    · simp [Instr.sliceBounds, e1, e2, Result.andThen, run_sliceBound, b1, b2, b3, b4, eh]
  simp only [execOp, ho, Sem.run_bind, hx', hv, Instr.sliceAt, Instr.slice, underlying, run_program, Result.andThen_ok, hu, Sem.run_pure, Option.map_none, hbnd, sizeOf, typeInfo, hi', hsz, sliced]
theorem gives_subAddr {U : Nat -> Prop} {base : Nat} {S0 : Nat -> Prop} {t : TypeId} {x i : Operand} (ho : o.op = .indexAddr t x i) {k cap ety sz l h : Nat} {a : Option Addr} {rows : List (List C)} {j : Int} (hx : evA σ.s x = .d (.one (.lit (sliced a l h cap sz)))) (hi : evA σ.s i = .d (.one (.lit (.int .i64 j)))) (hm : gm σ.m k = some (.buf (some (a, cap)) ety sz rows)) (ht : elemT e.P t = some sz)
    (hb : 0 <= j ∧ l + j < h ∧ h <= rows.length) : GivesA e U base S0 σ.m o (evA σ.s) (.row k (l + j.toNat) sz 0) := by
  refine givesA_pure fun w S L ρv hC hr => ?_
  have hx' := hr x (by simp [ho, Op.operands])
  have hi' := hr i (by simp [ho, Op.operands])
  rw [hx] at hx'
  rw [hi] at hi'
  have hx' := lit_val hx'
  have hi' := lit_val hi'
  obtain ⟨hpl, _, _, hbuf⟩ := hC.own k _ hm
  have hv : L.v k = .slice a rows.length cap := hpl (a, cap) rfl
  rcases hbuf with ⟨h4, _⟩ | ⟨g, cap', cur, h4, h6, _, _, _, h5, _⟩
  · rw [h4] at hb; simp at hb; omega
  · rw [hv] at h4
    injection h4 with h7 _ h8
    subst h7 h8
    have hlc : ¬ cap = l := by omega
    have hval : sliced (some ⟨g, 0, none⟩) l h cap sz = .slice (some ⟨g, l * sz, none⟩) (h - l) (cap - l) := by
      simp only [sliced, hlc, if_false, Option.map_some, Addr.add_at, Nat.zero_add]
    refine ⟨.pointer (some ⟨g, (l + j.toNat) * sz + 0, none⟩), ?_, g, ?_, rfl⟩
    · unfold elemT at ht
      split at ht
      · rename_i el hu
        simp only [Option.map_eq_some_iff] at ht
        obtain ⟨ii, hii, hn⟩ := ht
        have hlt : j < ((h - l : Nat) : Int) := by omega
        have hj := hb.1
        have e2 : l * sz + j.toNat * sz = (l + j.toNat) * sz + 0 := by rw [Nat.add_mul]; rfl
        simp [execOp, ho, hi', hx', hval, Instr.indexAt, asIntOf, underlying, hu, sizeOf, typeInfo, hii, hn, Addr.add_at, hj, hlt, Result.andThen, e2]
      · cases ht
    · rw [hv]; simp only [vblk]; rw [if_neg (by omega)]
theorem step_subAddr {t : TypeId} {x i : Operand} (ho : o.op = .indexAddr t x i) {k cap ety sz l h : Nat} {a : Option Addr} {rows : List (List C)} {j : Int} (hx : evA σ.s x = .d (.one (.lit (sliced a l h cap sz)))) (hi : evA σ.s i = .d (.one (.lit (.int .i64 j)))) (hm : gm σ.m k = some (.buf (some (a, cap)) ety sz rows)) (ht : elemT e.P t = some sz)
    (hb : 0 <= j ∧ l + j < h ∧ h <= rows.length) (hK : K ⟨setA σ.s o.dst (.row k (l + j.toNat) sz 0), σ.m⟩) : StepOk e o σ K := by
  intro he U w0 S0 nt ac w Q hd ⟨S, L, h1⟩
  exact Oper.wp_mono (fun a' w' hs => ⟨_, hK, hs⟩) (gives_then h1 hd (gives_subAddr ho hx hi hm ht hb))
theorem quiet_subAddr {t : TypeId} {x i : Operand} (ho : o.op = .indexAddr t x i) {k cap ety sz l h : Nat} {a : Option Addr} {rows : List (List C)} {j : Int} (hx : evA σ.s x = .d (.one (.lit (sliced a l h cap sz)))) (hi : evA σ.s i = .d (.one (.lit (.int .i64 j)))) (hm : gm σ.m k = some (.buf (some (a, cap)) ety sz rows)) (ht : elemT e.P t = some sz)
    (hb : 0 <= j ∧ l + j < h ∧ h <= rows.length) (hK : K ⟨setA σ.s o.dst (.row k (l + j.toNat) sz 0), σ.m⟩) : QuietOk e o σ K := fun he => ⟨_, hK, fun U base S0 => gives_subAddr ho hx hi hm ht hb⟩
theorem step_clear {x : Operand} {t : TypeId} (ho : o.op = .call ⟨.builtin .clear, #[x], #[t]⟩) {k cap ety sz by' l : Nat} {a : Option Addr} {rows : List (List C)} {z : List C} (hx : evA σ.s x = .d (.one (.lit (sliced a l rows.length cap sz)))) (hm : gm σ.m k = some (.buf (some (a, cap)) ety sz rows)) (ht : bytesT e.P t = some (ety, sz, by')) (hz : zeroT e.P ety = some z) (hzok : z.all okCell = true) (hl : l < rows.length)
    (hK : K ⟨setA σ.s o.dst (.tup []), (k, .buf (some (a, cap)) ety sz (rows.take l ++ List.replicate (rows.length - l) z)) :: remM k σ.m⟩) : StepOk e o σ K := by
  intro he U w0 S0 nt ac w Q hd ⟨S, L, h1⟩
  have hx' := h1.eval x
  rw [hx] at hx'
  have hx' := lit_val hx'
  obtain ⟨hpl, hs0, _, hbuf⟩ := h1.cls.own k _ hm
  have hv : L.v k = .slice a rows.length cap := hpl (a, cap) rfl
  obtain ⟨i, zv, hu, hi, hzz, hsz, hby, hzs, hs0, hb4⟩ := bytesT_spec ht
  have hzc : z = zv.cells.toList.map toC := by
    unfold zeroT at hz
    simp only [hi, Option.bind_some, hzz, Option.map_some, Option.some.injEq] at hz
    exact hz.symm
  rcases hbuf with ⟨h4, _⟩ | ⟨g, cap', cur, h4, h6, _, _, _, h5, _⟩
  · rw [h4] at hl; simp at hl
  · rw [hv] at h4
    injection h4 with h7 _ h8
    subst h7 h8
    have hlc : ¬ cap = l := by omega
    have hval : sliced (some ⟨g, 0, none⟩) l rows.length cap sz = .slice (some ⟨g, l * sz, none⟩) (rows.length - l) (cap - l) := by
      simp only [sliced, hlc, if_false, Option.map_some, Addr.add_at, Nat.zero_add]
    have hn : rowsLen sz (List.replicate (rows.length - l) z) := fun r hr => by
      rw [List.eq_of_mem_replicate hr]
      exact ⟨by rw [hzc]; simp [hzs], hzok⟩
    have hu' : RepVals w S (List.replicate (rows.length - l) z).flatten ((List.replicate (rows.length - l) zv).flatMap fun v => v.cells.toList) := by rw [hzc]; exact rep_zeros _
    obtain ⟨w', hst, hsim⟩ := h1.storeRows he (l := l) (g := g) hm (by rw [hv]; simp only [vblk]; rw [if_neg (by omega)]) (by simp; omega) hn hu'
    rw [List.length_replicate, show l + (rows.length - l) = rows.length by omega, List.drop_length, List.append_nil] at hsim
    obtain ⟨S', L', hsim⟩ := hsim
    have hzc2 : (Builtin.zeroCells zv.cells (rows.length - l)).toList = (List.replicate (rows.length - l) zv).flatMap fun v => v.cells.toList := by
      have := made_cells zv sz hs0 hzs (rows.length - l)
      rw [<- this]
      simp [Builtin.zeroCells, madeCells, hzs]
    have hrun : (execOp ac.eval o).run e.P w = .ok (.value (.tuple #[])) w' := by
      have hne : ¬ (rows.length - l = 0) := by omega
      obtain ⟨q, hq⟩ : ∃ q, rows.length - l = q + 1 := ⟨rows.length - l - 1, by omega⟩
      rw [hq] at hst hzc2
      simp [execOp, ho, resolve, invoke, builtin, Builtin.clear_, hx', hval, hq, underlying, hu, zeroValue, hi, hzz, typeInfo, Result.andThen, hzc2, hst]
    unfold Oper.wp
    rw [hrun, Oper.upon_value]
    refine ⟨_, hK, S', L', hsim.put (α := .tup []) (v := .tuple #[]) ⟨[], rfl, trivial⟩ hd⟩
end
theorem re_cut {a : Option Addr} {cap ety sz : Nat} {rows : List (List C)} (m : Nat) (hm : m <= rows.length) : Retold [.buf (some (a, cap)) ety sz rows] [.buf (some (a, cap)) ety sz (rows.take m)] := fun w S h ha => by
  have hl : (rows.take m).length = m := by rw [List.length_take]; omega
  obtain ⟨h0, hrl, hc⟩ : BufRel w S ety sz rows (.slice a rows.length cap) := h (.buf (some (a, cap)) ety sz rows) (by simp)
  have hb : ∀ b, vblk (.slice a m cap) = some b ↔ vblk (.slice a rows.length cap) = some b := fun b => by cases a <;> simp [vblk]
  refine ⟨fun x hx => ?_, apart_1 _, fun g ⟨x, hx, hg⟩ => ?_⟩
  · simp only [List.mem_cons, List.not_mem_nil, or_false] at hx
    subst hx
    show BufRel w S ety sz (rows.take m) (.slice a (rows.take m).length cap)
    rw [hl]
    refine ⟨h0, fun r hr => hrl r (List.mem_of_mem_take hr), ?_⟩
    rcases hc with ⟨h4, p, h5⟩ | ⟨g, cap', cur, h4, h5, h6, h7, h8, h9, h10, h11, h12⟩
    · subst h4
      simp only [List.length_nil, Nat.le_zero_eq] at hm
      subst hm
      exact .inl ⟨by simp, p, by simpa using h5⟩
    · injection h4 with e1 e2 e3
      subst e1 e3
      refine .inr ⟨g, cap, cur, by rw [hl], h5, h6, h7, h8, by rw [hl]; omega, h10, h11, ?_⟩
      have := RepRows.sub hrl h12 0 m
      simpa using this
  · simp only [List.mem_cons, List.not_mem_nil, or_false] at hx
    subst hx
    refine ⟨.buf (some (a, cap)) ety sz rows, by simp, ?_⟩
    simp only [pblk, hl] at hg ⊢
    exact (hb g).1 hg
theorem gSub {e : Env} {K : St -> Prop} {ds : List (Option Nat)} {os : List Oper} {d t ty cap ety sz : Nat} {p : String} {ed : Array Edge} {x : Operand} {lo hi : Option Operand} {s : List (Nat × A)} {m : List (Nat × Bk)} {a : Option Addr} {rows : List (List C)} (k l h : Nat) (hb : l <= h ∧ h <= rows.length) (hK : Runs e ds 0 os ⟨(d, .d (.one (.lit (sliced a l h cap sz)))) :: s, m⟩ K)
    (hx : nrm m (evA s x) = .buf k := by first | (simp only [pz, ↓reduceIte, Nat.reduceEqDiff, Nat.reduceAdd, Nat.reduceSub, Nat.reduceMul, Nat.reduceLeDiff, Nat.reduceBEq, Bool.false_eq_true, decide_true, decide_false, Int.reduceLE, Int.reduceToNat, Int.reduceLT, Int.reduceEq, eq_self, Nat.reduceShiftRight, Nat.reduceAnd, Nat.reduceBneDiff, F]; done) | (simp only [pz, ↓reduceIte, Nat.reduceEqDiff, Nat.reduceAdd, Nat.reduceSub, Nat.reduceMul, Nat.reduceLeDiff, Nat.reduceBEq, Bool.false_eq_true, decide_true, decide_false, Int.reduceLE, Int.reduceToNat, Int.reduceLT, Int.reduceEq, eq_self, Nat.reduceShiftRight, Nat.reduceAnd, Nat.reduceBneDiff, F]; exact rfl)) (hm : gm m k = some (.buf (some (a, cap)) ety sz rows) := by simp only [pz, ↓reduceIte, Nat.reduceEqDiff, Nat.reduceAdd, Nat.reduceSub, Nat.reduceMul, Nat.reduceLeDiff, Nat.reduceBEq, Bool.false_eq_true, decide_true, decide_false, Int.reduceLE, Int.reduceToNat, Int.reduceLT, Int.reduceEq, eq_self, Nat.reduceShiftRight, Nat.reduceAnd, Nat.reduceBneDiff]; exact rfl) (ht : elemT e.P t = some sz := by first | (simp only [pz, ↓reduceIte, Nat.reduceEqDiff, Nat.reduceAdd, Nat.reduceSub, Nat.reduceMul, Nat.reduceLeDiff, Nat.reduceBEq, Bool.false_eq_true, decide_true, decide_false, Int.reduceLE, Int.reduceToNat, Int.reduceLT, Int.reduceEq, eq_self, Nat.reduceShiftRight, Nat.reduceAnd, Nat.reduceBneDiff]; done) | (simp only [pz, ↓reduceIte, Nat.reduceEqDiff, Nat.reduceAdd, Nat.reduceSub, Nat.reduceMul, Nat.reduceLeDiff, Nat.reduceBEq, Bool.false_eq_true, decide_true, decide_false, Int.reduceLE, Int.reduceToNat, Int.reduceLT, Int.reduceEq, eq_self, Nat.reduceShiftRight, Nat.reduceAnd, Nat.reduceBneDiff]; exact rfl))
    (hlo : loA (lo.map (evA s)) = some (l : Int) := by first | (simp only [pz, ↓reduceIte, Nat.reduceEqDiff, Nat.reduceAdd, Nat.reduceSub, Nat.reduceMul, Nat.reduceLeDiff, Nat.reduceBEq, Bool.false_eq_true, decide_true, decide_false, Int.reduceLE, Int.reduceToNat, Int.reduceLT, Int.reduceEq, eq_self, Nat.reduceShiftRight, Nat.reduceAnd, Nat.reduceBneDiff, F]; done) | (simp only [pz, ↓reduceIte, Nat.reduceEqDiff, Nat.reduceAdd, Nat.reduceSub, Nat.reduceMul, Nat.reduceLeDiff, Nat.reduceBEq, Bool.false_eq_true, decide_true, decide_false, Int.reduceLE, Int.reduceToNat, Int.reduceLT, Int.reduceEq, eq_self, Nat.reduceShiftRight, Nat.reduceAnd, Nat.reduceBneDiff, F]; exact rfl)) (hhi : hiA rows.length (hi.map (evA s)) = some (h : Int) := by first | (simp only [pz, ↓reduceIte, Nat.reduceEqDiff, Nat.reduceAdd, Nat.reduceSub, Nat.reduceMul, Nat.reduceLeDiff, Nat.reduceBEq, Bool.false_eq_true, decide_true, decide_false, Int.reduceLE, Int.reduceToNat, Int.reduceLT, Int.reduceEq, eq_self, Nat.reduceShiftRight, Nat.reduceAnd, Nat.reduceBneDiff, F]; done) | (simp only [pz, ↓reduceIte, Nat.reduceEqDiff, Nat.reduceAdd, Nat.reduceSub, Nat.reduceMul, Nat.reduceLeDiff, Nat.reduceBEq, Bool.false_eq_true, decide_true, decide_false, Int.reduceLE, Int.reduceToNat, Int.reduceLT, Int.reduceEq, eq_self, Nat.reduceShiftRight, Nat.reduceAnd, Nat.reduceBneDiff, F]; exact rfl)) : Runs e ds 0 (⟨some d, .slice t x lo hi none, ty, p, ed, none⟩ :: os) ⟨s, m⟩ K := by
  simp only [Runs] at hK ⊢
  exact runsS_step rfl (step_sub (o := ⟨some d, .slice t x lo hi none, ty, p, ed, none⟩) rfl hx hm ht hlo hhi ⟨by omega, by omega, by omega⟩ (by simpa only [Int.toNat_natCast, setA] using hK))
theorem gSubA {e : Env} {K : St -> Prop} {ds : List (Option Nat)} {os : List Oper} {d t ty cap ety sz l h : Nat} {p : String} {ed : Array Edge} {x i : Operand} {s : List (Nat × A)} {m : List (Nat × Bk)} {a : Option Addr} {rows : List (List C)} (k j : Nat) (hb : l + j < h ∧ h <= rows.length) (hK : Runs e ds 0 os ⟨(d, .row k (l + j) sz 0) :: s, m⟩ K)
    (hx : evA s x = .d (.one (.lit (sliced a l h cap sz))) := by first | (simp only [pz, ↓reduceIte, Nat.reduceEqDiff, Nat.reduceAdd, Nat.reduceSub, Nat.reduceMul, Nat.reduceLeDiff, Nat.reduceBEq, Bool.false_eq_true, decide_true, decide_false, Int.reduceLE, Int.reduceToNat, Int.reduceLT, Int.reduceEq, eq_self, Nat.reduceShiftRight, Nat.reduceAnd, Nat.reduceBneDiff]; done) | (simp only [pz, ↓reduceIte, Nat.reduceEqDiff, Nat.reduceAdd, Nat.reduceSub, Nat.reduceMul, Nat.reduceLeDiff, Nat.reduceBEq, Bool.false_eq_true, decide_true, decide_false, Int.reduceLE, Int.reduceToNat, Int.reduceLT, Int.reduceEq, eq_self, Nat.reduceShiftRight, Nat.reduceAnd, Nat.reduceBneDiff]; exact rfl)) (hi : evA s i = .d (.one (.lit (.int .i64 (j : Int)))) := by first | (simp only [pz, ↓reduceIte, Nat.reduceEqDiff, Nat.reduceAdd, Nat.reduceSub, Nat.reduceMul, Nat.reduceLeDiff, Nat.reduceBEq, Bool.false_eq_true, decide_true, decide_false, Int.reduceLE, Int.reduceToNat, Int.reduceLT, Int.reduceEq, eq_self, Nat.reduceShiftRight, Nat.reduceAnd, Nat.reduceBneDiff, F]; done) | (simp only [pz, ↓reduceIte, Nat.reduceEqDiff, Nat.reduceAdd, Nat.reduceSub, Nat.reduceMul, Nat.reduceLeDiff, Nat.reduceBEq, Bool.false_eq_true, decide_true, decide_false, Int.reduceLE, Int.reduceToNat, Int.reduceLT, Int.reduceEq, eq_self, Nat.reduceShiftRight, Nat.reduceAnd, Nat.reduceBneDiff, F]; exact rfl)) (hm : gm m k = some (.buf (some (a, cap)) ety sz rows) := by simp only [pz, ↓reduceIte, Nat.reduceEqDiff, Nat.reduceAdd, Nat.reduceSub, Nat.reduceMul, Nat.reduceLeDiff, Nat.reduceBEq, Bool.false_eq_true, decide_true, decide_false, Int.reduceLE, Int.reduceToNat, Int.reduceLT, Int.reduceEq, eq_self, Nat.reduceShiftRight, Nat.reduceAnd, Nat.reduceBneDiff]; exact rfl) (ht : elemT e.P t = some sz := by first | (simp only [pz, ↓reduceIte, Nat.reduceEqDiff, Nat.reduceAdd, Nat.reduceSub, Nat.reduceMul, Nat.reduceLeDiff, Nat.reduceBEq, Bool.false_eq_true, decide_true, decide_false, Int.reduceLE, Int.reduceToNat, Int.reduceLT, Int.reduceEq, eq_self, Nat.reduceShiftRight, Nat.reduceAnd, Nat.reduceBneDiff]; done) | (simp only [pz, ↓reduceIte, Nat.reduceEqDiff, Nat.reduceAdd, Nat.reduceSub, Nat.reduceMul, Nat.reduceLeDiff, Nat.reduceBEq, Bool.false_eq_true, decide_true, decide_false, Int.reduceLE, Int.reduceToNat, Int.reduceLT, Int.reduceEq, eq_self, Nat.reduceShiftRight, Nat.reduceAnd, Nat.reduceBneDiff]; exact rfl)) : Runs e ds 0 (⟨some d, .indexAddr t x i, ty, p, ed, none⟩ :: os) ⟨s, m⟩ K := by
  simp only [Runs] at hK ⊢
  exact runsS_step rfl (step_subAddr (o := ⟨some d, .indexAddr t x i, ty, p, ed, none⟩) rfl hx hi hm ht ⟨by omega, by omega, by omega⟩ (by simpa only [Int.toNat_natCast, setA] using hK))
theorem runs_quiet {e : Env} {ds : List (Option Nat)} {K : St -> Prop} {n : Nat} {os : List Oper} {o : Oper} {σ : St} (hg : o.guard = none) (hal : isAl o = false) (h : QuietOk e o σ (fun σ' => Runs e ds n os σ' K)) : Runs e ds (n + 1) (o :: os) σ K := by
  simp only [Runs, hg]
  rw [if_neg (by simp [hal])]
  exact h
theorem gSubAq {e : Env} {K : St -> Prop} {ds : List (Option Nat)} {os : List Oper} {n d t ty cap ety sz l h : Nat} {p : String} {ed : Array Edge} {x i : Operand} {s : List (Nat × A)} {m : List (Nat × Bk)} {a : Option Addr} {rows : List (List C)} (k j : Nat) (hb : l + j < h ∧ h <= rows.length) (hK : Runs e ds n os ⟨(d, .row k (l + j) sz 0) :: s, m⟩ K)
    (hx : evA s x = .d (.one (.lit (sliced a l h cap sz))) := by first | (simp only [pz, ↓reduceIte, Nat.reduceEqDiff, Nat.reduceAdd, Nat.reduceSub, Nat.reduceMul, Nat.reduceLeDiff, Nat.reduceBEq, Bool.false_eq_true, decide_true, decide_false, Int.reduceLE, Int.reduceToNat, Int.reduceLT, Int.reduceEq, eq_self, Nat.reduceShiftRight, Nat.reduceAnd, Nat.reduceBneDiff]; done) | (simp only [pz, ↓reduceIte, Nat.reduceEqDiff, Nat.reduceAdd, Nat.reduceSub, Nat.reduceMul, Nat.reduceLeDiff, Nat.reduceBEq, Bool.false_eq_true, decide_true, decide_false, Int.reduceLE, Int.reduceToNat, Int.reduceLT, Int.reduceEq, eq_self, Nat.reduceShiftRight, Nat.reduceAnd, Nat.reduceBneDiff]; exact rfl)) (hi : evA s i = .d (.one (.lit (.int .i64 (j : Int)))) := by first | (simp only [pz, ↓reduceIte, Nat.reduceEqDiff, Nat.reduceAdd, Nat.reduceSub, Nat.reduceMul, Nat.reduceLeDiff, Nat.reduceBEq, Bool.false_eq_true, decide_true, decide_false, Int.reduceLE, Int.reduceToNat, Int.reduceLT, Int.reduceEq, eq_self, Nat.reduceShiftRight, Nat.reduceAnd, Nat.reduceBneDiff, F]; done) | (simp only [pz, ↓reduceIte, Nat.reduceEqDiff, Nat.reduceAdd, Nat.reduceSub, Nat.reduceMul, Nat.reduceLeDiff, Nat.reduceBEq, Bool.false_eq_true, decide_true, decide_false, Int.reduceLE, Int.reduceToNat, Int.reduceLT, Int.reduceEq, eq_self, Nat.reduceShiftRight, Nat.reduceAnd, Nat.reduceBneDiff, F]; exact rfl)) (hm : gm m k = some (.buf (some (a, cap)) ety sz rows) := by simp only [pz, ↓reduceIte, Nat.reduceEqDiff, Nat.reduceAdd, Nat.reduceSub, Nat.reduceMul, Nat.reduceLeDiff, Nat.reduceBEq, Bool.false_eq_true, decide_true, decide_false, Int.reduceLE, Int.reduceToNat, Int.reduceLT, Int.reduceEq, eq_self, Nat.reduceShiftRight, Nat.reduceAnd, Nat.reduceBneDiff]; exact rfl) (ht : elemT e.P t = some sz := by first | (simp only [pz, ↓reduceIte, Nat.reduceEqDiff, Nat.reduceAdd, Nat.reduceSub, Nat.reduceMul, Nat.reduceLeDiff, Nat.reduceBEq, Bool.false_eq_true, decide_true, decide_false, Int.reduceLE, Int.reduceToNat, Int.reduceLT, Int.reduceEq, eq_self, Nat.reduceShiftRight, Nat.reduceAnd, Nat.reduceBneDiff]; done) | (simp only [pz, ↓reduceIte, Nat.reduceEqDiff, Nat.reduceAdd, Nat.reduceSub, Nat.reduceMul, Nat.reduceLeDiff, Nat.reduceBEq, Bool.false_eq_true, decide_true, decide_false, Int.reduceLE, Int.reduceToNat, Int.reduceLT, Int.reduceEq, eq_self, Nat.reduceShiftRight, Nat.reduceAnd, Nat.reduceBneDiff]; exact rfl)) : Runs e ds (n + 1) (⟨some d, .indexAddr t x i, ty, p, ed, none⟩ :: os) ⟨s, m⟩ K :=
  runs_quiet rfl rfl (quiet_subAddr (o := ⟨some d, .indexAddr t x i, ty, p, ed, none⟩) rfl hx hi hm ht ⟨by omega, by omega, by omega⟩ (by simpa only [Int.toNat_natCast, setA] using hK))
theorem gClear {e : Env} {K : St -> Prop} {ds : List (Option Nat)} {os : List Oper} {t ty cap ety sz by' l : Nat} {dd : Option Nat} {p : String} {ed : Array Edge} {x : Operand} {s s' : List (Nat × A)} {m m' : List (Nat × Bk)} {a : Option Addr} {rows : List (List C)} {z : List C} (k : Nat) (hl : l < rows.length) (hK : Runs e ds 0 os ⟨s', (k, .buf (some (a, cap)) ety sz (rows.take l ++ List.replicate (rows.length - l) z)) :: m'⟩ K)
    (hx : evA s x = .d (.one (.lit (sliced a l rows.length cap sz))) := by simp only [pz, ↓reduceIte, Nat.reduceEqDiff, Nat.reduceAdd, Nat.reduceSub, Nat.reduceMul, Nat.reduceLeDiff, Nat.reduceBEq, Bool.false_eq_true, decide_true, decide_false, Int.reduceLE, Int.reduceToNat, Int.reduceLT, Int.reduceEq, eq_self, Nat.reduceShiftRight, Nat.reduceAnd, Nat.reduceBneDiff]; exact rfl) (hm : gm m k = some (.buf (some (a, cap)) ety sz rows) := by simp only [pz, ↓reduceIte, Nat.reduceEqDiff, Nat.reduceAdd, Nat.reduceSub, Nat.reduceMul, Nat.reduceLeDiff, Nat.reduceBEq, Bool.false_eq_true, decide_true, decide_false, Int.reduceLE, Int.reduceToNat, Int.reduceLT, Int.reduceEq, eq_self, Nat.reduceShiftRight, Nat.reduceAnd, Nat.reduceBneDiff]; exact rfl) (ht : bytesT e.P t = some (ety, sz, by') := by first | (simp only [pz, ↓reduceIte, Nat.reduceEqDiff, Nat.reduceAdd, Nat.reduceSub, Nat.reduceMul, Nat.reduceLeDiff, Nat.reduceBEq, Bool.false_eq_true, decide_true, decide_false, Int.reduceLE, Int.reduceToNat, Int.reduceLT, Int.reduceEq, eq_self, Nat.reduceShiftRight, Nat.reduceAnd, Nat.reduceBneDiff]; done) | (simp only [pz, ↓reduceIte, Nat.reduceEqDiff, Nat.reduceAdd, Nat.reduceSub, Nat.reduceMul, Nat.reduceLeDiff, Nat.reduceBEq, Bool.false_eq_true, decide_true, decide_false, Int.reduceLE, Int.reduceToNat, Int.reduceLT, Int.reduceEq, eq_self, Nat.reduceShiftRight, Nat.reduceAnd, Nat.reduceBneDiff]; exact rfl)) (hz : zeroT e.P ety = some z := by first | (simp only [pz, ↓reduceIte, Nat.reduceEqDiff, Nat.reduceAdd, Nat.reduceSub, Nat.reduceMul, Nat.reduceLeDiff, Nat.reduceBEq, Bool.false_eq_true, decide_true, decide_false, Int.reduceLE, Int.reduceToNat, Int.reduceLT, Int.reduceEq, eq_self, Nat.reduceShiftRight, Nat.reduceAnd, Nat.reduceBneDiff]; done) | (simp only [pz, ↓reduceIte, Nat.reduceEqDiff, Nat.reduceAdd, Nat.reduceSub, Nat.reduceMul, Nat.reduceLeDiff, Nat.reduceBEq, Bool.false_eq_true, decide_true, decide_false, Int.reduceLE, Int.reduceToNat, Int.reduceLT, Int.reduceEq, eq_self, Nat.reduceShiftRight, Nat.reduceAnd, Nat.reduceBneDiff]; exact rfl)) (hzok : z.all okCell = true := by first | rfl | simp only [pz, ↓reduceIte, Nat.reduceEqDiff, Nat.reduceAdd, Nat.reduceSub, Nat.reduceMul, Nat.reduceLeDiff, Nat.reduceBEq, Bool.false_eq_true, decide_true, decide_false, Int.reduceLE, Int.reduceToNat, Int.reduceLT, Int.reduceEq, eq_self, Nat.reduceShiftRight, Nat.reduceAnd, Nat.reduceBneDiff])
    (hs : setA s dd (.tup []) = s' := by simp only [setA]; exact rfl) (hr : remM k m = m' := by simp only [pz, ↓reduceIte, Nat.reduceEqDiff, Nat.reduceAdd, Nat.reduceSub, Nat.reduceMul, Nat.reduceLeDiff, Nat.reduceBEq, Bool.false_eq_true, decide_true, decide_false, Int.reduceLE, Int.reduceToNat, Int.reduceLT, Int.reduceEq, eq_self, Nat.reduceShiftRight, Nat.reduceAnd, Nat.reduceBneDiff]; exact rfl) : Runs e ds 0 (⟨dd, .call ⟨.builtin .clear, #[x], #[t]⟩, ty, p, ed, none⟩ :: os) ⟨s, m⟩ K := by
  subst hs hr
  simp only [Runs] at hK ⊢
  exact runsS_step rfl (step_clear (o := ⟨dd, .call ⟨.builtin .clear, #[x], #[t]⟩, ty, p, ed, none⟩) rfl hx hm ht hz hzok hl hK)
end Go.Proofs.YtkekkmpogmlopaaGreat
namespace Go.Proofs.YtkekkmpogmlopaaGreat
open Go.RowKit
theorem okRow_Term {r : List C} (h : okRow (fieldsOf .term) r) : ∃ (i0 : Int) (t1 : ByteArray) (i2 : Int) (r3 : List (List C)), r = [.lit (.int .i64 i0), .lit (.string t1), .lit (.int .i64 i2), .sl r3] ∧ I64 i0 ∧ t1.size <= maxLen ∧ I64 i2 ∧ okRows (fieldsOf .term) r3 := by
  obtain ⟨c0, c1, c2, c3, rfl⟩ := len4 h.len
  simp only [fieldsOf, termF, occF, sortsF, sigF, moduleF, algF, List.cons_append, List.nil_append, okRow, and_true] at h
  obtain ⟨h0, h1, h2, h3⟩ := h
  obtain ⟨i0, rfl, g0⟩ := okC_int h0
  obtain ⟨t1, rfl, g1⟩ := okC_str h1
  obtain ⟨i2, rfl, g2⟩ := okC_int h2
  obtain ⟨r3, rfl, g3⟩ := okC_sl h3
  exact ⟨i0, t1, i2, r3, rfl, g0, g1, g2, g3⟩
theorem mkRow_Term {i0 : Int} {t1 : ByteArray} {i2 : Int} {r3 : List (List C)} (g0 : I64 i0) (g1 : t1.size <= maxLen) (g2 : I64 i2) (g3 : okRows (fieldsOf .term) r3) : okRow (fieldsOf .term) [.lit (.int .i64 i0), .lit (.string t1), .lit (.int .i64 i2), .sl r3] := by
  simp only [fieldsOf, termF, occF, sortsF, sigF, moduleF, algF, List.cons_append, List.nil_append, okRow, and_true]
  exact ⟨mk_int g0, mk_str g1, mk_int g2, mk_sl g3⟩
theorem repVals_Term {w : World} {S : Nat -> Prop} {i0 : Int} {t1 : ByteArray} {i2 : Int} {r3 : List (List C)} {us : List Value} (h : RepVals w S [.lit (.int .i64 i0), .lit (.string t1), .lit (.int .i64 i2), .sl r3] us) : ∃ v3, us = [.int .i64 i0, .string t1, .int .i64 i2, v3] ∧ Rep w S (.sl r3) v3 := by
  obtain ⟨u0, u1, u2, u3, rfl⟩ := len4 h.len
  simp only [RepVals, Rep.lit_iff, and_true] at h
  obtain ⟨rfl, rfl, rfl, e3⟩ := h
  exact ⟨u3, rfl, e3⟩
theorem mkVals_Term {w : World} {S : Nat -> Prop} {i0 : Int} {t1 : ByteArray} {i2 : Int} {r3 : List (List C)} {v3 : Value} (e3 : Rep w S (.sl r3) v3) : RepVals w S [.lit (.int .i64 i0), .lit (.string t1), .lit (.int .i64 i2), .sl r3] [.int .i64 i0, .string t1, .int .i64 i2, v3] := by
  simp only [RepVals, Rep.lit_iff, and_true, true_and]
  exact e3
def szTermC (row : List C) : Prop := ∀ (S : Nat -> Prop) (us : List Value) (left : Int) (w : World), okRow (fieldsOf .term) row -> RepVals w S row us -> 0 <= left -> left <= 1048576 ->
  Calls Tryz.prog 7 #[.agg us.toArray, .int .i64 left] w fun e w' => e = .returned (.int .i64 (sub left (bulkRow row))) ∧ Below w.heap.size w w'
def eqTermC (row : List C) : Prop := ∀ (S S' : Nat -> Prop) (us us' : List Value) (w : World), okRow (fieldsOf .term) row -> RepVals w S row us -> RepVals w S' row us' ->
  Calls Tryz.prog 14 #[.agg us.toArray, .agg us'.toArray] w fun e w' => e = .returned (.bool true) ∧ Below w.heap.size w w'
def toTermC (row : List C) : Prop := ∀ (S : Nat -> Prop) (us : List Value) (w : World), okRow (fieldsOf .term) row -> RepVals w S row us -> bulkRow row <= 1048576 ->
  Calls Tryz.prog 10 #[.agg us.toArray] w fun e w' => ∃ us' : List Value, e = .returned (.agg us'.toArray) ∧ OwnVals w' row (fun x => w.heap.size <= x ∧ x < w'.heap.size) us' ∧ Below w.heap.size w w'
def szTermSC (rows : List (List C)) : Prop := ∀ (S : Nat -> Prop) (v : Value) (left : Int) (w : World), okRows (fieldsOf .term) rows -> Rep w S (.sl rows) v -> 0 <= left -> left <= 1048576 ->
  Calls Tryz.prog 36 #[v, .int .i64 left] w fun e w' => e = .returned (.int .i64 (sub left (rows.length + bulkRows rows))) ∧ Below w.heap.size w w'
def eqTermSC (rows : List (List C)) : Prop := ∀ (S S' : Nat -> Prop) (v v' : Value) (w : World), okRows (fieldsOf .term) rows -> Rep w S (.sl rows) v -> Rep w S' (.sl rows) v' ->
  Calls Tryz.prog 47 #[v, v'] w fun e w' => e = .returned (.bool true) ∧ Below w.heap.size w w'
def toTermSC (rows : List (List C)) : Prop := ∀ (S : Nat -> Prop) (v : Value) (w : World), okRows (fieldsOf .term) rows -> Rep w S (.sl rows) v -> rows.length + bulkRows rows <= 1048576 ->
  Calls Tryz.prog 41 #[v] w fun e w' => ∃ v', e = .returned v' ∧ Own w' (.sl rows) (fun x => w.heap.size <= x ∧ x < w'.heap.size) v' ∧ Below w.heap.size w w'
set_option maxHeartbeats 1000000 in
theorem szTerm_of (row : List C) (h : ∀ (rows : List (List C)), nodesRows rows < nodesRow row -> szTermSC rows) : szTermC row := by
  intro S us left w hok hv h0 h1
  obtain ⟨i0, t1, i2, r3, rfl, g0, g1, g2, g3⟩ := okRow_Term hok
  obtain ⟨v3, rfl, e3⟩ := repVals_Term hv
  have HC3 := Lib.hid (h r3 (by simp [nodesRow, nodesC]; omega))
  clear h
  have HB := Lib.hid (show bulkRow [.lit (.int .i64 i0), .lit (.string t1), .lit (.int .i64 i2), .sl r3] = t1.size + (r3.length + bulkRows r3) from by simp only [bulkRow, bulkC]; omega)
  have hs1 := g1
  unfold maxLen at hs1
  have G0 := Lib.hid g0
  have G1 := Lib.hid g1
  have G2 := Lib.hid g2
  have G3 := Lib.hid g3
  clear g0 g1 g2 g3 hok
  have E3 := Lib.hid e3
  clear hv e3
  generalize hrow : bulkRow [.lit (.int .i64 i0), .lit (.string t1), .lit (.int .i64 i2), .sl r3] = total at HB ⊢
  clear hrow
  have hbw := (Below.refl w.heap.size w).alloc (Nat.le_refl _) (.cells #[.int .i64 i0, .string t1, .int .i64 i2, v3] 34)
  by_cases q1 : left - (t1.size : Int) < 0
  · go_enter Tryz.func7, Tryz.ntmps7
    go_wp2
    go_ret
    exact ⟨ret_int (a := -1) (sub_neg (by have := HB.out; omega)).symm, hbw⟩
  go_enter Tryz.func7, Tryz.ntmps7
  go_wp2_with fail
  by_cases q3 : (left - (t1.size : Int)) < ((r3.length + bulkRows r3) : Nat)
  · refine (HC3.out S _ _ _ G3.out (E3.out.below hbw) (by omega) (by omega)).mono ?_
    rw [sub_neg (by omega)]
    rintro e w1 ⟨rfl, hb1⟩
    go_wp2
    go_ret
    exact ⟨ret_int (a := -1) (sub_neg (by have := HB.out; omega)).symm, hbw.trans (hb1.mono hbw.size)⟩
  refine (HC3.out S _ _ _ G3.out (E3.out.below hbw) (by omega) (by omega)).mono ?_
  rw [sub_pos (by omega)]
  rintro e w1 ⟨rfl, hb1⟩
  obtain ⟨hc1, hf1⟩ := bcell hb1
  have hz1 : w.heap.size < w1.heap.size := (by have := hb1.size; (try simp at this); omega)
  replace hbw := hbw.trans (hb1.mono hbw.size)
  go_wp2
  go_ret
  exact ⟨ret_int (by have := HB.out; rw [sub_pos (by omega)]; omega), hbw⟩
set_option maxHeartbeats 1000000 in
theorem eqTerm_of (row : List C) (h : ∀ (rows : List (List C)), nodesRows rows < nodesRow row -> eqTermSC rows) : eqTermC row := by
  intro S S' us us' w hok hv hv'
  obtain ⟨i0, t1, i2, r3, rfl, g0, g1, g2, g3⟩ := okRow_Term hok
  obtain ⟨v3, rfl, e3⟩ := repVals_Term hv
  obtain ⟨x3, rfl, d3⟩ := repVals_Term hv'
  have HC3 := Lib.hid (h r3 (by simp [nodesRow, nodesC]; omega))
  clear h
  have G0 := Lib.hid g0
  have G1 := Lib.hid g1
  have G2 := Lib.hid g2
  have G3 := Lib.hid g3
  clear g0 g1 g2 g3 hok
  have E3 := Lib.hid e3
  have D3 := Lib.hid d3
  clear hv hv' e3 d3
  have hbw := ((Below.refl w.heap.size w).alloc (Nat.le_refl _) (.cells #[.int .i64 i0, .string t1, .int .i64 i2, v3] 51)).alloc (by simp) (.cells #[.int .i64 i0, .string t1, .int .i64 i2, x3] 51)
  go_enter Tryz.func14, Tryz.ntmps14
  go_wp2_with fail
  refine (HC3.out S S' _ _ _ G3.out (E3.out.below hbw) (D3.out.below hbw)).mono ?_
  rintro e w1 ⟨rfl, hb1⟩
  obtain ⟨hc1, hf1⟩ := bcell hb1
  have hz1 : w.heap.size + 1 < w1.heap.size := (by have := hb1.size; (try simp at this); omega)
  have ha1 : w.heap.size < w1.heap.size := by omega
  replace hbw := hbw.trans (hb1.mono hbw.size)
  go_wp2
  go_ret
  exact ⟨rfl, hbw⟩
set_option maxHeartbeats 2000000 in
theorem toTerm_of (row : List C) (h : ∀ (rows : List (List C)), nodesRows rows < nodesRow row -> toTermSC rows) : toTermC row := by
  intro S us w hok hv hlen
  obtain ⟨i0, t1, i2, r3, rfl, g0, g1, g2, g3⟩ := okRow_Term hok
  obtain ⟨v3, rfl, e3⟩ := repVals_Term hv
  have HC3 := Lib.hid (h r3 (by simp [nodesRow, nodesC]; omega))
  clear h
  have G0 := Lib.hid g0
  have G1 := Lib.hid g1
  have G2 := Lib.hid g2
  have G3 := Lib.hid g3
  clear g0 g1 g2 g3 hok
  have E3 := Lib.hid e3
  clear hv e3
  have hl3 : (r3.length + bulkRows r3) <= 1048576 := by
    have e : (r3.length + bulkRows r3) <= bulkRow [.lit (.int .i64 i0), .lit (.string t1), .lit (.int .i64 i2), .sl r3] := by simp only [bulkRow, bulkC]; omega
    exact Nat.le_trans e hlen
  clear hlen
  go_enter Tryz.func10, Tryz.ntmps10
  go_wp2_with fail
  refine (HC3.out S _ _ G3.out (by exact E3.out.below (by repeat (first | refine Below.alloc ?_ (by simp; try omega) _ | exact Below.refl _ _))) hl3).mono ?_
  rintro e w1 ⟨y3, rfl, hown3, hb1⟩
  obtain ⟨A3, n3, cap3, rfl, _, _, _⟩ := (Own.rep _ _ _ hown3).form
  have hz1 := hb1.size
  simp at hz1 hown3
  have HOWN3 := Lib.hid hown3
  clear hown3
  have hbw1 : Below w.heap.size w w1 := Below.trans (by repeat (first | refine Below.alloc ?_ (by simp; try omega) _ | exact Below.refl _ _)) (hb1.mono (by simp; try omega))
  obtain ⟨hc1, hf1⟩ := bcell hb1
  have ha1 : w.heap.size < w1.heap.size := by omega
  have hbb1 : w.heap.size + 1 < w1.heap.size := by omega
  have hcc1 : w.heap.size + 1 + 1 < w1.heap.size := by omega
  go_wp2
  refine bodyPost_ret (v := .agg #[.int .i64 i0, .string t1, .int .i64 i2, .slice A3 n3 cap3]) (by simp [results, Tryz.results10, go_sem, hc1, ha1, hbb1, hcc1]) rfl ⟨[.int .i64 i0, .string t1, .int .i64 i2, .slice A3 n3 cap3], rfl, ?_, (by repeat (first | refine Below.setCell ?_ (by simp; try omega) _ | exact hbw1))⟩
  simp
  exact (OwnVals.lit (OwnVals.lit (OwnVals.lit (OwnVals.cons (fun x => w.heap.size + 1 + 1 + 1 <= x ∧ x < w1.heap.size) (fun x => w1.heap.size <= x ∧ x < w1.heap.size) (HOWN3.out.same (by repeat (first | refine Same.trans ?_ (Same.setCell _ _ _ _ (by simp; try omega)) | exact Same.refl _ _))) OwnVals.nil (fun x hx => ⟨by omega, by omega⟩) (fun x hx => ⟨by omega, by omega⟩) (fun x hx hy => by omega)))))
set_option maxHeartbeats 1000000 in
theorem szTermS_of (rows : List (List C)) (h : ∀ (i : Nat) r, rows[i]? = some r -> szTermC r) : szTermSC rows := by
  intro S v left w hok hv h0 h1
  obtain ⟨A, m, cap, rfl, hm, hmc, hcm⟩ := hv.form
  have H := Lib.hid h
  have HV := Lib.hid hv
  have HM := Lib.hid hm
  have HOK := Lib.hid hok
  clear h hv hm hok
  unfold maxLen at hcm
  by_cases hlt : left - m < 0
  · rw [sub_neg (by have := HM.out; omega)]
    go_enter Tryz.func36, Tryz.ntmps36
    go_wp2
    go_ret
    exact ⟨rfl, Below.refl _ _⟩
  · go_enter Tryz.func36, Tryz.ntmps36
    go_wp2
    go_loopw [1, 5] (fun l i wr => ∃ k : Nat, k <= m ∧ i = .int .i64 k ∧ l = .int .i64 (left - m - (bulkRows (rows.take k) : Int)) ∧ 0 <= left - m - (bulkRows (rows.take k) : Int) ∧ Below w.heap.size w wr) (fun _ i _ => m - (intOf i).toNat)
    case atStart => exact ⟨0, Nat.zero_le _, rfl, by simp [bulkRows], by simp [bulkRows]; omega, Below.refl _ _⟩
    case round =>
      obtain ⟨k, hk, rfl, rfl, hl0, hb⟩ := hrel
      by_cases hkm : k < m
      · obtain ⟨b, off, r, rfl, hS, hbz, hget, hokr, hrow⟩ := (HV.out.below hb).get HOK.out hkm
        obtain ⟨u0, u1, u2, u3, c0, c1, c2, c3, hvals⟩ := hrow.vals4 hokr.len
        have HT := H.out k r hget
        have HVALS := Lib.hid hvals
        have HOKR := Lib.hid hokr
        have HBT := Lib.hid (bulk_take hget)
        have hle := bulk_take_le rows (k+1)
        clear hvals hokr hrow hget
        simp only [fieldsOf, termF, occF, sortsF, sigF, moduleF, algF, List.cons_append, List.nil_append, List.length_cons, List.length_nil, Nat.reduceAdd, Nat.mul_one] at c0 c1 c2 c3
        by_cases h2 : left - m - (bulkRows (rows.take k) : Int) < bulkRow r
        · go_wp2_with fail
          refine (HT S _ _ _ HOKR.out HVALS.out (by omega) (by omega)).mono ?_
          rw [sub_neg h2]
          rintro e w' ⟨rfl, hb2⟩
          go_wp2
          go_ret
          exact ⟨ret_int (a := -1) (sub_neg (by have := HBT.out; have := HM.out; omega)).symm, hb.trans (hb2.mono hb.size)⟩
        · go_wp2_with fail
          refine (HT S _ _ _ HOKR.out HVALS.out (by omega) (by omega)).mono ?_
          rw [sub_pos (by omega)]
          rintro e w' ⟨rfl, hb2⟩
          go_wp2
          go_roundw
          case rel => exact ⟨k + 1, by omega, by go_num, by have := HBT.out; congr 1; omega, by have := HBT.out; omega, hb.trans (hb2.mono hb.size)⟩
          case measure => simp [intOf]; omega
      · go_wp2
        go_ret
        have e : k = m := by omega
        subst e
        have : rows.take k = rows := List.take_of_length_le (by have := HM.out; omega)
        rw [this] at hl0 ⊢
        exact ⟨ret_int (by have := HM.out; rw [sub_pos (by omega)]; omega), hb⟩
set_option maxHeartbeats 1000000 in
theorem eqTermS_of (rows : List (List C)) (h : ∀ (i : Nat) r, rows[i]? = some r -> eqTermC r) : eqTermSC rows := by
  intro S S' v v' w hok hv hv'
  obtain ⟨A, m, cap, rfl, hm, hmc, hcm⟩ := hv.form
  obtain ⟨A', m', cap', rfl, hm', hmc', hcm'⟩ := hv'.form
  obtain rfl : m = m' := by omega
  have H := Lib.hid h
  have HV := Lib.hid hv
  have HV' := Lib.hid hv'
  have HM := Lib.hid hm
  have HOK := Lib.hid hok
  clear h hv hm hok hm' hv'
  unfold maxLen at hcm hcm'
  go_enter Tryz.func47, Tryz.ntmps47
  go_wp2
  go_loopw [5] (fun i wr => ∃ k : Nat, k <= m ∧ i = .int .i64 k ∧ Below w.heap.size w wr) (fun i _ => m - (intOf i).toNat)
  case atStart => exact ⟨0, Nat.zero_le _, rfl, Below.refl _ _⟩
  case round =>
    obtain ⟨k, hk, rfl, hb⟩ := hrel
    by_cases hkm : k < m
    · obtain ⟨b, off, r, rfl, hS, hbz, hget, hokr, hrow⟩ := (HV.out.below hb).get HOK.out hkm
      obtain ⟨b', off', r', rfl, hS', hbz', hget', hokr', hrow'⟩ := (HV'.out.below hb).get HOK.out hkm
      obtain rfl : r = r' := by rw [hget] at hget'; exact Option.some.inj hget'
      obtain ⟨u0, u1, u2, u3, c0, c1, c2, c3, hvals⟩ := hrow.vals4 hokr.len
      obtain ⟨x0, x1, x2, x3, d0, d1, d2, d3, hvals'⟩ := hrow'.vals4 hokr.len
      have HT := H.out k r hget
      have HVALS := Lib.hid hvals
      have HVALS' := Lib.hid hvals'
      have HOKR := Lib.hid hokr
      clear hvals hvals' hokr hokr' hrow hrow' hget hget'
      simp only [fieldsOf, termF, occF, sortsF, sigF, moduleF, algF, List.cons_append, List.nil_append, List.length_cons, List.length_nil, Nat.reduceAdd, Nat.mul_one] at c0 c1 c2 c3 d0 d1 d2 d3
      have k0 : (0 : Int) <= (k : Int) := by omega
      have k1 : (k : Int) < (m : Int) := by omega
      go_wp2_with fail
      go_region_held3 (fun w' => ∀ b o, b < wr.heap.size -> w'.cell? ⟨b, o, none⟩ = wr.cell? ⟨b, o, none⟩) (first | go_keep | exact fun b o h => hb2.cell (p := ⟨b, o, none⟩) h) (first | (go_at_call 14; refine (HT S S' _ _ _ HOKR.out (HVALS.out.below (Below.refl _ _).drew) (HVALS'.out.below (Below.refl _ _).drew)).mono ?_; rintro e w' ⟨rfl, hb2⟩))
      go_wp2
      go_roundw
      case rel => exact ⟨k + 1, by omega, by go_num, hb.trans ((Below.refl _ _).drew.trans (hb2.mono hb.size))⟩
      case measure => simp [intOf]; omega
    · go_wp2
      go_ret
      exact ⟨rfl, hb⟩
theorem info_Term : (Tryz.prog.info? 51).map (fun i => (i.zero, i.size, i.bytes)) = some (some (.agg #[.int .i64 0, .string .empty, .int .i64 0, .slice none 0 0]), 4, 56) := by kernel_rfl
set_option maxHeartbeats 1000000 in
theorem toTermS_of (rows : List (List C)) (h : ∀ (i : Nat) r, rows[i]? = some r -> toTermC r) : toTermSC rows := by
  intro S v w hok hv hlen
  obtain ⟨A, m, cap, rfl, hm, hmc, hcm⟩ := hv.form
  obtain ⟨i0, hi, hz0, hz1, hz2⟩ := info_parts info_Term
  have H := Lib.hid h
  have HV := Lib.hid hv
  have HM := Lib.hid hm
  have HOK := Lib.hid hok
  have hml : m <= 1048576 := by omega
  clear h hv hm hok
  unfold maxLen at hcm
  have hmk := run_make (P := Tryz.prog) w 49 51 i0 _ Tryz.underlying49 hi hz0 .i64 .i64 (m : Int) (m : Int) (by omega) (by omega) (by rw [hz2]; omega) (by omega)
  go_enter Tryz.func41, Tryz.ntmps41
  go_wp2
  clear hmk
  go_loopw [4] (fun i wr => ∃ k : Nat, k <= m ∧ i = .int .i64 k ∧ Filling w w.heap.size 51 m 4 rows k wr) (fun i _ => m - (intOf i).toNat)
  case atStart => exact ⟨0, Nat.zero_le _, rfl, Filling.start (size_madeCells _ _)⟩
  case round =>
    obtain ⟨k, hk, rfl, hfill⟩ := hrel
    have hb := hfill.1
    by_cases hkm : k < m
    · obtain ⟨b, off, r, rfl, hS, hbz, hget, hokr, hrow⟩ := (HV.out.below hb).get HOK.out hkm
      obtain ⟨u0, u1, u2, u3, c0, c1, c2, c3, hvals⟩ := hrow.vals4 hokr.len
      have HT := H.out k r hget
      have HVALS := Lib.hid hvals
      have HOKR := Lib.hid hokr
      have HGET := Lib.hid hget
      have HF := Lib.hid hfill
      have hbg := bulk_get hget
      clear hvals hokr hrow hget hfill
      simp only [fieldsOf, termF, occF, sortsF, sigF, moduleF, algF, List.cons_append, List.nil_append, List.length_cons, List.length_nil, Nat.reduceAdd, Nat.mul_one] at c0 c1 c2 c3
      go_wp2_with fail
      refine (HT S _ _ HOKR.out HVALS.out (by omega)).mono ?_
      rintro e w2 ⟨us, rfl, hown, hb2⟩
      have hone := HOKR.out.one (OwnVals.rep _ _ (fun _ => True) _ (fun _ _ => trivial) hown)
      obtain ⟨y0, y1, y2, y3, rfl⟩ := len4 (hown.len.trans HOKR.out.len)
      have HOWN := Lib.hid hown
      have HONE := Lib.hid hone
      obtain ⟨cur, hcur, hcs⟩ := HF.out.row hb2
      have HCUR := Lib.hid hcur
      have HCS := Lib.hid hcs
      clear hown hone hcur hcs
      go_wp2_with (refine wpList_store_put rfl 51 _ _ rfl w.heap.size (k * 4) rfl [y0, y1, y2, y3] rfl i0 hi hz1 51 cur HCUR.out (by have := HCS.out; simp only [List.length_cons, List.length_nil]; omega) HONE.out ?_; intro w3 hput)
      go_roundw
      case rel => exact ⟨k + 1, by omega, by go_num, HF.out.step (fs := fieldsOf .term) HOK.out HGET.out hb2 HOWN.out hput⟩
      case measure => simp [intOf]; omega
    · go_wp2
      go_ret
      have e : k = m := by omega
      subst e
      exact ⟨_, rfl, hfill.done HM.out (by unfold maxLen; omega) (by decide) HOK.out.lens⟩
theorem szTermS_all (n : Nat) : ∀ rows, nodesRows rows < n -> szTermSC rows := by
  induction n with
  | zero => intro rows h; omega
  | succ n ih => exact fun rows h => szTermS_of rows (fun i r hr => szTerm_of r (fun rows' h' => ih rows' (by have := nodes_get hr; omega)))
theorem szTermS_any (rows : List (List C)) : szTermSC rows := szTermS_all _ rows (Nat.lt_succ_self _)
theorem szTerm_any (row : List C) : szTermC row := szTerm_of row (fun rows _ => szTermS_any rows)
theorem eqTermS_all (n : Nat) : ∀ rows, nodesRows rows < n -> eqTermSC rows := by
  induction n with
  | zero => intro rows h; omega
  | succ n ih => exact fun rows h => eqTermS_of rows (fun i r hr => eqTerm_of r (fun rows' h' => ih rows' (by have := nodes_get hr; omega)))
theorem eqTermS_any (rows : List (List C)) : eqTermSC rows := eqTermS_all _ rows (Nat.lt_succ_self _)
theorem eqTerm_any (row : List C) : eqTermC row := eqTerm_of row (fun rows _ => eqTermS_any rows)
theorem toTermS_all (n : Nat) : ∀ rows, nodesRows rows < n -> toTermSC rows := by
  induction n with
  | zero => intro rows h; omega
  | succ n ih => exact fun rows h => toTermS_of rows (fun i r hr => toTerm_of r (fun rows' h' => ih rows' (by have := nodes_get hr; omega)))
theorem toTermS_any (rows : List (List C)) : toTermSC rows := toTermS_all _ rows (Nat.lt_succ_self _)
theorem toTerm_any (row : List C) : toTermC row := toTerm_of row (fun rows _ => toTermS_any rows)
end Go.Proofs.YtkekkmpogmlopaaGreat
namespace Go.Proofs.YtkekkmpogmlopaaGreat
open Go.RowKit
inductive Tm where
  | mk (op : Int) (name : ByteArray) (sort : Int) (args : List Tm)
def Tm.args : Tm -> List Tm | .mk _ _ _ a => a
def Tm.op : Tm -> Int | .mk a _ _ _ => a
def Tm.name : Tm -> ByteArray | .mk _ a _ _ => a
def Tm.sort : Tm -> Int | .mk _ _ a _ => a
mutual
def encTm : Tm -> List C
  | .mk op nm so args => [.lit (.int .i64 op), .lit (.string nm), .lit (.int .i64 so), .sl (encTms args)]
def encTms : List Tm -> List (List C)
  | [] => []
  | t :: ts => encTm t :: encTms ts
end
mutual
def okTm : Tm -> Prop
  | .mk op nm so args => I64 op ∧ nm.size <= maxLen ∧ I64 so ∧ okTms args
def okTms : List Tm -> Prop
  | [] => True
  | t :: ts => okTm t ∧ okTms ts
end
theorem encTms_eq (ts : List Tm) : encTms ts = ts.map encTm := by
  induction ts with
  | nil => simp [encTms]
  | cons t ts ih => simp [encTms, ih]
theorem encTms_len (ts : List Tm) : (encTms ts).length = ts.length := by simp [encTms_eq]
theorem encTms_get (ts : List Tm) (i : Nat) : (encTms ts)[i]? = ts[i]?.map encTm := by simp [encTms_eq]
mutual
theorem okRow_enc : ∀ (t : Tm), okTm t -> okRow (fieldsOf .term) (encTm t)
  | .mk op nm so args, h => by
    simp only [okTm] at h
    simp only [encTm]
    exact mkRow_Term h.1 h.2.1 h.2.2.1 (okRows_enc args h.2.2.2)
theorem okRows_enc : ∀ (ts : List Tm), okTms ts -> okRows (fieldsOf .term) (encTms ts)
  | [], _ => by simp [encTms, okRows]
  | t :: ts, h => by
    simp only [okTms] at h
    simp only [encTms, okRows]
    exact ⟨okRow_enc t h.1, okRows_enc ts h.2⟩
end
theorem dec_both (n : Nat) : (∀ row, nodesRow row < n -> okRow (fieldsOf .term) row -> ∃ t, row = encTm t ∧ okTm t) ∧ (∀ rows, nodesRows rows < n -> okRows (fieldsOf .term) rows -> ∃ ts, rows = encTms ts ∧ okTms ts) := by
  induction n with
  | zero => exact ⟨fun _ h => by omega, fun _ h => by omega⟩
  | succ n ih =>
    have h1 : ∀ row, nodesRow row < n + 1 -> okRow (fieldsOf .term) row -> ∃ t, row = encTm t ∧ okTm t := by
      intro row hn hok
      obtain ⟨i0, t1, i2, r3, rfl, g0, g1, g2, g3⟩ := okRow_Term hok
      obtain ⟨ts, rfl, hts⟩ := ih.2 r3 (by simp only [nodesRow, nodesC] at hn; omega) g3
      exact ⟨.mk i0 t1 i2 ts, by simp [encTm], by simp only [okTm]; exact ⟨g0, g1, g2, hts⟩⟩
    refine ⟨h1, fun rows => ?_⟩
    induction rows with
    | nil => exact fun _ _ => ⟨[], by simp [encTms], by simp [okTms]⟩
    | cons r rs ihr =>
      intro hn hok
      simp only [nodesRows] at hn
      simp only [okRows] at hok
      obtain ⟨t, rfl, ht⟩ := h1 r (by omega) hok.1
      obtain ⟨ts, rfl, hts⟩ := ihr (by omega) hok.2
      exact ⟨t :: ts, by simp [encTms], by simp only [okTms]; exact ⟨ht, hts⟩⟩
theorem decTm {row : List C} (h : okRow (fieldsOf .term) row) : ∃ t, row = encTm t ∧ okTm t := (dec_both _).1 row (Nat.lt_succ_self _) h
theorem decTms {rows : List (List C)} (h : okRows (fieldsOf .term) rows) : ∃ ts, rows = encTms ts ∧ okTms ts := (dec_both _).2 rows (Nat.lt_succ_self _) h
theorem okTms.mem : ∀ {ts : List Tm} {t : Tm}, okTms ts -> t ∈ ts -> okTm t
  | [], _, _, h => by simp at h
  | x :: xs, t, h, ht => by
    simp only [okTms] at h
    rcases List.mem_cons.1 ht with rfl | ht
    · exact h.1
    · exact okTms.mem h.2 ht
def cmpInt (a b : Int) : Int := if a < b then -1 else if b < a then 1 else 0
def cmpStr (a b : ByteArray) : Int := Lib.compareBytes a.data.toList b.data.toList
def firstNZ : List Int -> Int
  | [] => 0
  | x :: xs => if x = 0 then firstNZ xs else x
mutual
def cmpTm : Tm -> Tm -> Int
  | .mk o n s a, .mk o' n' s' a' => firstNZ [cmpInt o o', cmpStr n n', cmpInt s s', cmpTms a a']
def cmpTms : List Tm -> List Tm -> Int
  | [], [] => 0
  | [], _ :: _ => -1
  | _ :: _, [] => 1
  | x :: xs, y :: ys => firstNZ [cmpTm x y, cmpTms xs ys]
end
theorem compareBytes_self : ∀ (l : List UInt8), Lib.compareBytes l l = 0
  | [] => rfl
  | x :: xs => by simp [Lib.compareBytes, compareBytes_self xs]
theorem compareBytes_zero : ∀ {l m : List UInt8}, Lib.compareBytes l m = 0 -> l = m
  | [], [], _ => rfl
  | [], _ :: _, h => by simp [Lib.compareBytes] at h
  | _ :: _, [], h => by simp [Lib.compareBytes] at h
  | x :: xs, y :: ys, h => by
    simp only [Lib.compareBytes] at h
    split at h
    · simp at h
    · split at h
      · simp at h
      · rename_i h1 h2
        have e : x = y := UInt8.le_antisymm (UInt8.not_lt.1 h2) (UInt8.not_lt.1 h1)
        rw [e, compareBytes_zero h]
theorem compareBytes_less : ∀ (l m : List UInt8), Op.bytesLess l m = decide (Lib.compareBytes l m = -1)
  | [], [] => by simp [Op.bytesLess, Lib.compareBytes]
  | [], _ :: _ => by simp [Op.bytesLess, Lib.compareBytes]
  | _ :: _, [] => by simp [Op.bytesLess, Lib.compareBytes]
  | x :: xs, y :: ys => by
    have ih := compareBytes_less xs ys
    simp only [Op.bytesLess, Lib.compareBytes, ih]
    by_cases h1 : x < y
    · simp [h1]
    · by_cases h2 : y < x
      · have : ¬ x = y := fun e => by subst e; exact h1 h2
        simp [h1, h2, this]
      · have e : x = y := UInt8.le_antisymm (UInt8.not_lt.1 h2) (UInt8.not_lt.1 h1)
        subst e
        simp [h1]
theorem compareBytes_range : ∀ (l m : List UInt8), Lib.compareBytes l m = -1 ∨ Lib.compareBytes l m = 0 ∨ Lib.compareBytes l m = 1
  | [], [] => by simp [Lib.compareBytes]
  | [], _ :: _ => by simp [Lib.compareBytes]
  | _ :: _, [] => by simp [Lib.compareBytes]
  | x :: xs, y :: ys => by
    have ih := compareBytes_range xs ys
    simp only [Lib.compareBytes]
    split
    · simp
    · split
      · simp
      · exact ih
theorem cmpInt_zero {a b : Int} : cmpInt a b = 0 ↔ a = b := by unfold cmpInt; split <;> (try split) <;> simp <;> omega
theorem cmpStr_zero {a b : ByteArray} : cmpStr a b = 0 ↔ a = b := by
  constructor
  · intro h
    have := compareBytes_zero h
    obtain ⟨⟨la⟩⟩ := a
    obtain ⟨⟨lb⟩⟩ := b
    simp at this
    rw [this]
  · rintro rfl
    exact compareBytes_self _
theorem cmpStr_range (a b : ByteArray) : cmpStr a b = -1 ∨ cmpStr a b = 0 ∨ cmpStr a b = 1 := compareBytes_range _ _
theorem cmpTms_step : ∀ {ps qs : List Tm} {k : Nat} {x y : Tm}, ps[k]? = some x -> qs[k]? = some y -> cmpTms (ps.drop k) (qs.drop k) = firstNZ [cmpTm x y, cmpTms (ps.drop (k + 1)) (qs.drop (k + 1))] := by
  intro ps qs k x y h1 h2
  have e1 : ps.drop k = x :: ps.drop (k + 1) := by
    obtain ⟨hl, hx⟩ := List.getElem?_eq_some_iff.1 h1
    rw [<- hx]; exact List.drop_eq_getElem_cons hl
  have e2 : qs.drop k = y :: qs.drop (k + 1) := by
    obtain ⟨hl, hx⟩ := List.getElem?_eq_some_iff.1 h2
    rw [<- hx]; exact List.drop_eq_getElem_cons hl
  rw [e1, e2, cmpTms]
end Go.Proofs.YtkekkmpogmlopaaGreat
namespace Go.Proofs.YtkekkmpogmlopaaGreat
open Go.RowKit
theorem cmpCompare (a b : Int) (w : World) : Calls Tryz.prog 190 #[.int .i64 a, .int .i64 b] w fun e w' => e = .returned (.int .i64 (cmpInt a b)) ∧ w = w' := by
  unfold cmpInt
  by_cases h1 : a < b
  · rw [if_pos h1]
    go_enter Tryz.func190, Tryz.ntmps190
    go_wp2
    go_ret
    exact ⟨rfl, rfl⟩
  · by_cases h2 : b < a
    · rw [if_neg h1, if_pos h2]
      go_enter Tryz.func190, Tryz.ntmps190
      go_wp2
      go_ret
      exact ⟨rfl, rfl⟩
    · rw [if_neg h1, if_neg h2]
      go_enter Tryz.func190, Tryz.ntmps190
      go_wp2
      go_ret
      exact ⟨rfl, rfl⟩
set_option maxRecDepth 100000 in
theorem bytealgCompare (a b : ByteArray) (w : World) : Calls Tryz.prog 207 #[.string a, .string b] w fun e w' => e = .returned (.int .i64 (cmpStr a b)) ∧ w = w' := by
  go_enter Tryz.func207, Tryz.ntmps207
  go_wp2
  rw [run_callFunc_extern Tryz.func214 (by kernel_rfl) (by kernel_rfl) (by kernel_rfl) (e := Extern.BytealgCompare.compare) (by kernel_rfl), Lib.run_compareString]
  simp only [Result.andThen]
  rw [Oper.upon_value]
  go_wp2
  go_ret
  exact ⟨rfl, rfl⟩
theorem stringsCompare (a b : ByteArray) (w : World) : Calls Tryz.prog 191 #[.string a, .string b] w fun e w' => e = .returned (.int .i64 (cmpStr a b)) ∧ w = w' := by
  go_enter Tryz.func191, Tryz.ntmps191
  go_wp2_with fail
  refine (bytealgCompare _ _ _).mono ?_
  rintro e w' ⟨rfl, rfl⟩
  go_wp2
  go_ret
  exact ⟨rfl, rfl⟩
theorem firstNZ_drop {l : List Int} {k : Nat} {x : Int} (h : l[k]? = some x) : firstNZ (l.drop k) = if x = 0 then firstNZ (l.drop (k + 1)) else x := by
  obtain ⟨hl, hx⟩ := List.getElem?_eq_some_iff.1 h
  rw [List.drop_eq_getElem_cons hl, hx, firstNZ]
set_option maxHeartbeats 1000000 in
theorem cmpOr (l : List Int) (g n cap : Nat) (w : World) (hn : l.length = n) (hm : n <= 9223372036854775807) (hc : ∀ (i : Nat) x, l[i]? = some x -> w.cell? ⟨g, i, none⟩ = some (.int .i64 x)) :
    Calls Tryz.prog 189 #[.slice (some ⟨g, 0, none⟩) n cap] w fun e w' => e = .returned (.int .i64 (firstNZ l)) ∧ w = w' := by
  have HC := Lib.hid hc
  have HN := Lib.hid hn
  clear hc hn
  go_enter Tryz.func189, Tryz.ntmps189
  go_wp2
  go_loop [8] (fun i => ∃ k : Nat, k <= n ∧ i = .int .i64 k ∧ firstNZ l = firstNZ (l.drop k)) (fun i => n - (intOf i).toNat)
  case atStart => exact ⟨0, Nat.zero_le _, rfl, rfl⟩
  case round =>
    obtain ⟨k, hk, rfl, hz⟩ := hrel
    have HZ := Lib.hid hz
    clear hz
    by_cases hkn : k < n
    · have hget : l[k]? = some (l[k]'(by have := HN.out; omega)) := List.getElem?_eq_getElem _
      generalize (l[k]'(by have := HN.out; omega)) = x at hget
      have hcell := HC.out k x hget
      have hd := Lib.hid (firstNZ_drop hget)
      clear hget
      by_cases hx : x = 0
      · subst hx
        go_wp2
        go_round
        case rel => exact ⟨k + 1, by omega, by go_num, by rw [HZ.out, hd.out, if_pos rfl]⟩
        case measure => simp [intOf]; omega
      · have hx1 : (x == 0) = false := by simpa using hx
        have hx2 : (x != 0) = true := by simpa using hx
        go_wp2
        go_ret
        exact ⟨ret_int (by rw [HZ.out, hd.out, if_neg hx]), rfl⟩
    · go_wp2
      go_ret
      refine ⟨ret_int ?_, rfl⟩
      rw [HZ.out, List.drop_eq_nil_of_le (by have := HN.out; omega)]
      rfl
end Go.Proofs.YtkekkmpogmlopaaGreat
namespace Go.Proofs.YtkekkmpogmlopaaGreat
open Go.RowKit
theorem okC.cell : ∀ {f : F} {c : C}, okC f c -> okCell c = true
  | .int, .lit v, h => by obtain ⟨n, rfl, _⟩ := h; rfl
  | .str, .lit v, h => by obtain ⟨n, rfl, _⟩ := h; rfl
  | .bool, .lit v, h => by obtain ⟨n, rfl⟩ := h; rfl
  | .sl t, .sl rows, h => rfl
  | .int, .sl _, h => False.elim h
  | .str, .sl _, h => False.elim h
  | .bool, .sl _, h => False.elim h
  | .sl _, .lit _, h => False.elim h
  | f, .ptr _, h => by cases f <;> exact False.elim h
  | f, .fn _ _, h => by cases f <;> exact False.elim h
theorem okRow.cells : ∀ {fs : List F} {cs : List C}, okRow fs cs -> cs.all okCell = true
  | [], [], _ => rfl
  | f :: fs, c :: cs, h => by
    simp only [okRow] at h
    rw [List.all_cons, h.1.cell, okRow.cells h.2]
    rfl
  | [], _ :: _, h => by simp [okRow] at h
  | _ :: _, [], h => by simp [okRow] at h
theorem okRow.take {fs : List F} {cs : List C} (h : okRow fs cs) {n : Nat} (hn : fs.length = n) : cs.length = n ∧ cs.take n = cs ∧ cs.drop n = [] := by
  have := h.len
  refine ⟨by omega, ?_, ?_⟩
  · rw [List.take_of_length_le (by omega)]
  · rw [List.drop_eq_nil_of_le (by omega)]
theorem RepVals.inside' {w : World} {S : Nat -> Prop} : ∀ {cs : List C} {us : List Value}, RepVals w S cs us -> RepVals w (fun b => b < w.heap.size) cs us
  | [], [], _ => by simp [RepVals]
  | c :: cs, u :: us, h => by
    simp only [RepVals] at h ⊢
    exact ⟨(Rep.inside c u h.1).mono (fun b hb => hb.2), RepVals.inside' h.2⟩
  | [], _ :: _, h => by simp [RepVals] at h
  | _ :: _, [], h => by simp [RepVals] at h
theorem drop0 {α : Type} (l : List α) : l.drop 0 = l := rfl
end Go.Proofs.YtkekkmpogmlopaaGreat
namespace Go.Proofs.YtkekkmpogmlopaaGreat
open Go.RowKit
theorem tm_len (t : Tm) : (encTm t).length = 4 := by cases t; rfl
theorem tm_take (t : Tm) : (encTm t).take 4 = encTm t := by cases t; rfl
theorem tm_drop (t : Tm) : (encTm t).drop 4 = [] := by cases t; rfl
theorem tm_ok (t : Tm) : (encTm t).all okCell = true := by cases t; rfl
theorem rb_tm (ts : List Tm) : rowsB 4 (encTms ts) = true := by
  rw [encTms_eq]
  exact rowsB_map (e := encTm) (n := 4) (fun t => by rw [tm_len, tm_ok]; rfl) ts
theorem tm_v0 (t : Tm) : valT .one (encTm t) = some (.d (.one (.lit (.int .i64 t.op)))) := by cases t; rfl
theorem tm_d1 (t : Tm) : (encTm t).drop 1 = [.lit (.string t.name), .lit (.int .i64 t.sort), .sl (encTms t.args)] := by cases t; rfl
theorem tm_d2 (t : Tm) : (encTm t).drop 2 = [.lit (.int .i64 t.sort), .sl (encTms t.args)] := by cases t; rfl
theorem tm_d3 (t : Tm) : (encTm t).drop 3 = [.sl (encTms t.args)] := by cases t; rfl
theorem tmz : type_of% (ai tm_v0 (ai tm_d1 (ai tm_d2 (ai tm_d3 (ai tm_len (ai tm_take (ai tm_drop (ai tm_ok (ai rb_tm (ai encTms_get (ai encTms_len @drop0))))))))))) := (ai tm_v0 (ai tm_d1 (ai tm_d2 (ai tm_d3 (ai tm_len (ai tm_take (ai tm_drop (ai tm_ok (ai rb_tm (ai encTms_get (ai encTms_len @drop0)))))))))))
end Go.Proofs.YtkekkmpogmlopaaGreat
namespace Go.Proofs.YtkekkmpogmlopaaGreat
open Go.RowKit
theorem con_same {e : Env} {f : FuncId} {args : List D} {x : Value} (hb : hasBody e.P f = true) (h : ∀ (w : World) (S : Nat -> Prop) (vs : List Value), DsRel w S args vs -> Calls e.P f vs.toArray w fun en w' => en = .returned x ∧ w = w') : Con e f args [.one (.lit x)] :=
  ⟨hb, fun w S vs _ _ hG hv => (h w S vs hv).mono fun en w' ⟨h1, h2⟩ => by subst h2; exact ⟨x, h1, Kept.refl .., hG, by simp [retA, ARel, DRel, Rep]⟩⟩
theorem con_when {e : Env} {f : FuncId} {args r : List D} {φ : Prop} (hb : hasBody e.P f = true) (hφ : ∀ (w : World) (S : Nat -> Prop) (vs : List Value), DsRel w S args vs -> φ) (h : φ -> Con e f args r) : Con e f args r :=
  ⟨hb, fun w S vs h1 h2 h3 h4 => (h (hφ w S vs h4)).2 w S vs h1 h2 h3 h4⟩
theorem con_cmpI1 (a b : Int) : Con e1 190 [.one (.lit (.int .i64 a)), .one (.lit (.int .i64 b))] [.one (.lit (.int .i64 (cmpInt a b)))] := by
  refine con_same (by kernel_rfl) fun w S vs h => ?_
  match vs, h with
  | [x, y], h =>
    obtain ⟨hx, hy, _⟩ := h
    have hx : x = .int .i64 a := hx
    have hy : y = .int .i64 b := hy
    subst hx hy
    exact cmpCompare a b w
theorem con_cmpS1 (a b : ByteArray) : Con e1 191 [.one (.lit (.string a)), .one (.lit (.string b))] [.one (.lit (.int .i64 (cmpStr a b)))] := by
  refine con_same (by kernel_rfl) fun w S vs h => ?_
  match vs, h with
  | [x, y], h =>
    obtain ⟨hx, hy, _⟩ := h
    have hx : x = .string a := hx
    have hy : y = .string b := hy
    subst hx hy
    exact stringsCompare a b w
set_option maxHeartbeats 4000000 in
theorem con_cmpOr1 (l : List Int) (hl : l.length <= 1048576) : Con e1 189 [.clip (l.map fun n => [.lit (.int .i64 n)])] [.one (.lit (.int .i64 (firstNZ l)))] := by
  have rb : rowsB 1 (l.map fun n => [C.lit (.int .i64 n)]) = true := rowsB_map (e := fun n => [C.lit (.int .i64 n)]) (n := 1) (fun _ => rfl) l
  refine gI (ts := [.slot 2]) 17389 Tryz.func189 ?_
  (have F := @rb; refine gG ?_; clear F)
  (have F := @rb; refine gL (ι := Nat) [2, 5, 8, 9, 14] [] (fun x => [(8, .d (.one (.lit (.int .i64 (x : Int)))))]) (fun x => []) (fun x => x <= l.length ∧ firstNZ l = firstNZ (l.drop x)) (fun x => l.length - x) (0) (⟨Nat.zero_le _, rfl⟩) (fun x hx => ?_); clear F)
  obtain ⟨hi, hf⟩ := hx
  rw [hf]
  clear hf
  by_cases hlt : x < l.length
  · obtain ⟨n, hn⟩ : ∃ n, l[x]? = some n := ⟨_, List.getElem?_eq_getElem hlt⟩
    have q1 : ((x : Int) < (l.length : Int)) = True := eq_true (by omega)
    have q4 : IntKind.i64.wrap ((x : Int) + 1) = (x : Int) + 1 := IntWalk.i64_in _ (by omega)
    rw [firstNZ_drop hn]
    by_cases h0 : n = 0
    · subst h0
      rw [if_pos rfl]
      (have F := ai @q1 (ai @rb @hn); refine gG ?_; clear F)
      (have F := @q4; refine gG ?_; exact ⟨x + 1, ⟨hlt, rfl⟩, gw, gw, by omega⟩)
    · have q2 : (n = 0) = False := eq_false h0
      rw [if_neg h0]
      (have F := ai @q1 (ai @rb (ai @hn @q2)); refine gG ?_; exact gTd)
  · obtain rfl : x = l.length := by omega
    have q1 : ((l.length : Int) < (l.length : Int)) = False := eq_false (by omega)
    rw [List.drop_length]
    simp only [firstNZ]
    (have F := @q1; refine gG ?_; exact gTd)
theorem cmpTms_nilL {b : List Tm} {k : Nat} {xs : List Tm} (h : xs.length <= k) : cmpTms (xs.drop k) b = if b = [] then 0 else -1 := by
  rw [List.drop_eq_nil_of_le h]
  cases b with
  | nil => simp [cmpTms]
  | cons x xs => simp [cmpTms]
theorem cmpTms_nilR {a : Tm} {k : Nat} {xs bs : List Tm} (ha : xs[k]? = some a) (h : bs.length <= k) : cmpTms (xs.drop k) (bs.drop k) = 1 := by
  obtain ⟨hl, hx⟩ := List.getElem?_eq_some_iff.1 ha
  rw [List.drop_eq_nil_of_le h, List.drop_eq_getElem_cons hl]
  simp [cmpTms]
set_option maxHeartbeats 4000000 in
theorem con_cmpFunc1_of (xs bs : List Tm) (hla : xs.length <= maxLen) (hlb : bs.length <= maxLen) (h : ∀ a ∈ xs, ∀ b ∈ bs, Con e1 152 [.agg (encTm a), .agg (encTm b)] [.one (.lit (.int .i64 (cmpTm a b)))]) : Con e1 192 [.one (.sl (encTms xs)), .one (.sl (encTms bs)), .one (.fn 152 [])] [.one (.lit (.int .i64 (cmpTms xs bs)))] := by
  unfold maxLen at hla hlb
  refine gI (ts := [.slot 6]) 277027520455 Tryz.func192 ?_
  (have F := @tmz; refine gG ?_; clear F)
  (have F := @tmz; refine gL (ι := Nat) [6, 7, 8, 9, 10, 13, 14, 21, 31] [] (fun x => [(13, .d (.one (.lit (.int .i64 (x : Int)))))]) (fun x => []) (fun x => x <= xs.length ∧ x <= bs.length ∧ cmpTms xs bs = cmpTms (xs.drop x) (bs.drop x)) (fun x => xs.length - x) (0) (⟨Nat.zero_le _, Nat.zero_le _, rfl⟩) (fun x hx => ?_); clear F)
  obtain ⟨hi, hj, hf⟩ := hx
  rw [hf]
  clear hf
  by_cases hlt : x < xs.length
  · obtain ⟨a, ha⟩ : ∃ n, xs[x]? = some n := ⟨_, List.getElem?_eq_getElem hlt⟩
    have q1 : ((x : Int) < (xs.length : Int)) = True := eq_true (by omega)
    by_cases hlt2 : x < bs.length
    · obtain ⟨b, hb⟩ : ∃ n, bs[x]? = some n := ⟨_, List.getElem?_eq_getElem hlt2⟩
      have q2 : ((x : Int) ≥ (bs.length : Int)) = False := eq_false (by omega)
      have q4 : IntKind.i64.wrap ((x : Int) + 1) = (x : Int) + 1 := IntWalk.i64_in _ (by omega)
      rw [cmpTms_step ha hb]
      simp only [firstNZ]
      (have F := ai @q1 (ai @q2 (ai @tmz (ai @ha @hb))); refine gG ?_; clear F)
      refine gB ?_
      (have F := @tmz; refine gC (h a (List.mem_of_getElem? ha) b (List.mem_of_getElem? hb)) ?_; clear F)
      (have F := @tmz; refine gR ?_; clear F)
      by_cases h0 : cmpTm a b = 0
      · have q3 : (cmpTm a b = 0) = True := eq_true h0
        rw [if_pos h0, show (if cmpTms (xs.drop (x + 1)) (bs.drop (x + 1)) = 0 then (0 : Int) else cmpTms (xs.drop (x + 1)) (bs.drop (x + 1))) = cmpTms (xs.drop (x + 1)) (bs.drop (x + 1)) by split <;> simp_all]
        (have F := ai @tmz @q3; refine gG ?_; clear F)
        (have F := @q4; refine gG ?_; exact ⟨x + 1, ⟨hlt, hlt2, rfl⟩, gw, gw, by omega⟩)
      · have q3 : (cmpTm a b = 0) = False := eq_false h0
        rw [if_neg h0]
        (have F := ai @tmz @q3; refine gG ?_; exact gTd)
    · have q2 : ((x : Int) ≥ (bs.length : Int)) = True := eq_true (by omega)
      rw [cmpTms_nilR ha (by omega)]
      (have F := ai @q1 (ai @q2 (ai @tmz @ha)); refine gG ?_; exact gTd)
  · have q1 : ((x : Int) < (xs.length : Int)) = False := eq_false (by omega)
    rw [cmpTms_nilL (by omega)]
    by_cases h2 : xs.length < bs.length
    · have q2 : ((xs.length : Int) < (bs.length : Int)) = True := eq_true (by omega)
      rw [if_neg (by intro e; have := congrArg List.length e; simp at this; omega)]
      (have F := ai @q1 (ai @q2 @tmz); refine gG ?_; exact gTd)
    · have q2 : ((xs.length : Int) < (bs.length : Int)) = False := eq_false (by omega)
      rw [if_pos (by apply List.drop_eq_nil_of_le; omega)]
      (have F := ai @q1 (ai @q2 @tmz); refine gG ?_; exact gTd)
theorem rel_len {w : World} {S : Nat -> Prop} {rows : List (List C)} {v : Value} (h : Rep w S (.sl rows) v) : rows.length <= maxLen := by
  simp only [Rep] at h
  obtain ⟨A, n, cap, _, h1, h2, h3, _⟩ := h
  omega
theorem con_cmpFunc1 (xs bs : List Tm) (h : ∀ a ∈ xs, ∀ b ∈ bs, Con e1 152 [.agg (encTm a), .agg (encTm b)] [.one (.lit (.int .i64 (cmpTm a b)))]) : Con e1 192 [.one (.sl (encTms xs)), .one (.sl (encTms bs)), .one (.fn 152 [])] [.one (.lit (.int .i64 (cmpTms xs bs)))] := by
  refine con_when (φ := xs.length <= maxLen ∧ bs.length <= maxLen) (by kernel_rfl) (fun w S vs hv => ?_) fun hφ => con_cmpFunc1_of xs bs hφ.1 hφ.2 h
  match vs, hv with
  | [x, y, z], hv =>
    have h1 := rel_len hv.1
    have h2 := rel_len hv.2.1
    rw [encTms_len] at h1 h2
    exact ⟨h1, h2⟩
set_option maxHeartbeats 4000000 in
theorem con_cmp1_of (a b : Tm) (h : ∀ x ∈ a.args, ∀ y ∈ b.args, Con e1 152 [.agg (encTm x), .agg (encTm y)] [.one (.lit (.int .i64 (cmpTm x y)))]) : Con e1 152 [.agg (encTm a), .agg (encTm b)] [.one (.lit (.int .i64 (cmpTm a b)))] := by
  obtain ⟨o, n, s, xs⟩ := a
  obtain ⟨o', n', s', bs⟩ := b
  simp only [Tm.args] at h
  have c1 : encTm (.mk o n s xs) = [.lit (.int .i64 o), .lit (.string n), .lit (.int .i64 s), .sl (encTms xs)] := by simp only [encTm]
  have c2 : encTm (.mk o' n' s' bs) = [.lit (.int .i64 o'), .lit (.string n'), .lit (.int .i64 s'), .sl (encTms bs)] := by simp only [encTm]
  have e3 : cmpTm (.mk o n s xs) (.mk o' n' s' bs) = if firstNZ [cmpInt o o', cmpStr n n', cmpInt s s'] = 0 then cmpTms xs bs else firstNZ [cmpInt o o', cmpStr n n', cmpInt s s'] := by
    simp only [cmpTm, firstNZ]
    by_cases h1 : cmpInt o o' = 0
    · by_cases h2 : cmpStr n n' = 0
      · by_cases h3 : cmpInt s s' = 0
        · simp only [h1, h2, h3, if_true]
          split <;> simp_all
        · simp only [h1, h2, h3, if_true, if_false]
      · simp only [h1, h2, if_true, if_false]
    · simp only [h1, if_false]
  have hor := con_cmpOr1 [cmpInt o o', cmpStr n n', cmpInt s s'] (by simp)
  simp only [List.map_cons, List.map_nil] at hor
  rw [e3]
  refine gI (ts := [.slot 4]) 16777279 Tryz.func152 ?_
  (have F := ai @c1 @c2; refine gG ?_; clear F)
  refine gB ?_
  (have F := ai @c1 @c2; refine gC (con_cmpI1 o o') ?_; clear F)
  (have F := ai @c1 @c2; refine gC (con_cmpS1 n n') ?_; clear F)
  (have F := ai @c1 @c2; refine gC (con_cmpI1 s s') ?_; clear F)
  (have F := ai @c1 @c2; refine gC (hor) ?_; clear F)
  (have F := ai @c1 @c2; refine gR ?_; clear F)
  by_cases h0 : firstNZ [cmpInt o o', cmpStr n n', cmpInt s s'] = 0
  · have q3 : (firstNZ [cmpInt o o', cmpStr n n', cmpInt s s'] = 0) = True := eq_true h0
    rw [if_pos h0]
    (have F := ai @q3 (ai @c1 @c2); refine gG ?_; clear F)
    refine gB ?_
    (have F := ai @c1 @c2; refine gC (con_cmpFunc1 xs bs h) ?_; clear F)
    (have F := ai @c1 @c2; refine gR ?_; clear F)
    (have F := ai @c1 @c2; refine gG ?_; exact gTd)
  · have q3 : (firstNZ [cmpInt o o', cmpStr n n', cmpInt s s'] = 0) = False := eq_false h0
    rw [if_neg h0]
    (have F := ai @q3 (ai @c1 @c2); refine gG ?_; exact gTd)
theorem con_cmp1_n (n : Nat) : ∀ a b : Tm, nodesRow (encTm a) < n -> Con e1 152 [.agg (encTm a), .agg (encTm b)] [.one (.lit (.int .i64 (cmpTm a b)))] := by
  induction n with
  | zero => exact fun _ _ h => by omega
  | succ n ih =>
    intro a b hn
    refine con_cmp1_of a b fun x hx y hy => ih x y ?_
    obtain ⟨op, nm, so, args⟩ := a
    simp only [encTm, nodesRow, nodesC] at hn
    simp only [Tm.args] at hx
    obtain ⟨i, hi⟩ := List.getElem?_of_mem hx
    have hi' : (encTms args)[i]? = some (encTm x) := by rw [encTms_get, hi]; rfl
    have h1 := nodes_get hi'
    omega
theorem con_cmp1 (a b : Tm) : Con e1 152 [.agg (encTm a), .agg (encTm b)] [.one (.lit (.int .i64 (cmpTm a b)))] := con_cmp1_n _ a b (Nat.lt_succ_self _)
end Go.Proofs.YtkekkmpogmlopaaGreat
namespace Go.Proofs.YtkekkmpogmlopaaGreat
open Go.RowKit
def cmpTmC (f : FuncId) (a b : Tm) : Prop := ∀ (S S' : Nat -> Prop) (us us' : List Value) (w : World), okTm a -> okTm b -> RepVals w S (encTm a) us -> RepVals w S' (encTm b) us' ->
  Calls Tryz.prog f #[.agg us.toArray, .agg us'.toArray] w fun e w' => e = .returned (.int .i64 (cmpTm a b)) ∧ Below w.heap.size w w'
def cmpTmsC (f : FuncId) (x y : List Tm) : Prop := ∀ (S S' : Nat -> Prop) (v v' : Value) (w : World), okTms x -> okTms y -> Rep w S (.sl (encTms x)) v -> Rep w S' (.sl (encTms y)) v' ->
  Calls Tryz.prog f #[v, v', .func (.func 152) #[] #[]] w fun e w' => e = .returned (.int .i64 (cmpTms x y)) ∧ Below w.heap.size w w'
theorem firstNZ2_zero {a b : Int} (h : a = 0) : firstNZ [a, b] = b := by
  simp only [firstNZ, h, if_true]
  split <;> simp_all
theorem firstNZ2_nz {a b : Int} (h : a ≠ 0) : firstNZ [a, b] = a := by simp [firstNZ, h]
set_option maxHeartbeats 2000000 in
set_option maxRecDepth 100000 in
theorem implCompareFunc_of (x y : List Tm) (h : ∀ (i : Nat) a b, x[i]? = some a -> y[i]? = some b -> cmpTmC 152 a b) : cmpTmsC 192 x y := by
  intro S S' v v' w hx hy hv hv'
  obtain ⟨A, m, cap, rfl, hm, hmc, hcm⟩ := hv.form
  obtain ⟨A', m', cap', rfl, hm', hmc', hcm'⟩ := hv'.form
  rw [encTms_len] at hm hm'
  obtain ⟨ic, hci, _, hcs, _⟩ := info_parts info_Term
  have H := Lib.hid h
  have HV := Lib.hid hv
  have HV' := Lib.hid hv'
  have HM := Lib.hid hm
  have HM' := Lib.hid hm'
  have HX := Lib.hid hx
  have HY := Lib.hid hy
  clear h hv hv' hm hm' hx hy
  unfold maxLen at hcm hcm'
  go_enter Tryz.func192, Tryz.ntmps192
  go_wp2
  go_loopw [13] (fun i wr => ∃ k : Nat, k <= m ∧ k <= m' ∧ i = .int .i64 k ∧ cmpTms x y = cmpTms (x.drop k) (y.drop k) ∧ Below w.heap.size w wr) (fun i _ => m - (intOf i).toNat)
  case atStart => exact ⟨0, Nat.zero_le _, Nat.zero_le _, rfl, rfl, Below.refl _ _⟩
  case round =>
    obtain ⟨k, hk, hk', rfl, hz, hb⟩ := hrel
    have HZ := Lib.hid hz
    clear hz
    by_cases hkm : k < m
    · obtain ⟨b, off, r, rfl, hS, hbz, hget, hokr, hrow⟩ := (HV.out.below hb).get (okRows_enc x HX.out) hkm
      obtain ⟨u0, u1, u2, u3, c0, c1, c2, c3, hvals⟩ := hrow.vals4 hokr.len
      have hone := okRow.one hokr hvals
      rw [encTms_get] at hget
      obtain ⟨t, ht, rfl⟩ := Option.map_eq_some_iff.1 hget
      have HVALS := Lib.hid hvals
      have HONE := Lib.hid hone
      have HT := Lib.hid ht
      clear hvals hokr hrow hget hone ht
      simp only [fieldsOf, termF, List.length_cons, List.length_nil, Nat.reduceAdd] at c0 c1 c2 c3
      by_cases hkm' : k < m'
      · obtain ⟨b', off', r', rfl, hS', hbz', hget', hokr', hrow'⟩ := (HV'.out.below hb).get (okRows_enc y HY.out) hkm'
        obtain ⟨x0, x1, x2, x3, d0, d1, d2, d3, hvals'⟩ := hrow'.vals4 hokr'.len
        have hone' := okRow.one hokr' hvals'
        rw [encTms_get] at hget'
        obtain ⟨t', ht', rfl⟩ := Option.map_eq_some_iff.1 hget'
        have HVALS' := Lib.hid hvals'
        have HONE' := Lib.hid hone'
        have HT' := Lib.hid ht'
        clear hvals' hokr' hrow' hget' hone' ht'
        simp only [fieldsOf, termF, List.length_cons, List.length_nil, Nat.reduceAdd] at d0 d1 d2 d3
        have hbb : ∀ o1 o2, Below w.heap.size w ((wr.alloc o1).alloc o2) := fun o1 o2 => (hb.alloc hb.size o1).alloc (by have := hb.size; simp; omega) o2
        have hbr : ∀ o1 o2, Below wr.heap.size wr ((wr.alloc o1).alloc o2) := fun o1 o2 => ((Below.refl _ _).alloc (Nat.le_refl _) o1).alloc (by simp) o2
        have hbne : b' ≠ wr.heap.size := by omega
        have HC := Lib.hid (H.out k t t' HT.out HT'.out)
        go_wp2_with (first
          | refine wpList_store_new rfl 51 _ _ rfl _ _ _ rfl _ rfl (by simp) [u0, u1, u2, u3] rfl ic hci hcs rfl HONE.out ?_
          | refine wpList_store_new rfl 51 _ _ rfl _ _ _ rfl _ rfl (by simp) [x0, x1, x2, x3] rfl ic hci hcs rfl HONE'.out ?_)
        refine (HC.out S S' _ _ _ (HX.out.mem (List.mem_of_getElem? HT.out)) (HY.out.mem (List.mem_of_getElem? HT'.out)) (HVALS.out.below (hbr _ _)) (HVALS'.out.below (hbr _ _))).mono ?_
        rintro e w2 ⟨rfl, hb2⟩
        have HST := Lib.hid (cmpTms_step HT.out HT'.out)
        generalize hc : cmpTm t t' = c at HST ⊢
        clear hc
        by_cases hc0 : c = 0
        · subst hc0
          go_wp2
          go_roundw
          case rel => exact ⟨k + 1, by omega, by omega, by go_num, by rw [HZ.out, HST.out, firstNZ2_zero rfl], (hbb _ _).trans (hb2.mono (by have := hb.size; simp; omega))⟩
          case measure => simp [intOf]; omega
        · have hc1 : (c == 0) = false := by simpa using hc0
          have hc2 : (c != 0) = true := by simpa using hc0
          go_wp2
          go_ret
          exact ⟨ret_int (by rw [HZ.out, HST.out, firstNZ2_nz hc0]), (hbb _ _).trans (hb2.mono (by have := hb.size; simp; omega))⟩
      · go_wp2_with (refine wpList_store_new rfl 51 _ _ rfl _ _ _ rfl _ rfl (by simp) [u0, u1, u2, u3] rfl ic hci hcs rfl HONE.out ?_)
        go_ret
        refine ⟨ret_int (a := 1) ?_, hb.alloc hb.size _⟩
        rw [HZ.out]
        have e2 : y.drop k = [] := List.drop_eq_nil_of_le (by have := HM'.out; omega)
        have e1 : x.drop k = t :: x.drop (k + 1) := by
          obtain ⟨hl, hx⟩ := List.getElem?_eq_some_iff.1 HT.out
          rw [<- hx]; exact List.drop_eq_getElem_cons hl
        rw [e1, e2, cmpTms]
    · have e1 : x.drop k = [] := List.drop_eq_nil_of_le (by have := HM.out; omega)
      by_cases hlt : m < m'
      · go_wp2
        go_ret
        refine ⟨ret_int (a := -1) ?_, hb⟩
        have hl : k < y.length := by have := HM'.out; omega
        rw [HZ.out, e1, List.drop_eq_getElem_cons hl, cmpTms]
      · go_wp2
        go_ret
        refine ⟨ret_int (a := 0) ?_, hb⟩
        rw [HZ.out, e1, List.drop_eq_nil_of_le (by have := HM'.out; omega), cmpTms]
end Go.Proofs.YtkekkmpogmlopaaGreat
namespace Go.Proofs.YtkekkmpogmlopaaGreat
open Go.RowKit
theorem cell_alloc_drew (W : World) (o : Obj) (p : Addr) (h : p.block < W.heap.size) : (W.alloc o).drew.cell? p = W.cell? p := (show (W.alloc o).drew.cell? p = (W.alloc o).cell? p from rfl).trans (World.cell?_alloc_lt W o p h)
theorem cells_of_list {W : World} {l : List Int} {t : TypeId} : ∀ (i : Nat) x, l[i]? = some x -> (W.alloc (.cells (l.map (Value.int .i64)).toArray t)).drew.cell? ⟨W.heap.size, i, none⟩ = some (.int .i64 x) := by
  intro i x h
  show (W.alloc (.cells (l.map (Value.int .i64)).toArray t)).cell? ⟨W.heap.size, i, none⟩ = _
  rw [cell_of_row _ _ _ _ _ _ (heap_alloc_new W _)]
  simp [h]
set_option maxHeartbeats 2000000 in
set_option maxRecDepth 100000 in
theorem implCompareTerms_of (a b : Tm) (h : cmpTmsC 192 a.args b.args) : cmpTmC 152 a b := by
  intro S S' us us' w ha hb hv hv'
  obtain ⟨o, n, s, x⟩ := a
  obtain ⟨o', n', s', y⟩ := b
  simp only [encTm] at hv hv'
  obtain ⟨v3, rfl, e3⟩ := repVals_Term hv
  obtain ⟨v3', rfl, e3'⟩ := repVals_Term hv'
  simp only [okTm] at ha hb
  have HX := Lib.hid ha.2.2.2
  have HY := Lib.hid hb.2.2.2
  have H := Lib.hid h
  have E := Lib.hid e3
  have E' := Lib.hid e3'
  have HF : Hid (cmpTm (.mk o n s x) (.mk o' n' s' y) = firstNZ [firstNZ [cmpInt o o', cmpStr n n', cmpInt s s'], cmpTms x y]) := by
    show _ = _
    simp only [cmpTm, firstNZ]
    repeat' split
    all_goals first | rfl | simp_all
  clear ha hb h e3 e3' hv hv'
  go_enter Tryz.func152, Tryz.ntmps152
  go_wp2_with fail
  generalize hW : (w.alloc _).alloc _ = W
  have hbW : Below w.heap.size w W := by rw [<- hW]; exact ((Below.refl _ _).alloc (Nat.le_refl _) _).alloc (by simp) _
  have p0 : W.cell? ⟨w.heap.size, 0, none⟩ = some (.int .i64 o) := by rw [<- hW]; simp
  have p1 : W.cell? ⟨w.heap.size, 1, none⟩ = some (.string n) := by rw [<- hW]; simp
  have p2 : W.cell? ⟨w.heap.size, 2, none⟩ = some (.int .i64 s) := by rw [<- hW]; simp
  have p3 : W.cell? ⟨w.heap.size, 3, none⟩ = some v3 := by rw [<- hW]; simp
  have q0 : W.cell? ⟨w.heap.size + 1, 0, none⟩ = some (.int .i64 o') := by rw [<- hW]; simp
  have q1 : W.cell? ⟨w.heap.size + 1, 1, none⟩ = some (.string n') := by rw [<- hW]; simp
  have q2 : W.cell? ⟨w.heap.size + 1, 2, none⟩ = some (.int .i64 s') := by rw [<- hW]; simp
  have q3 : W.cell? ⟨w.heap.size + 1, 3, none⟩ = some v3' := by rw [<- hW]; simp
  have z0 : w.heap.size < W.heap.size := by rw [<- hW]; simp; omega
  have z1 : w.heap.size + 1 < W.heap.size := by rw [<- hW]; simp
  have HOR := Lib.hid (fun w => cmpOr [cmpInt o o', cmpStr n n', cmpInt s s'] W.heap.size 3 3 w rfl (by omega))
  clear hW
  go_region_held3 (fun w' => ∀ b o, b < W.heap.size -> w'.cell? ⟨b, o, none⟩ = W.cell? ⟨b, o, none⟩) (first | exact fun b o h => cell_alloc_drew _ _ _ h | go_keep)
    (first
      | (go_at_call 190; refine (cmpCompare _ _ _).mono ?_; rintro e w' ⟨rfl, rfl⟩)
      | (go_at_call 191; refine (stringsCompare _ _ _).mono ?_; rintro e w' ⟨rfl, rfl⟩)
      | (go_at_call 189; refine (HOR.out _ (cells_of_list (W := W))).mono ?_; rintro e w' ⟨rfl, rfl⟩))
  have hbD : ∀ o1, Below w.heap.size w (W.alloc o1).drew := fun o1 => (hbW.alloc hbW.size o1).drew
  have hcd : ∀ o1 b o, b < W.heap.size -> (W.alloc o1).drew.cell? ⟨b, o, none⟩ = W.cell? ⟨b, o, none⟩ := fun o1 b o h => cell_alloc_drew W o1 ⟨b, o, none⟩ h
  generalize hc : firstNZ [cmpInt o o', cmpStr n n', cmpInt s s'] = c at HF ⊢
  clear hc
  by_cases hc0 : c = 0
  · subst hc0
    go_wp2_with fail
    refine (H.out S S' _ _ _ HX.out HY.out (E.out.below (hbD _)) (E'.out.below (hbD _))).mono ?_
    rintro e w2 ⟨rfl, hb2⟩
    go_wp2
    go_ret
    exact ⟨ret_int (by rw [HF.out, firstNZ2_zero rfl]; rfl), (hbD _).trans (hb2.mono (hbD _).size)⟩
  · have hc1 : (c == 0) = false := by simpa using hc0
    have hc2 : (c != 0) = true := by simpa using hc0
    go_wp2
    go_ret
    exact ⟨ret_int (by rw [HF.out, firstNZ2_nz hc0]), hbD _⟩
mutual
def sizeTm : Tm -> Nat
  | .mk _ _ _ a => 1 + sizeTms a
def sizeTms : List Tm -> Nat
  | [] => 0
  | t :: ts => sizeTm t + sizeTms ts
end
theorem sizeTms_get : ∀ {ts : List Tm} {i : Nat} {t : Tm}, ts[i]? = some t -> sizeTms t.args < sizeTms ts
  | [], _, _, h => by simp at h
  | x :: xs, 0, t, h => by
    simp at h
    subst h
    cases x
    simp only [sizeTms, sizeTm, Tm.args]
    omega
  | x :: xs, i + 1, t, h => by
    have := sizeTms_get (ts := xs) (i := i) (by simpa using h)
    simp only [sizeTms]
    omega
theorem implCompareFunc_all (n : Nat) : ∀ x y, sizeTms x < n -> cmpTmsC 192 x y := by
  induction n with
  | zero => intro x y h; omega
  | succ n ih => exact fun x y h => implCompareFunc_of x y (fun i a b ha hb => implCompareTerms_of a b (ih _ _ (by have := sizeTms_get ha; omega)))
theorem implCompareFunc (x y : List Tm) : cmpTmsC 192 x y := implCompareFunc_all _ x y (Nat.lt_succ_self _)
theorem implCompareTerms (a b : Tm) : cmpTmC 152 a b := implCompareTerms_of a b (implCompareFunc _ _)
end Go.Proofs.YtkekkmpogmlopaaGreat
namespace Go.Proofs.YtkekkmpogmlopaaGreat
open Go.RowKit
set_option maxHeartbeats 4000000 in
set_option maxRecDepth 100000 in
theorem specCompareTerms_of (a b : Tm) (h : ∀ (i : Nat) p q, a.args[i]? = some p -> b.args[i]? = some q -> cmpTmC 161 p q) : cmpTmC 161 a b := by
  intro S S' us us' w ha hb hv hv'
  obtain ⟨o, n, s, x⟩ := a
  obtain ⟨o', n', s', y⟩ := b
  simp only [encTm] at hv hv'
  obtain ⟨v3, rfl, e3⟩ := repVals_Term hv
  obtain ⟨v3', rfl, e3'⟩ := repVals_Term hv'
  simp only [okTm] at ha hb
  have HX := Lib.hid ha.2.2.2
  have HY := Lib.hid hb.2.2.2
  have H := Lib.hid h
  have hbW := ((Below.refl w.heap.size w).alloc (Nat.le_refl _) (.cells #[.int .i64 o, .string n, .int .i64 s, v3] 51)).alloc (by simp) (.cells #[.int .i64 o', .string n', .int .i64 s', v3'] 51)
  by_cases ho : o = o'
  case neg =>
    have ho1 : (o == o') = false := by simpa using ho
    have ho2 : (o != o') = true := by simpa using ho
    have hz : cmpInt o o' ≠ 0 := fun e => ho (cmpInt_zero.1 e)
    have HF : Hid (cmpTm (.mk o n s x) (.mk o' n' s' y) = cmpInt o o') := by show _ = _; simp only [cmpTm, firstNZ, if_neg hz]
    clear hz h H ha hb hv hv' e3 e3' ho
    by_cases hlt : o < o'
    · go_enter Tryz.func161, Tryz.ntmps161
      go_wp2
      go_ret
      exact ⟨ret_int (a := -1) (by rw [HF.out]; unfold cmpInt; rw [if_pos hlt]), hbW⟩
    · have HL := Lib.hid hlt
      go_enter Tryz.func161, Tryz.ntmps161
      go_wp2
      go_ret
      exact ⟨ret_int (a := 1) (by have h1 : o ≠ o' := by simpa using ho1
                                  have := HL.out
                                  rw [HF.out]; unfold cmpInt; rw [if_neg (by omega), if_pos (by omega)]), hbW⟩
  subst ho
  have hz0 : cmpInt o o = 0 := cmpInt_zero.2 rfl
  by_cases hn : n = n'
  case neg =>
    have hz : cmpStr n n' ≠ 0 := fun e => hn (cmpStr_zero.1 e)
    have HF : Hid (cmpTm (.mk o n s x) (.mk o n' s' y) = cmpStr n n') := by show _ = _; simp only [cmpTm, firstNZ, if_pos hz0, if_neg hz]
    clear h H ha hb hv hv' e3 e3' hz0
    have hn1 : (n.toList == n'.toList) = false := by
      simp only [beq_eq_false_iff_ne, ne_eq, ByteArray.toList_eq]
      intro e
      apply hn
      obtain ⟨⟨la⟩⟩ := n
      obtain ⟨⟨lb⟩⟩ := n'
      simp at e
      rw [e]
    have hlq : Op.bytesLess n.toList n'.toList = decide (cmpStr n n' = -1) := by rw [ByteArray.toList_eq, ByteArray.toList_eq]; exact compareBytes_less _ _
    have HZ := Lib.hid hz
    have HR := Lib.hid (cmpStr_range n n')
    clear hn hz
    by_cases hlt : cmpStr n n' = -1
    · have hl1 : Op.bytesLess n.toList n'.toList = true := by rw [hlq]; simpa using hlt
      have HLT := Lib.hid hlt
      clear hlq hlt
      go_enter Tryz.func161, Tryz.ntmps161
      go_wp2
      go_ret
      exact ⟨ret_int (a := -1) (by rw [HF.out, HLT.out]), hbW⟩
    · have hl1 : Op.bytesLess n.toList n'.toList = false := by rw [hlq]; simpa using hlt
      have HLT := Lib.hid hlt
      clear hlq hlt
      go_enter Tryz.func161, Tryz.ntmps161
      go_wp2
      go_ret
      exact ⟨ret_int (a := 1) (by rw [HF.out]; rcases HR.out with e | e | e
                                  · exact absurd e HLT.out
                                  · exact absurd e HZ.out
                                  · exact e.symm), hbW⟩
  subst hn
  have hz1 : cmpStr n n = 0 := cmpStr_zero.2 rfl
  by_cases hs : s = s'
  case neg =>
    have hs1 : (s == s') = false := by simpa using hs
    have hs2 : (s != s') = true := by simpa using hs
    have hz : cmpInt s s' ≠ 0 := fun e => hs (cmpInt_zero.1 e)
    have HF : Hid (cmpTm (.mk o n s x) (.mk o n s' y) = cmpInt s s') := by show _ = _; simp only [cmpTm, firstNZ, if_pos hz0, if_pos hz1, if_neg hz]
    clear hz h H ha hb hv hv' e3 e3' hs hz0 hz1
    by_cases hlt : s < s'
    · go_enter Tryz.func161, Tryz.ntmps161
      go_wp2
      go_ret
      exact ⟨ret_int (a := -1) (by rw [HF.out]; unfold cmpInt; rw [if_pos hlt]), hbW⟩
    · have HL := Lib.hid hlt
      go_enter Tryz.func161, Tryz.ntmps161
      go_wp2
      go_ret
      exact ⟨ret_int (a := 1) (by have h1 : s ≠ s' := by simpa using hs1
                                  have := HL.out
                                  rw [HF.out]; unfold cmpInt; rw [if_neg (by omega), if_pos (by omega)]), hbW⟩
  subst hs
  have HF : Hid (cmpTm (.mk o n s x) (.mk o n s y) = cmpTms x y) := by
    show _ = _
    simp only [cmpTm, firstNZ, if_pos hz0, if_pos hz1, if_pos (cmpInt_zero.2 (rfl : s = s))]
    split <;> simp_all
  obtain ⟨A, m, cap, rfl, hm, hmc, hcm⟩ := e3.form
  obtain ⟨A', m', cap', rfl, hm', hmc', hcm'⟩ := e3'.form
  rw [encTms_len] at hm hm'
  have HM := Lib.hid hm
  have HM' := Lib.hid hm'
  have HV := Lib.hid e3
  have HV' := Lib.hid e3'
  clear hz0 hz1 h ha hb hv hv' e3 e3' hm hm'
  unfold maxLen at hcm hcm'
  go_enter Tryz.func161, Tryz.ntmps161
  go_wp2
  generalize hW : (w.alloc _).alloc _ = W at hbW ⊢
  have p3 : W.cell? ⟨w.heap.size, 3, none⟩ = some (.slice A m cap) := by rw [<- hW]; simp
  have q3 : W.cell? ⟨w.heap.size + 1, 3, none⟩ = some (.slice A' m' cap') := by rw [<- hW]; simp
  have z0 : w.heap.size < W.heap.size := by rw [<- hW]; simp; omega
  have z1 : w.heap.size + 1 < W.heap.size := by rw [<- hW]; simp
  have HVW := Lib.hid (HV.out.below hbW)
  have HVW' := Lib.hid (HV'.out.below hbW)
  clear hW HV HV'
  go_loopw [5] (fun i wr => ∃ k : Nat, k <= m ∧ k <= m' ∧ i = .int .i64 k ∧ cmpTms x y = cmpTms (x.drop k) (y.drop k) ∧ Below W.heap.size W wr) (fun i _ => m - (intOf i).toNat)
  case atStart => exact ⟨0, Nat.zero_le _, Nat.zero_le _, rfl, rfl, Below.refl _ _⟩
  case round =>
    obtain ⟨k, hk, hk', rfl, hz, hb⟩ := hrel
    have HZ := Lib.hid hz
    clear hz
    obtain ⟨hcw, _⟩ := bcell hb
    have hbw' : Below w.heap.size w wr := hbW.trans (hb.mono hbW.size)
    by_cases hkm : k < m
    · obtain ⟨b, off, r, rfl, hS, hbz, hget, hokr, hrow⟩ := HVW.out.get (okRows_enc x HX.out) hkm
      obtain ⟨u0, u1, u2, u3, c0, c1, c2, c3, hvals⟩ := hrow.vals4 hokr.len
      rw [encTms_get] at hget
      obtain ⟨t, ht, rfl⟩ := Option.map_eq_some_iff.1 hget
      have HVALS := Lib.hid hvals
      have HT := Lib.hid ht
      clear hvals hokr hrow hget ht
      simp only [fieldsOf, termF, List.length_cons, List.length_nil, Nat.reduceAdd] at c0 c1 c2 c3
      have k0 : (0 : Int) <= (k : Int) := by omega
      have k1 : (k : Int) < (m : Int) := by omega
      have hd1 : decide (k < m) = true := by simpa using hkm
      by_cases hkm' : k < m'
      · obtain ⟨b', off', r', rfl, hS', hbz', hget', hokr', hrow'⟩ := HVW'.out.get (okRows_enc y HY.out) hkm'
        obtain ⟨x0, x1, x2, x3, d0, d1, d2, d3, hvals'⟩ := hrow'.vals4 hokr'.len
        rw [encTms_get] at hget'
        obtain ⟨t', ht', rfl⟩ := Option.map_eq_some_iff.1 hget'
        have HVALS' := Lib.hid hvals'
        have HT' := Lib.hid ht'
        clear hvals' hokr' hrow' hget' ht'
        simp only [fieldsOf, termF, List.length_cons, List.length_nil, Nat.reduceAdd] at d0 d1 d2 d3
        have k2 : (k : Int) < (m' : Int) := by omega
        have hd2 : decide (k < m') = true := by simpa using hkm'
        have HC := Lib.hid (H.out k t t' HT.out HT'.out)
        go_wp2_with fail
        go_region_held3 (fun w' => ∀ b o, b < W.heap.size -> w'.cell? ⟨b, o, none⟩ = W.cell? ⟨b, o, none⟩) (first | exact fun b o h => (hb2.cell (p := ⟨b, o, none⟩) (Nat.lt_of_lt_of_le h hb.size)).trans (hcw b o h) | exact fun b o h => hcw b o h | go_keep)
          (first | (go_at_call 161; refine (HC.out S S' _ _ _ (HX.out.mem (List.mem_of_getElem? HT.out)) (HY.out.mem (List.mem_of_getElem? HT'.out)) (HVALS.out.below hb.drew) (HVALS'.out.below hb.drew)).mono ?_; rintro e w2 ⟨rfl, hb2⟩))
        have hbq : Below W.heap.size W w2 := hb.drew.trans (hb2.mono (show W.heap.size <= wr.heap.size from hb.size))
        have HST := Lib.hid (cmpTms_step HT.out HT'.out)
        generalize hc : cmpTm t t' = c at HST ⊢
        clear hc
        by_cases hc0 : c = 0
        · subst hc0
          go_wp2
          go_roundw
          case rel => exact ⟨k + 1, by omega, by omega, by go_num, by rw [HZ.out, HST.out, firstNZ2_zero rfl], hbq⟩
          case measure => simp [intOf]; omega
        · have hc1 : (c == 0) = false := by simpa using hc0
          have hc2 : (c != 0) = true := by simpa using hc0
          go_wp2
          go_ret
          exact ⟨ret_int (by rw [HF.out, HZ.out, HST.out, firstNZ2_nz hc0]), hbW.trans (hbq.mono hbW.size)⟩
      · have hd2 : decide (k < m') = false := by simpa using hkm'
        have hmm : ¬ m < m' := by omega
        have hmm2 : m' < m := by omega
        go_wp2
        go_ret
        refine ⟨ret_int (a := 1) ?_, hbw'⟩
        rw [HF.out, HZ.out]
        have e2 : y.drop k = [] := List.drop_eq_nil_of_le (by have := HM'.out; omega)
        have e1 : x.drop k = t :: x.drop (k + 1) := by
          obtain ⟨hl, hx⟩ := List.getElem?_eq_some_iff.1 HT.out
          rw [<- hx]; exact List.drop_eq_getElem_cons hl
        rw [e1, e2, cmpTms]
    · have e1 : Hid (x.drop k = []) := Lib.hid (List.drop_eq_nil_of_le (by have := HM.out; omega))
      have hd1 : decide (k < m) = false := by simpa using hkm
      by_cases hlt : m < m'
      · go_wp2
        go_ret
        refine ⟨ret_int (a := -1) ?_, hbw'⟩
        have hl : k < y.length := by have := HM'.out; omega
        rw [HF.out, HZ.out, e1.out, List.drop_eq_getElem_cons hl, cmpTms]
      · have hlt2 : ¬ m' < m := by omega
        go_wp2
        go_ret
        refine ⟨ret_int (a := 0) ?_, hbw'⟩
        rw [HF.out, HZ.out, e1.out, List.drop_eq_nil_of_le (by have := HM'.out; omega), cmpTms]
theorem specCompareTerms_all (n : Nat) : ∀ a b, sizeTm a < n -> cmpTmC 161 a b := by
  induction n with
  | zero => intro a b h; omega
  | succ n ih =>
    intro a b h
    refine specCompareTerms_of a b (fun i p q hp hq => ih p q ?_)
    have h1 := sizeTms_get hp
    cases a
    cases p
    simp only [sizeTm, Tm.args] at h h1 ⊢
    omega
theorem specCompareTerms (a b : Tm) : cmpTmC 161 a b := specCompareTerms_all _ a b (Nat.lt_succ_self _)
end Go.Proofs.YtkekkmpogmlopaaGreat
namespace Go.Proofs.YtkekkmpogmlopaaGreat
open Go.RowKit
theorem wrap_i64 {n : Int} (h0 : 0 <= n) (h1 : n < 9223372036854775808) : IntKind.i64.wrap n = n := by
  simp [IntKind.wrap, IntKind.bits, IntKind.signed]
  omega
theorem bv_nat {a : Nat} (h : a < 18446744073709551616) : (BitVec.ofInt 64 (a : Int)).toNat = a := by
  rw [BitVec.toNat_ofInt]
  omega
theorem bits_or {a b : Nat} (ha : a < 4611686018427387904) (hb : b < 4611686018427387904) : bits .or .i64 (a : Int) (b : Int) = ((a ||| b : Nat) : Int) := by
  have h : a ||| b < 2 ^ 62 := Nat.or_lt_two_pow (by omega) (by omega)
  have e : (BitVec.ofInt IntKind.i64.bits (a : Int) ||| BitVec.ofInt IntKind.i64.bits (b : Int)).toNat = a ||| b := by
    rw [BitVec.toNat_or]
    show (BitVec.ofInt 64 (a : Int)).toNat ||| (BitVec.ofInt 64 (b : Int)).toNat = _
    rw [bv_nat (by omega), bv_nat (by omega)]
  unfold bits
  show IntKind.i64.wrap _ = _
  rw [e]
  exact wrap_i64 (by omega) (by omega)
theorem bits_and {a b : Nat} (ha : a < 4611686018427387904) (hb : b < 4611686018427387904) : bits .and .i64 (a : Int) (b : Int) = ((a &&& b : Nat) : Int) := by
  have h : a &&& b < 2 ^ 62 := Nat.and_lt_two_pow _ (by omega)
  have e : (BitVec.ofInt IntKind.i64.bits (a : Int) &&& BitVec.ofInt IntKind.i64.bits (b : Int)).toNat = a &&& b := by
    rw [BitVec.toNat_and]
    show (BitVec.ofInt 64 (a : Int)).toNat &&& (BitVec.ofInt 64 (b : Int)).toNat = _
    rw [bv_nat (by omega), bv_nat (by omega)]
  unfold bits
  show IntKind.i64.wrap _ = _
  rw [e]
  exact wrap_i64 (by omega) (by omega)
theorem pow_lt62 {k : Nat} (h : k < 62) : 2 ^ k < 4611686018427387904 := Nat.lt_of_lt_of_le (Nat.pow_lt_pow_right (by omega) h) (by omega)
theorem testBit_and (a k : Nat) : ((a &&& 2 ^ k) != 0) = a.testBit k := by
  cases h : a.testBit k
  · have : a &&& 2 ^ k = 0 := by
      apply Nat.eq_of_testBit_eq
      intro j
      rw [Nat.testBit_and, Nat.testBit_two_pow, Nat.zero_testBit]
      by_cases hj : k = j
      · subst hj; simp [h]
      · simp [hj]
    simp [this]
  · have : ¬ (a &&& 2 ^ k = 0) := by
      intro h0
      have h1 : (a &&& 2 ^ k).testBit k = true := by rw [Nat.testBit_and, Nat.testBit_two_pow]; simp [h]
      rw [h0, Nat.zero_testBit] at h1
      simp at h1
    simp [this]
theorem testBit_shr {a k : Nat} (ha : a < 4611686018427387904) : (bits .and .i64 ((a : Int) / 2 ^ k) 1 == 1) = a.testBit k := by
  have e : (a : Int) / 2 ^ k = ((a / 2 ^ k : Nat) : Int) := by simp
  have h1 : a / 2 ^ k <= a := Nat.div_le_self _ _
  have h2 : bits .and .i64 ((a / 2 ^ k : Nat) : Int) ((1 : Nat) : Int) = _ := bits_and (by omega) (by omega)
  rw [e]
  rw [show (1 : Int) = ((1 : Nat) : Int) from rfl, h2, Nat.testBit, Nat.shiftRight_eq_div_pow, Nat.and_comm]
  have h3 : 1 &&& a / 2 ^ k < 2 := by rw [Nat.one_and_eq_mod_two]; omega
  generalize 1 &&& a / 2 ^ k = x at h3 ⊢
  have : x = 0 ∨ x = 1 := by omega
  rcases this with rfl | rfl <;> rfl
def upSub (l : List Nat) (p : Int × Int) : List Nat := l.set p.1.toNat (l.getD p.1.toNat 0 ||| l.getD p.2.toNat 0)
def upRound (subs : List (Int × Int)) (l : List Nat) : List Nat := subs.foldl upSub l
def upIter (subs : List (Int × Int)) : Nat -> List Nat -> List Nat
  | 0, l => l
  | k + 1, l => upRound subs (upIter subs k l)
def up0 (n : Nat) : List Nat := (List.range n).map (2 ^ ·)
def up (s : Srt) : List Nat := upIter s.subs s.names.length (up0 s.names.length)
def casts (l : List Nat) : List Int := l.map (fun (n : Nat) => (n : Int))
def SubsIn (n : Nat) (subs : List (Int × Int)) : Prop := ∀ p ∈ subs, 0 <= p.1 ∧ p.1 < n ∧ 0 <= p.2 ∧ p.2 < n
def UpOk (n : Nat) (l : List Nat) : Prop := l.length = n ∧ ∀ x ∈ l, x < 2 ^ n
theorem UpOk.get {n : Nat} {l : List Nat} (h : UpOk n l) {i : Nat} (hi : i < n) : l[i]? = some (l.getD i 0) ∧ l.getD i 0 < 2 ^ n := by
  have hl : i < l.length := by rw [h.1]; exact hi
  have e : l[i]? = some l[i] := List.getElem?_eq_getElem hl
  have e2 : l.getD i 0 = l[i] := by simp [List.getD, e]
  rw [e2]
  exact ⟨e, h.2 _ (List.getElem_mem hl)⟩
theorem UpOk.sub {n : Nat} {l : List Nat} (h : UpOk n l) {p : Int × Int} (hp : 0 <= p.1 ∧ p.1 < n ∧ 0 <= p.2 ∧ p.2 < n) : UpOk n (upSub l p) := by
  refine ⟨by unfold upSub; rw [List.length_set]; exact h.1, fun x hx => ?_⟩
  unfold upSub at hx
  rcases List.mem_or_eq_of_mem_set hx with hx | rfl
  · exact h.2 x hx
  · exact Nat.or_lt_two_pow (h.get (i := p.1.toNat) (by omega)).2 (h.get (i := p.2.toNat) (by omega)).2
theorem UpOk.foldl {n : Nat} : ∀ {subs : List (Int × Int)} {l : List Nat}, UpOk n l -> SubsIn n subs -> UpOk n (subs.foldl upSub l)
  | [], l, h, _ => h
  | p :: ps, l, h, hs => UpOk.foldl (subs := ps) (h.sub (hs p (by simp))) (fun q hq => hs q (by simp [hq]))
theorem UpOk.iter {n : Nat} {subs : List (Int × Int)} (hs : SubsIn n subs) : ∀ (k : Nat) {l : List Nat}, UpOk n l -> UpOk n (upIter subs k l)
  | 0, l, h => h
  | k + 1, l, h => (UpOk.iter hs k h).foldl hs
theorem UpOk.start (n : Nat) : UpOk n (up0 n) := by
  refine ⟨by simp [up0], fun x hx => ?_⟩
  simp only [up0, List.mem_map, List.mem_range] at hx
  obtain ⟨i, hi, rfl⟩ := hx
  exact Nat.pow_lt_pow_right (by omega) hi
theorem up_ok {s : Srt} (h : SubsIn s.names.length s.subs) : UpOk s.names.length (up s) := UpOk.iter h _ (UpOk.start _)
theorem foldl_take {α β : Type} {f : β -> α -> β} {l : List α} {k : Nat} {a : α} (h : l[k]? = some a) (b : β) : (l.take (k + 1)).foldl f b = f ((l.take k).foldl f b) a := by
  rw [take_snoc h, List.foldl_append]; rfl
theorem SubsIn.take {n : Nat} {subs : List (Int × Int)} (h : SubsIn n subs) (k : Nat) : SubsIn n (subs.take k) := fun p hp => h p (List.mem_of_mem_take hp)
theorem casts_len (l : List Nat) : (casts l).length = l.length := by simp [casts]
theorem casts_get {l : List Nat} {i x : Nat} (h : l[i]? = some x) : (casts l)[i]? = some (x : Int) := by simp [casts, h]
theorem casts_set (l : List Nat) (i x : Nat) : casts (l.set i x) = (casts l).set i (x : Int) := by simp [casts, List.map_set]
theorem casts_snoc (l : List Nat) (x : Nat) : casts (l ++ [x]) = casts l ++ [(x : Int)] := by simp [casts]
def fill0 (n k : Nat) : List Nat := up0 k ++ List.replicate (n - k) 0
theorem fill0_len {n k : Nat} (h : k <= n) : (fill0 n k).length = n := by simp [fill0, up0]; omega
theorem fill0_set {n k : Nat} (h : k < n) : (fill0 n k).set k (2 ^ k) = fill0 n (k + 1) := by
  unfold fill0
  have e : n - k = (n - (k + 1)) + 1 := by omega
  have e2 : up0 (k + 1) = up0 k ++ [2 ^ k] := by simp [up0, List.range_succ]
  have e3 : (up0 k).length = k := by simp [up0]
  rw [e, List.replicate_succ, List.set_append_right _ _ (by omega), e3, Nat.sub_self, List.set_cons_zero, e2, List.append_assoc]
  rfl
theorem fill0_end (n : Nat) : fill0 n n = up0 n := by simp [fill0]
theorem up0_snoc (k : Nat) : up0 (k + 1) = up0 k ++ [2 ^ k] := by simp [up0, List.range_succ]
def hasStr (l : List ByteArray) (s : ByteArray) : Bool := l.any (fun t => s.toList == t.toList)
def nameB (n : Int) : Bool := decide (48 <= n ∧ n <= 57) || decide (65 <= n ∧ n <= 90) || decide (97 <= n ∧ n <= 122)
def byteAt (s : ByteArray) (i : Nat) : Int := if h : i < s.size then (s[i].toNat : Int) else 0
def nameFrom (s : ByteArray) (k : Nat) : Bool := (List.range' k (s.size - k)).all (fun i => nameB (byteAt s i) && !(i == 0 && decide (byteAt s i <= 57)))
def isName (s : ByteArray) : Bool := decide (1 <= s.size ∧ s.size <= 12) && !(s.toList == [105, 102]) && !(s.toList == [97, 110, 100]) && nameFrom s 0
theorem nameFrom_step {s : ByteArray} {k : Nat} (h : k < s.size) : nameFrom s k = ((nameB (s[k].toNat : Int) && !(k == 0 && decide ((s[k].toNat : Int) <= 57))) && nameFrom s (k + 1)) := by
  have eb : byteAt s k = (s[k].toNat : Int) := by unfold byteAt; rw [dif_pos h]
  rw [<- eb]
  unfold nameFrom
  have e : s.size - k = (s.size - (k + 1)) + 1 := by omega
  rw [e, List.range'_succ, List.all_cons]
theorem nameFrom_end {s : ByteArray} {k : Nat} (h : s.size <= k) : nameFrom s k = true := by
  unfold nameFrom
  have e : s.size - k = 0 := by omega
  rw [e]
  rfl
theorem isName_bad {s : ByteArray} (h : s.size < 1 ∨ 12 < s.size ∨ s.toList = [105, 102] ∨ s.toList = [97, 110, 100]) : isName s = false := by
  unfold isName
  rcases h with h | h | h | h
  · have : ¬ (1 <= s.size ∧ s.size <= 12) := by omega
    simp [this]
  · have : ¬ (1 <= s.size ∧ s.size <= 12) := by omega
    simp [this]
  · simp [h]
  · simp [h]
def SubOk (n : Nat) (p : Int × Int) : Prop := 0 <= p.1 ∧ p.1 < n ∧ 0 <= p.2 ∧ p.2 < n ∧ p.1 ≠ p.2
def NameOk (names : List ByteArray) (i : Nat) : Prop := ∀ x, names[i]? = some x -> isName x = true ∧ hasStr (names.take i) x = false
def PairOk (u : List Nat) (i k : Nat) : Prop := ¬ (i ≠ k ∧ (u.getD i 0).testBit k = true ∧ (u.getD k 0).testBit i = true)
structure SortsOk (s : Srt) : Prop where
  n1 : 1 <= s.names.length
  n8 : s.names.length <= 8
  m16 : s.subs.length <= 16
  names : ∀ i, i < s.names.length -> NameOk s.names i
  subs : ∀ p ∈ s.subs, SubOk s.names.length p
  pairs : ∀ i k, i < s.names.length -> k < s.names.length -> PairOk (up s) i k
open Classical in
noncomputable def isSorts (s : Srt) : Bool := decide (SortsOk s)
theorem isSorts_true {s : Srt} (h : SortsOk s) : isSorts s = true := by unfold isSorts; simp [h]
theorem isSorts_false {s : Srt} (h : ¬ SortsOk s) : isSorts s = false := by unfold isSorts; simp [h]
theorem isSorts_iff {s : Srt} : isSorts s = true ↔ SortsOk s := by unfold isSorts; simp
theorem SortsOk.subsIn {s : Srt} (h : ∀ p ∈ s.subs, SubOk s.names.length p) : SubsIn s.names.length s.subs := fun p hp => ⟨(h p hp).1, (h p hp).2.1, (h p hp).2.2.1, (h p hp).2.2.2.1⟩
theorem beq_sym {a b : ByteArray} : (a.toList == b.toList) = (b.toList == a.toList) := by
  rw [Bool.eq_iff_iff]
  simp
  exact ⟨fun h => h.symm, fun h => h.symm⟩
theorem hasStr_step {l : List ByteArray} {s x : ByteArray} {k : Nat} (h : l[k]? = some x) : hasStr (l.drop k) s = ((x.toList == s.toList) || hasStr (l.drop (k + 1)) s) := by
  obtain ⟨hl, hx⟩ := List.getElem?_eq_some_iff.1 h
  rw [List.drop_eq_getElem_cons hl, hx, hasStr, List.any_cons, beq_sym]
  rfl
theorem hasStr_snoc (l : List ByteArray) (t s : ByteArray) : hasStr (l ++ [t]) s = (hasStr l s || (s.toList == t.toList)) := by simp [hasStr, List.any_append]
def kSub (l : List Nat) (p : Int × Int) : List Nat := (l.set p.1.toNat (min (l.getD p.1.toNat 0) (l.getD p.2.toNat 0))).set p.2.toNat (min (l.getD p.1.toNat 0) (l.getD p.2.toNat 0))
def kIter (subs : List (Int × Int)) : Nat -> List Nat -> List Nat
  | 0, l => l
  | k + 1, l => subs.foldl kSub (kIter subs k l)
def kinds (s : Srt) : List Nat := kIter s.subs s.names.length (List.range s.names.length)
def KOk (n : Nat) (l : List Nat) : Prop := l.length = n ∧ ∀ x ∈ l, x < n
theorem KOk.get {n : Nat} {l : List Nat} (h : KOk n l) {i : Nat} (hi : i < n) : l[i]? = some (l.getD i 0) ∧ l.getD i 0 < n := by
  have hl : i < l.length := by rw [h.1]; exact hi
  have e : l[i]? = some l[i] := List.getElem?_eq_getElem hl
  have e2 : l.getD i 0 = l[i] := by simp [List.getD, e]
  rw [e2]
  exact ⟨e, h.2 _ (List.getElem_mem hl)⟩
theorem KOk.sub {n : Nat} {l : List Nat} (h : KOk n l) {p : Int × Int} (hp : 0 <= p.1 ∧ p.1 < n ∧ 0 <= p.2 ∧ p.2 < n) : KOk n (kSub l p) := by
  refine ⟨by unfold kSub; rw [List.length_set, List.length_set]; exact h.1, fun x hx => ?_⟩
  have hm : min (l.getD p.1.toNat 0) (l.getD p.2.toNat 0) < n := by
    have := (h.get (i := p.1.toNat) (by omega)).2
    omega
  unfold kSub at hx
  rcases List.mem_or_eq_of_mem_set hx with hx | rfl
  · rcases List.mem_or_eq_of_mem_set hx with hx | rfl
    · exact h.2 x hx
    · exact hm
  · exact hm
theorem KOk.foldl {n : Nat} : ∀ {subs : List (Int × Int)} {l : List Nat}, KOk n l -> SubsIn n subs -> KOk n (subs.foldl kSub l)
  | [], l, h, _ => h
  | p :: ps, l, h, hs => KOk.foldl (subs := ps) (h.sub (hs p (by simp))) (fun q hq => hs q (by simp [hq]))
theorem KOk.iter {n : Nat} {subs : List (Int × Int)} (hs : SubsIn n subs) : ∀ (k : Nat) {l : List Nat}, KOk n l -> KOk n (kIter subs k l)
  | 0, l, h => h
  | k + 1, l, h => (KOk.iter hs k h).foldl hs
theorem KOk.start (n : Nat) : KOk n (List.range n) := ⟨by simp, fun x hx => by simpa using hx⟩
theorem kinds_ok {s : Srt} (h : SubsIn s.names.length s.subs) : KOk s.names.length (kinds s) := KOk.iter h _ (KOk.start _)
def bitsTo (a k : Nat) : List Nat := (List.range k).filter (fun j => a.testBit j)
def listOf (a : Nat) : List Nat := bitsTo a 16
theorem bitsTo_yes {a k : Nat} (h : a.testBit k = true) : bitsTo a (k + 1) = bitsTo a k ++ [k] := by simp [bitsTo, List.range_succ, List.filter_append, h]
theorem bitsTo_no {a k : Nat} (h : a.testBit k = false) : bitsTo a (k + 1) = bitsTo a k := by simp [bitsTo, List.range_succ, List.filter_append, h]
theorem bitsTo_len (a k : Nat) : (bitsTo a k).length <= k := by
  have := List.length_filter_le (fun j => a.testBit j) (List.range k)
  simpa [bitsTo] using this
def downIn (i : Nat) (l : List Nat) (ks : List Nat) : List Nat := ks.foldl (fun l k => l.set k (l.getD k 0 ||| 2 ^ i)) l
def downs (u : List Nat) : Nat -> List Nat -> List Nat
  | 0, l => l
  | m + 1, l => downIn m (downs u m l) (listOf (u.getD m 0))
def down (s : Srt) : List Nat := downs (up s) s.names.length (List.replicate s.names.length 0)
theorem UpOk.or {n : Nat} {l : List Nat} (h : UpOk n l) {k i : Nat} (hk : k < n) (hi : i < n) : UpOk n (l.set k (l.getD k 0 ||| 2 ^ i)) := by
  refine ⟨by rw [List.length_set]; exact h.1, fun x hx => ?_⟩
  rcases List.mem_or_eq_of_mem_set hx with hx | rfl
  · exact h.2 x hx
  · exact Nat.or_lt_two_pow (h.get hk).2 (Nat.pow_lt_pow_right (by omega) hi)
theorem UpOk.downIn {n i : Nat} (hi : i < n) : ∀ {ks l : List Nat}, UpOk n l -> (∀ k ∈ ks, k < n) -> UpOk n (downIn i l ks)
  | [], l, h, _ => h
  | k :: ks, l, h, hk => UpOk.downIn (ks := ks) hi (h.or (hk k (by simp)) hi) (fun q hq => hk q (by simp [hq]))
theorem listOf_lt {a n : Nat} (h : a < 2 ^ n) : ∀ k ∈ listOf a, k < n := by
  intro k hk
  simp only [listOf, bitsTo, List.mem_filter, List.mem_range] at hk
  refine Decidable.byContradiction fun hn => ?_
  have := Nat.testBit_lt_two_pow (Nat.lt_of_lt_of_le h (Nat.pow_le_pow_right (by omega) (by omega : n <= k)))
  rw [this] at hk
  simp at hk
theorem UpOk.downs {n : Nat} {u : List Nat} (hu : UpOk n u) : ∀ (m : Nat) {l : List Nat}, m <= n -> UpOk n l -> UpOk n (downs u m l)
  | 0, l, _, h => h
  | m + 1, l, hm, h => (UpOk.downs hu m (by omega) h).downIn (by omega) (listOf_lt (hu.get (by omega)).2)
theorem UpOk.zeros (n : Nat) : UpOk n (List.replicate n 0) := ⟨by simp, fun x hx => by rw [(List.mem_replicate.1 hx).2]; exact Nat.two_pow_pos n⟩
theorem down_ok {s : Srt} (h : SubsIn s.names.length s.subs) : UpOk s.names.length (down s) := UpOk.downs (up_ok h) _ (Nat.le_refl _) (UpOk.zeros _)
def kFill (n k : Nat) : List Nat := List.range k ++ List.replicate (n - k) 0
theorem kFill_len {n k : Nat} (h : k <= n) : (kFill n k).length = n := by simp [kFill]; omega
theorem kFill_set {n k : Nat} (h : k < n) : (kFill n k).set k k = kFill n (k + 1) := by
  unfold kFill
  rw [List.set_append_right _ _ (by simp), List.length_range, Nat.sub_self, List.range_succ]
  obtain ⟨m, hm⟩ : ∃ m, n - k = m + 1 := ⟨n - k - 1, by omega⟩
  rw [hm, show n - (k + 1) = m by omega]
  simp [List.replicate_succ]
theorem kFill_end (n : Nat) : kFill n n = List.range n := by simp [kFill]
def kd (s : Srt) (k : Int) : Nat := (kinds s).getD k.toNat 0
structure DeclOk (s : Srt) (f d : Dcl) : Prop where
  len : d.args.length = f.args.length
  res : 0 <= d.res ∧ d.res < s.names.length
  args : ∀ k ∈ d.args, 0 <= k ∧ k < s.names.length
  kres : kd s d.res = kd s f.res
  kargs : ∀ (i : Nat) (a b : Int), d.args[i]? = some a -> f.args[i]? = some b -> kd s a = kd s b
structure DeclsOk (s : Srt) (o : Opr) : Prop where
  len1 : 1 <= o.decls.length
  len4 : o.decls.length <= 4
  ar : ∀ f, o.decls[0]? = some f -> f.args.length <= 3
  all : ∀ f, o.decls[0]? = some f -> ∀ d ∈ o.decls, DeclOk s f d
open Classical in
noncomputable def declsOk (s : Srt) (o : Opr) : Bool := decide (DeclsOk s o)
theorem declsOk_true {s : Srt} {o : Opr} (h : DeclsOk s o) : declsOk s o = true := by simp [declsOk, h]
theorem declsOk_false {s : Srt} {o : Opr} (h : ¬ DeclsOk s o) : declsOk s o = false := by simp [declsOk, h]
theorem declsOk_iff {s : Srt} {o : Opr} : declsOk s o = true ↔ DeclsOk s o := by simp [declsOk]
structure AxOk (g : Sgn) (o : Opr) : Prop where
  lo : 0 <= o.unit
  hi : o.unit <= g.ops.length
  two : (o.assoc = true ∨ o.comm = true ∨ o.unit ≠ 0) -> ∀ d, o.decls[0]? = some d -> d.args.length = 2 ∧ ∀ a b, d.args[0]? = some a -> d.args[1]? = some b -> kd g.sorts a = kd g.sorts b ∧ ((o.assoc = true ∨ o.unit ≠ 0) -> kd g.sorts a = kd g.sorts d.res) ∧
    (o.unit ≠ 0 -> ∀ (p : Opr) (u : Dcl), g.ops[o.unit.toNat - 1]? = some p -> p.decls[0]? = some u -> u.args.length = 0 ∧ kd g.sorts u.res = kd g.sorts d.res)
open Classical in
noncomputable def axOk (g : Sgn) (o : Opr) : Bool := decide (AxOk g o)
theorem axOk_true {g : Sgn} {o : Opr} (h : AxOk g o) : axOk g o = true := by simp [axOk, h]
theorem axOk_false {g : Sgn} {o : Opr} (h : ¬ AxOk g o) : axOk g o = false := by simp [axOk, h]
theorem axOk_iff {g : Sgn} {o : Opr} : axOk g o = true ↔ AxOk g o := by simp [axOk]
theorem DeclsOk.first {s : Srt} {o : Opr} (h : DeclsOk s o) : ∃ d, o.decls[0]? = some d ∧ DeclOk s d d := by
  have h1 := h.len1
  exact ⟨o.decls[0], List.getElem?_eq_getElem (by omega), h.all _ (List.getElem?_eq_getElem (by omega)) _ (List.getElem_mem _)⟩
def opNames (l : List Opr) : List ByteArray := l.map (·.name)
structure SgnOk (g : Sgn) : Prop where
  sorts : SortsOk g.sorts
  len : g.ops.length <= 14
  names : ∀ (i : Nat) (o : Opr), g.ops[i]? = some o -> isName o.name = true ∧ hasStr (opNames (g.ops.take i)) o.name = false
  decls : ∀ o ∈ g.ops, DeclsOk g.sorts o
  axs : ∀ o ∈ g.ops, AxOk g o
open Classical in
noncomputable def isSgn (g : Sgn) : Bool := decide (SgnOk g)
theorem isSgn_true {g : Sgn} (h : SgnOk g) : isSgn g = true := by simp [isSgn, h]
theorem isSgn_false {g : Sgn} (h : ¬ SgnOk g) : isSgn g = false := by simp [isSgn, h]
theorem isSgn_iff {g : Sgn} : isSgn g = true ↔ SgnOk g := by simp [isSgn]
theorem opNames_snoc {l : List Opr} {k : Nat} {o : Opr} (h : l[k]? = some o) : opNames (l.take (k + 1)) = opNames (l.take k) ++ [o.name] := by
  rw [take_snoc h]; simp [opNames]
end Go.Proofs.YtkekkmpogmlopaaGreat
namespace Go.Proofs.YtkekkmpogmlopaaGreat
open Go.RowKit
theorem nameFrom_get {s : ByteArray} {k : Nat} {b : UInt8} (h : s[k]? = some b) : nameFrom s k = ((nameB (b.toNat : Int) && !(k == 0 && decide ((b.toNat : Int) <= 57))) && nameFrom s (k + 1)) := by
  obtain ⟨hk, rfl⟩ := getElem?_eq_some_iff.1 h
  exact nameFrom_step hk
set_option maxHeartbeats 4000000 in
set_option maxRecDepth 100000 in
theorem con_nameByte (n : Int) : Con e0 183 [.one (.lit (.int .u8 n))] [.one (.lit (.bool (nameB n)))] := by
  by_cases h1 : 48 <= n <;> by_cases h2 : n <= 57 <;> by_cases h3 : 65 <= n <;> by_cases h4 : n <= 90 <;> by_cases h5 : 97 <= n <;> by_cases h6 : n <= 122 <;> first
    | (exfalso; omega)
    | (have hr : nameB n = true := by simp [nameB, h1, h2, h3, h4, h5, h6]
       refine gI 5 Tryz.func183 ?_
       (have F := ai @h1 (ai @h2 (ai @h3 (ai @h4 (ai @h5 (ai @h6 @hr))))); refine gG ?_; exact gT))
    | (have hr : nameB n = false := by simp [nameB, h1, h2, h3, h4, h5, h6]
       refine gI 5 Tryz.func183 ?_
       (have F := ai @h1 (ai @h2 (ai @h3 (ai @h4 (ai @h5 (ai @h6 @hr))))); refine gG ?_; exact gT))
theorem strL (l : List UInt8) : (⟨l.toArray⟩ : ByteArray).toList = l := by
  rw [ByteArray.toList_eq]
section
variable {s : ByteArray}
theorem isName_ok (h1 : 1 <= s.size) (h2 : s.size <= 12) (h3 : ¬ s.toList = [105, 102]) (h4 : ¬ s.toList = [97, 110, 100]) : isName s = nameFrom s 0 := by
  simp [isName, h1, h2, h3, h4]
set_option maxHeartbeats 4000000 in
set_option maxRecDepth 100000 in
theorem con_implName (hs : s.size <= maxLen) : Con e0 140 [.one (.lit (.string s))] [.one (.lit (.bool (isName s)))] := by
  have l1 : (⟨#[105, 102]⟩ : ByteArray).toList = [105, 102] := strL [105, 102]
  have l2 : (⟨#[97, 110, 100]⟩ : ByteArray).toList = [97, 110, 100] := strL [97, 110, 100]
  refine gI 1099520540685 Tryz.func140 ?_
  by_cases h1 : 1 <= s.size
  rotate_left
  · have hf := isName_bad (s := s) (.inl (by omega))
    have z1 : ((s.size : Int) < 1) = True := eq_true (by omega)
    (have F := ai @z1 @hf; refine gG ?_; exact gT)
  have z1 : ((s.size : Int) < 1) = False := eq_false (by omega)
  by_cases h2 : s.size <= 12
  rotate_left
  · have hf := isName_bad (s := s) (.inr (.inl (by omega)))
    have z2 : ((12 : Int) < s.size) = True := eq_true (by omega)
    (have F := ai @z1 (ai @z2 @hf); refine gG ?_; exact gT)
  have z2 : ((12 : Int) < s.size) = False := eq_false (by omega)
  by_cases h3 : s.toList = [105, 102]
  · have hf := isName_bad (s := s) (.inr (.inr (.inl h3)))
    (have F := ai @z1 (ai @z2 (ai @l1 (ai @h3 (ai @beq_self_eq_true.{0} @hf)))); refine gG ?_; exact gT)
  have z3 : (s.toList == [105, 102]) = false := by simpa using h3
  by_cases h4 : s.toList = [97, 110, 100]
  · have hf := isName_bad (s := s) (.inr (.inr (.inr h4)))
    have z3 : (([97, 110, 100] : List UInt8) == [105, 102]) = false := by decide
    (have F := ai @z1 (ai @z2 (ai @l1 (ai @l2 (ai @h4 (ai @z3 (ai @beq_self_eq_true.{0} @hf)))))); refine gG ?_; exact gT)
  have z4 : (s.toList == [97, 110, 100]) = false := by simpa using h4
  rw [isName_ok h1 h2 h3 h4]
  (have F := ai @z1 (ai @z2 (ai @l1 (ai @l2 (ai @z3 @z4)))); refine gG ?_; clear F)
  (have F := @e0P; refine gL (ι := Nat) [2, 3, 23, 40] [] (fun k => [(3, A.d (.one (.lit (.int .i64 k))))]) (fun k => []) (fun k => k <= s.size ∧ nameFrom s 0 = nameFrom s k) (fun k => s.size - k) (0) (⟨Nat.zero_le _, rfl⟩) (fun k hk => ?_); clear F)
  obtain ⟨hk, he⟩ := hk
  rw [he]
  by_cases hlt : k < s.size
  rotate_left
  · have q1 : ¬ ((k : Int) < (s.size : Int)) := by omega
    have ht := nameFrom_end (s := s) (k := k) (by omega)
    (have F := ai @q1 @ht; refine gG ?_; exact gT)
  have q1 : (k : Int) < (s.size : Int) := by omega
  obtain ⟨b, hb⟩ : ∃ b, s[k]? = some b := ⟨s[k], getElem?_pos s k hlt⟩
  have hw1 := wrap1 (k := k) (by omega)
  have hst := nameFrom_get hb
  (have F := @q1; refine gG ?_; clear F)
  refine gB ?_
  (have F := @hb; refine gC (con_nameByte (b.toNat : Int)) ?_; clear F)
  cases hn : nameB (b.toNat : Int) with
  | false =>
    have hf : nameFrom s k = false := by rw [hst, hn]; rfl
    (have F := @e0P; refine gR ?_; clear F)
    (have F := @hf; refine gG ?_; exact gT)
  | true =>
  by_cases hk0 : k = 0
  · have z5 : ((k : Int) = 0) = True := eq_true (by omega)
    by_cases h9 : (b.toNat : Int) <= 57
    · have z6 : ((b.toNat : Int) <= 57) = True := eq_true h9
      have hf : nameFrom s k = false := by rw [hst, hn, hk0]; simp [h9]
      (have F := ai @z5 (ai @hb @z6); refine gR ?_; clear F)
      (have F := @hf; refine gG ?_; exact gT)
    · have z6 : ((b.toNat : Int) <= 57) = False := eq_false h9
      have hq : nameFrom s k = nameFrom s (k + 1) := by rw [hst, hn]; simp [h9]
      (have F := ai @z5 (ai @hb @z6); refine gR ?_; clear F)
      (have F := @hw1; refine gG ?_; exact ⟨k + 1, ⟨hlt, hq⟩, gw, gw, by omega⟩)
  · have z5 : ((k : Int) = 0) = False := eq_false (by omega)
    have hq : nameFrom s k = nameFrom s (k + 1) := by rw [hst, hn]; simp [hk0]
    (have F := @z5; refine gR ?_; clear F)
    (have F := @hw1; refine gG ?_; exact ⟨k + 1, ⟨hlt, hq⟩, gw, gw, by omega⟩)
set_option maxHeartbeats 8000000 in
set_option maxRecDepth 100000 in
theorem con_specName (hs : s.size <= maxLen) : Con e0 128 [.one (.lit (.string s))] [.one (.lit (.bool (isName s)))] := by
  have l1 : (⟨#[105, 102]⟩ : ByteArray).toList = [105, 102] := strL [105, 102]
  have l2 : (⟨#[97, 110, 100]⟩ : ByteArray).toList = [97, 110, 100] := strL [97, 110, 100]
  refine gI 2417851639247950047084557 Tryz.func128 ?_
  by_cases h3 : s.toList = [105, 102]
  · have hf := isName_bad (s := s) (.inr (.inr (.inl h3)))
    (have F := ai @l1 (ai @h3 (ai @beq_self_eq_true.{0} @hf)); refine gG ?_; exact gT)
  have z3 : (s.toList == [105, 102]) = false := by simpa using h3
  by_cases h4 : s.toList = [97, 110, 100]
  · have hf := isName_bad (s := s) (.inr (.inr (.inr h4)))
    have z3 : (([97, 110, 100] : List UInt8) == [105, 102]) = false := by decide
    (have F := ai @l1 (ai @l2 (ai @h4 (ai @z3 (ai @beq_self_eq_true.{0} @hf)))); refine gG ?_; exact gT)
  have z4 : (s.toList == [97, 110, 100]) = false := by simpa using h4
  by_cases h1 : 1 <= s.size
  rotate_left
  · have hf := isName_bad (s := s) (.inl (by omega))
    have z1 : ((s.size : Int) < 1) = True := eq_true (by omega)
    (have F := ai @l1 (ai @l2 (ai @z3 (ai @z4 (ai @z1 @hf)))); refine gG ?_; exact gT)
  have z1 : ((s.size : Int) < 1) = False := eq_false (by omega)
  by_cases h2 : s.size <= 12
  rotate_left
  · have hf := isName_bad (s := s) (.inr (.inl (by omega)))
    have z2 : ((12 : Int) < s.size) = True := eq_true (by omega)
    (have F := ai @l1 (ai @l2 (ai @z3 (ai @z4 (ai @z1 (ai @z2 @hf))))); refine gG ?_; exact gT)
  have z2 : ((12 : Int) < s.size) = False := eq_false (by omega)
  obtain ⟨b, hb⟩ : ∃ b, s[0]? = some b := ⟨s[0], getElem?_pos s 0 h1⟩
  have hst := nameFrom_get hb
  rw [isName_ok h1 h2 h3 h4]
  have hb0 : 0 <= (b.toNat : Int) := by omega
  have hlet : ∀ c : Bool, ((decide (97 <= (b.toNat : Int) ∧ (b.toNat : Int) <= 122)) || decide (65 <= (b.toNat : Int) ∧ (b.toNat : Int) <= 90)) = c -> (nameB (b.toNat : Int) && !((0 : Nat) == 0 && decide ((b.toNat : Int) <= 57))) = c := fun c hc => by
    rw [<- hc, Bool.eq_iff_iff]
    simp [nameB]
    omega
  have key : (decide (97 <= (b.toNat : Int) ∧ (b.toNat : Int) <= 122) || decide (65 <= (b.toNat : Int) ∧ (b.toNat : Int) <= 90)) = true ∨ (decide (97 <= (b.toNat : Int) ∧ (b.toNat : Int) <= 122) || decide (65 <= (b.toNat : Int) ∧ (b.toNat : Int) <= 90)) = false := by cases (decide (97 <= (b.toNat : Int) ∧ (b.toNat : Int) <= 122) || decide (65 <= (b.toNat : Int) ∧ (b.toNat : Int) <= 90)) <;> simp
  rcases key with hk | hk
  rotate_left
  · have hf : nameFrom s 0 = false := by rw [hst, hlet _ hk]; rfl
    rw [hf]
    clear hst hlet hf
    by_cases c1 : 97 <= (b.toNat : Int) <;> by_cases c2 : (b.toNat : Int) <= 122 <;> by_cases c3 : 65 <= (b.toNat : Int) <;> by_cases c4 : (b.toNat : Int) <= 90 <;> first
      | (exfalso; omega)
      | (exfalso; simp [c1, c2, c3, c4] at hk; done)
      | (have F := ai @l1 (ai @l2 (ai @z3 (ai @z4 (ai @z1 (ai @z2 (ai @hb (ai @c1 (ai @c2 (ai @c3 @c4))))))))); refine gG ?_; exact gT)
  have hl0 : 65 <= (b.toNat : Int) := by simp at hk; omega
  have h01 : nameFrom s 0 = nameFrom s 1 := by rw [hst, hlet _ hk]; rfl
  (have F := @e0P; have NN : StopAt 1 := trivial; refine gGn ?_; clear F NN)
  refine gM (ι := Unit) [40] [] (fun u => [(40, A.d (.one (.lit (.bool false))))]) (fun u => []) (fun u => True) ?_ (fun u hu => Exists.intro _ (ai (Wk.refl _) ?_))
  · by_cases c1 : 97 <= (b.toNat : Int) <;> by_cases c2 : (b.toNat : Int) <= 122 <;> by_cases c3 : 65 <= (b.toNat : Int) <;> by_cases c4 : (b.toNat : Int) <= 90 <;> first
      | (exfalso; omega)
      | (exfalso; simp [c1, c2, c3, c4] at hk; done)
      | (have F := ai @l1 (ai @l2 (ai @z3 (ai @z4 (ai @z1 (ai @z2 (ai @hb (ai @c1 (ai @c2 (ai @c3 @c4))))))))); refine gG ?_; exact ⟨(), trivial, gw, gw⟩)
  clear hu hlet hk hst
  (have F := @e0P; refine gG ?_; clear F)
  (have F := @e0P; refine gL (ι := Nat) [2, 3, 44, 81] [] (fun k => [(3, A.d (.one (.lit (.int .i64 k))))]) (fun k => []) (fun k => k <= s.size ∧ nameFrom s 0 = nameFrom s k) (fun k => s.size - k) (0) (⟨Nat.zero_le _, rfl⟩) (fun k hk => ?_); clear F)
  obtain ⟨hkl, he⟩ := hk
  by_cases hlt : k < s.size
  rotate_left
  · have q1 : ¬ ((k : Int) < (s.size : Int)) := by omega
    have ht : nameFrom s 0 = true := by rw [he]; exact nameFrom_end (by omega)
    (have F := ai @q1 @ht; refine gG ?_; exact gT)
  have q1 : (k : Int) < (s.size : Int) := by omega
  obtain ⟨d, hd⟩ : ∃ d, s[k]? = some d := ⟨s[k], getElem?_pos s k hlt⟩
  have hw1 := wrap1 (k := k) (by omega)
  have hst := nameFrom_get hd
  (have F := @q1; have NN : StopAt 6 := trivial; refine gGn ?_; clear F NN)
  refine gM (ι := Unit) [81] [] (fun u => [(81, A.d (.one (.lit (.bool !(nameB (d.toNat : Int))))))]) (fun u => []) (fun u => True) ?_ (fun u hu => Exists.intro _ (ai (Wk.refl _) ?_))
  · by_cases c1 : 97 <= (d.toNat : Int) <;> by_cases c2 : (d.toNat : Int) <= 122 <;> by_cases c3 : 65 <= (d.toNat : Int) <;> by_cases c4 : (d.toNat : Int) <= 90 <;> by_cases c5 : 48 <= (d.toNat : Int) <;> by_cases c6 : (d.toNat : Int) <= 57 <;> first
      | (exfalso; omega)
      | (have hr : nameB (d.toNat : Int) = true := by simp [nameB, c1, c2, c3, c4, c5, c6]
         rw [hr]
         (have F := ai @hd (ai @c1 (ai @c2 (ai @c3 (ai @c4 (ai @c5 @c6))))); refine gG ?_; exact ⟨(), trivial, gw, gw⟩))
      | (have hr : nameB (d.toNat : Int) = false := by simp [nameB, c1, c2, c3, c4, c5, c6]
         rw [hr]
         (have F := ai @hd (ai @c1 (ai @c2 (ai @c3 (ai @c4 (ai @c5 @c6))))); refine gG ?_; exact ⟨(), trivial, gw, gw⟩))
  cases hn : nameB (d.toNat : Int) with
  | false =>
    have hf : nameFrom s 0 = false := by rw [he, hst, hn]; rfl
    (have F := @hf; refine gG ?_; exact gT)
  | true =>
  have hq : nameFrom s 0 = nameFrom s (k + 1) := by
    by_cases hk0 : k = 0
    · subst hk0; exact h01
    · rw [he, hst, hn]; simp [hk0]
  (have F := @hw1; refine gG ?_; exact ⟨k + 1, ⟨hlt, hq⟩, gw, gw, by omega⟩)
end
end Go.Proofs.YtkekkmpogmlopaaGreat
