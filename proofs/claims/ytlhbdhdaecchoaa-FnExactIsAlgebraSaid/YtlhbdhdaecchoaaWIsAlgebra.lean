/-
  The law FnExactIsAlgebra, walked.
-/
import Derived.Test.YtlhbdhdaecchoaaAlg1
import Derived.Test.YtlhbdhdaecchoaaAlg2
import Derived.Deep.RegionHeld3
set_option linter.unusedSimpArgs false
set_option linter.unusedVariables false
namespace Go.Proofs.Ytlhbdhdaecchoaa
open Go.RowKit

theorem infoExactIsAlgebra_Algebra : (Try.prog.info? 42).map (fun i => (i.zero, i.size, i.bytes)) = some (some (.agg #[.int .i64 0, .slice none 0 0]), 2, 32) := by kernel_rfl
theorem infoExactIsAlgebra_Signature : (Try.prog.info? 40).map (fun i => (i.zero, i.size, i.bytes)) = some (some (.agg #[.slice none 0 0, .slice none 0 0, .slice none 0 0]), 3, 72) := by kernel_rfl
set_option maxHeartbeats 4000000 in
set_option maxRecDepth 100000 in
theorem lawExactIsAlgebra (w : World) (row0 : List C) (S0 : Nat → Prop) (us0 : List Value) (hok0 : okRow (sigF) row0) (hv0 : RepVals w S0 row0 us0) (row1 : List C) (S1 : Nat → Prop) (us1 : List Value) (hok1 : okRow (algF) row1) (hv1 : RepVals w S1 row1 us1) :
    Calls Try.prog 3 #[.agg us0.toArray, .agg us1.toArray] w fun e w' => e = .returned (.bool true) ∧ Below w.heap.size w w' := by
  obtain ⟨z0_0, z0_1, z0_2, rfl⟩ := len3 (hv0.len.trans hok0.len)
  obtain ⟨ic0, hci0, _, hcs0, _⟩ := info_parts infoExactIsAlgebra_Signature
  obtain ⟨a0, rfl, k0⟩ := decSgn hok0
  have K0 := Lib.hid k0
  have HOK0 := Lib.hid hok0
  have HV0 := Lib.hid hv0
  clear k0 hok0 hv0
  obtain ⟨z1_0, z1_1, rfl⟩ := len2 (hv1.len.trans hok1.len)
  obtain ⟨ic1, hci1, _, hcs1, _⟩ := info_parts infoExactIsAlgebra_Algebra
  obtain ⟨a1, rfl, k1⟩ := decAlg hok1
  have K1 := Lib.hid k1
  have HOK1 := Lib.hid hok1
  have HV1 := Lib.hid hv1
  clear k1 hok1 hv1
  go_enter Try.func3, Try.ntmps3
  go_wp2_with fail
  generalize hW : (w.alloc _).alloc _ = A0
  have wA0 : Below w.heap.size w A0 := by rw [← hW]; exact (by repeat (first | refine Below.alloc ?_ (by simp; try omega) _ | exact Below.refl _ _))
  have p0_0 : A0.cell? ⟨w.heap.size, 0, none⟩ = some z0_0 := by rw [← hW]; simp
  have p0_1 : A0.cell? ⟨w.heap.size, 1, none⟩ = some z0_1 := by rw [← hW]; simp
  have p0_2 : A0.cell? ⟨w.heap.size, 2, none⟩ = some z0_2 := by rw [← hW]; simp
  have pz0 : w.heap.size < A0.heap.size := by rw [← hW]; simp; try omega
  have p1_0 : A0.cell? ⟨w.heap.size + 1, 0, none⟩ = some z1_0 := by rw [← hW]; simp
  have p1_1 : A0.cell? ⟨w.heap.size + 1, 1, none⟩ = some z1_1 := by rw [← hW]; simp
  have pz1 : w.heap.size + 1 < A0.heap.size := by rw [← hW]; simp; try omega
  clear hW
  by_cases hsz0 : (1048576 : Int) < ((bulkRow (encSgn a0)) : Nat)
  · refine (szSignature_any _ S0 _ _ _ HOK0.out (HV0.out.below wA0) (by omega) (by omega)).mono ?_
    rw [sub_neg (by omega)]
    rintro e q1 ⟨rfl, hbq1⟩
    go_wp2
    go_ret
    exact ⟨rfl, wA0.trans (hbq1.mono wA0.size)⟩
  refine (szSignature_any _ S0 _ _ _ HOK0.out (HV0.out.below wA0) (by omega) (by omega)).mono ?_
  have hle0 : (bulkRow (encSgn a0)) ≤ 1048576 := by omega
  rw [sub_pos (by omega)]
  generalize hL : (1048576 : Int) - ((bulkRow (encSgn a0)) : Nat) = L0
  have hL0 : 0 ≤ L0 := by omega
  have hM0 : L0 ≤ 1048576 := by omega
  clear hL hsz0
  rintro e q1 ⟨rfl, hbq1⟩
  have bq1 : Below A0.heap.size A0 q1 := (Below.refl A0.heap.size A0).trans (hbq1.mono (Below.refl A0.heap.size A0).size)
  obtain ⟨hcq1, _⟩ := bcell bq1
  have wq1 : Below w.heap.size w q1 := wA0.trans (hbq1.mono wA0.size)
  go_wp2_with fail
  by_cases hsz1 : (L0 : Int) < ((bulkRow (encAlg a1)) : Nat)
  · refine (szAlgebra_any _ S1 _ _ _ HOK1.out (HV1.out.below wq1) (by omega) (by omega)).mono ?_
    rw [sub_neg (by omega)]
    rintro e q2 ⟨rfl, hbq2⟩
    go_wp2
    go_ret
    exact ⟨rfl, wq1.trans (hbq2.mono wq1.size)⟩
  refine (szAlgebra_any _ S1 _ _ _ HOK1.out (HV1.out.below wq1) (by omega) (by omega)).mono ?_
  have hle1 : (bulkRow (encAlg a1)) ≤ 1048576 := by omega
  rw [sub_pos (by omega)]
  generalize hL : (L0 : Int) - ((bulkRow (encAlg a1)) : Nat) = L1
  have hL1 : 0 ≤ L1 := by omega
  have hM1 : L1 ≤ 1048576 := by omega
  clear hL hsz1
  rintro e q2 ⟨rfl, hbq2⟩
  have bq2 : Below A0.heap.size A0 q2 := bq1.trans (hbq2.mono bq1.size)
  obtain ⟨hcq2, _⟩ := bcell bq2
  have wq2 : Below w.heap.size w q2 := wq1.trans (hbq2.mono wq1.size)
  go_wp2_with fail
  have d0 : Below A0.heap.size A0 q2.drew := bq2.drew
  have e0 : Below w.heap.size w q2.drew := wq2.drew
  go_region_held3 (fun w' => ∀ b o, b < A0.heap.size → w'.cell? ⟨b, o, none⟩ = A0.cell? ⟨b, o, none⟩)
    (first | exact fun b o h => bq3s.cell (p := ⟨b, o, none⟩) h | exact fun b o h => bq4s.cell (p := ⟨b, o, none⟩) h | exact fun b o h => bq5s.cell (p := ⟨b, o, none⟩) h | exact fun b o h => d0.cell (p := ⟨b, o, none⟩) h | go_keep)
    (first
      | (go_at_call_of 9 z0_0; refine (toSignature_any _ S0 _ _ HOK0.out (HV0.out.below e0) hle0).mono ?_; rintro e q3 ⟨ysq3, rfl, hownq3, hbq3⟩; have bq3s : Below A0.heap.size A0 q3 := d0.trans (hbq3.mono d0.size); have eq3 : Below w.heap.size w q3 := e0.trans (hbq3.mono e0.size))
      | (go_at_call_of 10 z1_0; refine (toAlgebra_any _ S1 _ _ HOK1.out (HV1.out.below eq3) hle1).mono ?_; rintro e q4 ⟨ysq4, rfl, hownq4, hbq4⟩; have bq4s : Below A0.heap.size A0 q4 := bq3s.trans (hbq4.mono bq3s.size); have eq4 : Below w.heap.size w q4 := eq3.trans (hbq4.mono eq3.size))
      | (go_at_call 8; refine (specIsAlgebra a0 a1 (fun _ => True) _ _ _ K0.out K1.out ((OwnVals.rep _ _ (fun _ => True) _ (fun _ _ => trivial) hownq3).below hbq4) (OwnVals.rep _ _ (fun _ => True) _ (fun _ _ => trivial) hownq4)).mono ?_; rintro e q5 ⟨rfl, hbq5⟩; have bq5s : Below A0.heap.size A0 q5 := bq4s.trans (hbq5.mono bq4s.size); have eq5 : Below w.heap.size w q5 := eq4.trans (hbq5.mono eq4.size)))
  have bq5 : Below A0.heap.size A0 q5 := bq5s
  obtain ⟨hcq5, _⟩ := bcell bq5
  have wq5 := eq5
  clear d0 e0 hownq3 hownq4
  go_wp2_with fail
  refine (toSignature_any _ S0 _ _ HOK0.out (HV0.out.below wq5) hle0).mono ?_
  rintro e q6 ⟨ysq6, rfl, hownq6, hbq6⟩
  have bq6 : Below A0.heap.size A0 q6 := bq5.trans (hbq6.mono bq5.size)
  obtain ⟨hcq6, _⟩ := bcell bq6
  have wq6 : Below w.heap.size w q6 := wq5.trans (hbq6.mono wq5.size)
  have RX0 := Lib.hid (OwnVals.rep _ _ (fun _ => True) _ (fun _ _ => trivial) hownq6)
  have HONE0 := Lib.hid (okRow.one HOK0.out RX0.out)
  obtain ⟨y0_0, y0_1, y0_2, rfl⟩ := len3 (hownq6.len.trans HOK0.out.len)
  clear hownq6
  have pq0_q6 : w.heap.size < q6.heap.size := Nat.lt_of_lt_of_le pz0 bq6.size
  have pq1_q6 : w.heap.size + 1 < q6.heap.size := Nat.lt_of_lt_of_le pz1 bq6.size
  go_wp2_with (refine wpList_store_new rfl 40 _ _ rfl _ _ _ rfl _ rfl (by simp) [y0_0, y0_1, y0_2] rfl ic0 hci0 hcs0 rfl HONE0.out ?_)
  generalize hW : q6.alloc _ = X0
  have lX0 : Below q6.heap.size q6 X0 := by rw [← hW]; exact (Below.refl _ _).alloc (Nat.le_refl _) _
  have x0_0 : X0.cell? ⟨q6.heap.size, 0, none⟩ = some y0_0 := by rw [← hW]; simp
  have x0_1 : X0.cell? ⟨q6.heap.size, 1, none⟩ = some y0_1 := by rw [← hW]; simp
  have x0_2 : X0.cell? ⟨q6.heap.size, 2, none⟩ = some y0_2 := by rw [← hW]; simp
  have xz0 : q6.heap.size < X0.heap.size := by rw [← hW]; simp
  clear hW
  have aX0 : Below A0.heap.size A0 X0 := bq6.trans (lX0.mono bq6.size)
  obtain ⟨hcX0, _⟩ := bcell aX0
  have wX0 : Below w.heap.size w X0 := wq6.trans (lX0.mono wq6.size)
  replace RX0 := Lib.hid (RX0.out.below lX0)
  have pz0_0 : w.heap.size < X0.heap.size := Nat.lt_of_lt_of_le pz0 aX0.size
  have pz1_0 : w.heap.size + 1 < X0.heap.size := Nat.lt_of_lt_of_le pz1 aX0.size
  have tok : True := trivial
  go_wp2_with fail
  refine (toAlgebra_any _ S1 _ _ HOK1.out (HV1.out.below wX0) hle1).mono ?_
  rintro e q7 ⟨ysq7, rfl, hownq7, hbq7⟩
  have bq7 : Below X0.heap.size X0 q7 := (Below.refl X0.heap.size X0).trans (hbq7.mono (Below.refl X0.heap.size X0).size)
  obtain ⟨hcq7, _⟩ := bcell bq7
  have wq7 : Below w.heap.size w q7 := wX0.trans (hbq7.mono wX0.size)
  have RX1 := Lib.hid (OwnVals.rep _ _ (fun _ => True) _ (fun _ _ => trivial) hownq7)
  have HONE1 := Lib.hid (okRow.one HOK1.out RX1.out)
  obtain ⟨y1_0, y1_1, rfl⟩ := len2 (hownq7.len.trans HOK1.out.len)
  clear hownq7
  have pq0_q7 : w.heap.size < q7.heap.size := Nat.lt_of_lt_of_le pz0_0 bq7.size
  have pq1_q7 : w.heap.size + 1 < q7.heap.size := Nat.lt_of_lt_of_le pz1_0 bq7.size
  have xq0_q7 : q6.heap.size < q7.heap.size := Nat.lt_of_lt_of_le xz0 bq7.size
  go_wp2_with (refine wpList_store_new rfl 42 _ _ rfl _ _ _ rfl _ rfl (by simp) [y1_0, y1_1] rfl ic1 hci1 hcs1 rfl HONE1.out ?_)
  generalize hW : q7.alloc _ = X1
  have lX1 : Below q7.heap.size q7 X1 := by rw [← hW]; exact (Below.refl _ _).alloc (Nat.le_refl _) _
  have x1_0 : X1.cell? ⟨q7.heap.size, 0, none⟩ = some y1_0 := by rw [← hW]; simp
  have x1_1 : X1.cell? ⟨q7.heap.size, 1, none⟩ = some y1_1 := by rw [← hW]; simp
  have xz1 : q7.heap.size < X1.heap.size := by rw [← hW]; simp
  clear hW
  have aX1 : Below X0.heap.size X0 X1 := bq7.trans (lX1.mono bq7.size)
  obtain ⟨hcX1, _⟩ := bcell aX1
  have wX1 : Below w.heap.size w X1 := wq7.trans (lX1.mono wq7.size)
  replace RX1 := Lib.hid (RX1.out.below lX1)
  have pz0_1 : w.heap.size < X1.heap.size := Nat.lt_of_lt_of_le pz0_0 aX1.size
  have pz1_1 : w.heap.size + 1 < X1.heap.size := Nat.lt_of_lt_of_le pz1_0 aX1.size
  have xz0_1 : q6.heap.size < X1.heap.size := Nat.lt_of_lt_of_le xz0 aX1.size
  replace RX0 := Lib.hid (RX0.out.below aX1)
  have tok : True := trivial
  refine (implIsAlgebra a0 a1 (fun _ => True) _ _ _ K0.out K1.out RX0.out RX1.out).mono ?_
  rintro e q8 ⟨rfl, hbq8⟩
  have bq8 : Below X1.heap.size X1 q8 := (Below.refl X1.heap.size X1).trans (hbq8.mono (Below.refl X1.heap.size X1).size)
  obtain ⟨hcq8, _⟩ := bcell bq8
  have wq8 : Below w.heap.size w q8 := wX1.trans (hbq8.mono wX1.size)
  go_wp2_with fail
  have eq90 : Below w.heap.size w q8.drew := wq8.drew
  have fq90 : Below X1.heap.size X1 q8.drew := bq8.drew
  go_region_held3 (fun w' => ∀ b o, b < X1.heap.size → w'.cell? ⟨b, o, none⟩ = X1.cell? ⟨b, o, none⟩)
    (first | exact fun b o h => sq9.cell (p := ⟨b, o, none⟩) h | exact fun b o h => sq10.cell (p := ⟨b, o, none⟩) h | exact fun b o h => fq90.cell (p := ⟨b, o, none⟩) h | go_keep)
    (first
      | (go_at_call 9; refine (toSignature_any _ S0 _ _ HOK0.out (HV0.out.below eq90) hle0).mono ?_; rintro e q9 ⟨ysq9, rfl, hownq9, hbq9⟩; have sq9 : Below X1.heap.size X1 q9 := fq90.trans (hbq9.mono fq90.size); have tq9 : Below w.heap.size w q9 := eq90.trans (hbq9.mono eq90.size))
      | (go_at_call 12; refine (eqSignature_any _ _ _ _ _ _ HOK0.out (RX0.out.below (fq90.trans (hbq9.mono fq90.size))) (OwnVals.rep _ _ (fun _ => True) _ (fun _ _ => trivial) hownq9)).mono ?_; rintro e q10 ⟨rfl, hbq10⟩; have sq10 : Below X1.heap.size X1 q10 := sq9.trans (hbq10.mono sq9.size); have tq10 : Below w.heap.size w q10 := tq9.trans (hbq10.mono tq9.size)))
  have bq10 : Below X1.heap.size X1 q10 := sq10
  obtain ⟨hcq10, _⟩ := bcell bq10
  have wq10 : Below w.heap.size w q10 := tq10
  clear hownq9 eq90 fq90
  go_wp2_with fail
  have eq110 : Below w.heap.size w q10.drew := wq10.drew
  have fq110 : Below X1.heap.size X1 q10.drew := bq10.drew
  go_region_held3 (fun w' => ∀ b o, b < X1.heap.size → w'.cell? ⟨b, o, none⟩ = X1.cell? ⟨b, o, none⟩)
    (first | exact fun b o h => sq11.cell (p := ⟨b, o, none⟩) h | exact fun b o h => sq12.cell (p := ⟨b, o, none⟩) h | exact fun b o h => fq110.cell (p := ⟨b, o, none⟩) h | go_keep)
    (first
      | (go_at_call 10; refine (toAlgebra_any _ S1 _ _ HOK1.out (HV1.out.below eq110) hle1).mono ?_; rintro e q11 ⟨ysq11, rfl, hownq11, hbq11⟩; have sq11 : Below X1.heap.size X1 q11 := fq110.trans (hbq11.mono fq110.size); have tq11 : Below w.heap.size w q11 := eq110.trans (hbq11.mono eq110.size))
      | (go_at_call 13; refine (eqAlgebra_any _ _ _ _ _ _ HOK1.out (RX1.out.below (fq110.trans (hbq11.mono fq110.size))) (OwnVals.rep _ _ (fun _ => True) _ (fun _ _ => trivial) hownq11)).mono ?_; rintro e q12 ⟨rfl, hbq12⟩; have sq12 : Below X1.heap.size X1 q12 := sq11.trans (hbq12.mono sq11.size); have tq12 : Below w.heap.size w q12 := tq11.trans (hbq12.mono tq11.size)))
  have bq12 : Below X1.heap.size X1 q12 := sq12
  obtain ⟨hcq12, _⟩ := bcell bq12
  have wq12 : Below w.heap.size w q12 := tq12
  clear hownq11 eq110 fq110
  go_wp2
  go_ret
  exact ⟨rfl, wq12⟩
end Go.Proofs.Ytlhbdhdaecchoaa
