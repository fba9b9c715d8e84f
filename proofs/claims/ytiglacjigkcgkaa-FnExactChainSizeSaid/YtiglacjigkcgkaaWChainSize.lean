/-
  The law FnExactChainSize, walked.
-/
import Derived.Test.YtiglacjigkcgkaaChainSize
import Derived.Deep.RegionHeld3
set_option linter.unusedSimpArgs false
set_option linter.unusedVariables false
namespace Go.Proofs.Ytiglacjigkcgkaa
open Go.RowKit

set_option maxRecDepth 100000 in
set_option maxHeartbeats 2000000 in
theorem lawChainSize (row : List C) (S : Nat → Prop) (us : List Value) (w : World) (hok : okRow (fieldsOf .chain) row) (hv : RepVals w S row us) :
    Calls Try.prog 4 #[.agg us.toArray] w fun e w' => e = .returned (.bool true) ∧ Below w.heap.size w w' := by
  obtain ⟨z0, z1, z2, z3, z4, z5, z6, z7, z8, rfl⟩ := len9 (hv.len.trans hok.len)
  obtain ⟨ic, hci, _, hcs, _⟩ := info_parts info_Chain
  have HV := Lib.hid hv
  have HOK := Lib.hid hok
  clear hv hok
  have hbw := (Below.refl w.heap.size w).alloc (Nat.le_refl _) (.cells #[z0, z1, z2, z3, z4, z5, z6, z7, z8] 41)
  go_enter Try.func4, Try.ntmps4
  go_wp2_with fail
  by_cases hsz : (1048576 : Int) < (bulkRow row : Nat)
  · refine (szChain_any row S _ _ _ HOK.out (HV.out.below hbw) (by omega) (by omega)).mono ?_
    rw [sub_neg (by omega)]
    rintro e w1 ⟨rfl, hb1⟩
    go_wp2
    go_ret
    exact ⟨rfl, hbw.trans (hb1.mono hbw.size)⟩
  refine (szChain_any row S _ _ _ HOK.out (HV.out.below hbw) (by omega) (by omega)).mono ?_
  have hle : bulkRow row ≤ 1048576 := by omega
  rw [sub_pos (by omega)]
  generalize hL : (1048576 : Int) - (bulkRow row : Nat) = L
  have hL0 : 0 ≤ L := by omega
  clear hL hsz
  rintro e w1 ⟨rfl, hb1⟩
  obtain ⟨hc1, hf1⟩ := bcell hb1
  have hz1 := hb1.size
  simp at hz1
  have ha1 : w.heap.size < w1.heap.size := by omega
  replace hbw := hbw.trans (hb1.mono hbw.size)
  go_wp2_with fail
  refine (toChain_any row S _ _ HOK.out (HV.out.below hbw) hle).mono ?_
  rintro e w2 ⟨us2, rfl, hown2, hb2⟩
  obtain ⟨hc2, hf2⟩ := bcell hb2
  have hz2 := hb2.size
  have ha2 : w.heap.size < w2.heap.size := by omega
  replace hbw := hbw.trans (hb2.mono hbw.size)
  have R2 := Lib.hid (OwnVals.rep _ _ (fun _ => True) _ (fun _ _ => trivial) hown2)
  clear hown2
  go_wp2_with fail
  refine (specChainSize (nodesRow row + 1) row (Nat.lt_succ_self _) _ _ _ HOK.out R2.out hle).mono ?_
  rintro e w3 ⟨rfl, hb3⟩
  obtain ⟨hc3, hf3⟩ := bcell hb3
  have hz3 := hb3.size
  have ha3 : w.heap.size < w3.heap.size := by omega
  replace hbw := hbw.trans (hb3.mono hbw.size)
  go_wp2_with fail
  refine (toChain_any row S _ _ HOK.out (HV.out.below hbw) hle).mono ?_
  rintro e w4 ⟨us4, rfl, hown4, hb4⟩
  obtain ⟨hc4, hf4⟩ := bcell hb4
  have hz4 := hb4.size
  have ha4 : w.heap.size < w4.heap.size := by omega
  replace hbw := hbw.trans (hb4.mono hbw.size)
  have R4 := Lib.hid (OwnVals.rep _ _ (fun _ => True) _ (fun _ _ => trivial) hown4)
  have HONE := Lib.hid (okRow.one HOK.out R4.out)
  obtain ⟨y0, y1, y2, y3, y4, y5, y6, y7, y8, rfl⟩ := len9 (hown4.len.trans HOK.out.len)
  clear hown4
  go_wp2_with (refine wpList_store_new rfl 46 _ _ rfl _ _ _ rfl rfl [y0, y1, y2, y3, y4, y5, y6, y7, y8] rfl ic hci hcs rfl HONE.out ?_)
  have hbx := (Below.refl w4.heap.size w4).alloc (Nat.le_refl _) (.cells #[y0, y1, y2, y3, y4, y5, y6, y7, y8] 46)
  refine (implChainSize (nodesRow row + 1) row (Nat.lt_succ_self _) _ _ _ HOK.out (R4.out.below hbx) hle).mono ?_
  rintro e w5 ⟨rfl, hb5⟩
  obtain ⟨hc5, hf5⟩ := bcell hb5
  have hz5 := hb5.size
  simp at hz5
  have ha5 : w.heap.size < w5.heap.size := by omega
  have hd5 : w4.heap.size < w5.heap.size := by omega
  have hbx5 := hbx.trans (hb5.mono (by simp))
  replace hbw := hbw.trans (hbx5.mono hbw.size)
  go_wp2_with fail
  go_region_held3 (fun w' => ∀ b o, b < w5.heap.size → w'.cell? ⟨b, o, none⟩ = w5.cell? ⟨b, o, none⟩)
    (first | go_keep | exact fun b o h => hb6.cell (p := ⟨b, o, none⟩) h | exact fun b o h => (hb7.cell (p := ⟨b, o, none⟩) (Nat.lt_of_lt_of_le h hb6.size)).trans (hb6.cell (p := ⟨b, o, none⟩) h))
    (first
      | (go_at_call 18; refine (toChain_any row S _ _ HOK.out (HV.out.below hbw.drew) hle).mono ?_; rintro e w6 ⟨us6, rfl, hown6, hb6⟩)
      | (go_at_call 20; refine (eqChain_any row _ _ _ _ _ HOK.out (R4.out.below (hbx5.drew.trans (hb6.mono (show w4.heap.size ≤ w5.heap.size by omega)))) (OwnVals.rep _ _ (fun _ => True) _ (fun _ _ => trivial) hown6)).mono ?_; rintro e w7 ⟨rfl, hb7⟩))
  go_wp2
  go_ret
  exact ⟨rfl, (hbw.drew.trans (hb6.mono (show w.heap.size ≤ w5.heap.size by omega))).trans (hb7.mono (by have h6 : w5.heap.size ≤ w6.heap.size := hb6.size; omega))⟩
end Go.Proofs.Ytiglacjigkcgkaa
