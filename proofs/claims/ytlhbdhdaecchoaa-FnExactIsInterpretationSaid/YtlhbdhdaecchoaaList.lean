/-
  The elements of a small set: the program's ListOf (walked).
-/
import Derived.Test.YtlhbdhdaecchoaaUp
set_option linter.unusedSimpArgs false
set_option linter.unusedVariables false
namespace Go.Proofs.Ytlhbdhdaecchoaa
open Go.RowKit

theorem implIsSet (n : Int) (w : World) : Calls Try.prog 79 #[.int .i64 n] w fun e w' => e = .returned (.bool (decide (0 ≤ n ∧ n ≤ 65535))) ∧ w = w' := by
  go_enter Try.func79, Try.ntmps79
  go_wp2
  all_goals
    go_ret
    exact ⟨ret_bool (by rw [Bool.eq_iff_iff]; simp; try omega), rfl⟩
def bitsTo (a k : Nat) : List Nat := (List.range k).filter (fun j => a.testBit j)
def listOf (a : Nat) : List Nat := bitsTo a 16
theorem bitsTo_yes {a k : Nat} (h : a.testBit k = true) : bitsTo a (k + 1) = bitsTo a k ++ [k] := by simp [bitsTo, List.range_succ, List.filter_append, h]
theorem bitsTo_no {a k : Nat} (h : a.testBit k = false) : bitsTo a (k + 1) = bitsTo a k := by simp [bitsTo, List.range_succ, List.filter_append, h]
theorem bitsTo_len (a k : Nat) : (bitsTo a k).length ≤ k := by
  have := List.length_filter_le (fun j => a.testBit j) (List.range k)
  simpa [bitsTo] using this
theorem and_bit0 {x k : Nat} (hx : x < 4611686018427387904) (hk : k < 62) : (bits .and .i64 (x : Int) (wrap64 (2 ^ k)) != 0) = x.testBit k ∧ (bits .and .i64 (x : Int) (wrap64 (2 ^ k)) == 0) = !x.testBit k := by
  rw [shl_one hk, bits_and hx (pow_lt62 hk), ← testBit_and]
  generalize x &&& 2 ^ k = y
  constructor
  · rw [Bool.eq_iff_iff]
    simp
  · rw [Bool.eq_iff_iff]
    simp
set_option maxHeartbeats 1000000 in
set_option maxRecDepth 100000 in
theorem implListOf (a : Nat) (ha : a < 65536) (w : World) : Calls Try.prog 70 #[.int .i64 a] w fun e w' => ∃ v, e = .returned v ∧ Ints w' w.heap.size v (casts (listOf a)) ∧ Below w.heap.size w w' := by
  obtain ⟨i0, hi, hz0, hz1, hz2⟩ := info_parts info_Int
  have HC : Hid (∀ w, Calls Try.prog 79 #[.int .i64 a] w fun e w' => e = .returned (.bool true) ∧ w = w') := fun w => by
    have := implIsSet a w
    rw [decide_eq_true (by omega)] at this
    exact this
  go_enter Try.func70, Try.ntmps70
  go_wp2
  go_loopw [3, 4] (fun v i wr => ∃ k : Nat, k ≤ 16 ∧ i = .int .i64 k ∧ Ints wr w.heap.size v (casts (bitsTo a k)) ∧ Below w.heap.size w wr) (fun _ i _ => 16 - (intOf i).toNat)
  case atStart => exact ⟨0, Nat.zero_le _, rfl, Ints.empty w, (Below.refl _ _).alloc (Nat.le_refl _) _⟩
  case round =>
    obtain ⟨k, hk, rfl, hI, hb⟩ := hrel
    have HI := Lib.hid hI
    clear hI
    by_cases hkn : k < 16
    · obtain ⟨f0, f1⟩ := and_bit0 (x := a) (k := k) (by omega) (by omega)
      have hlen := bitsTo_len a k
      cases ht : a.testBit k
      · have HT := Lib.hid ht
        rw [ht] at f0 f1
        clear ht
        go_wp2_with (go_at_call 79; refine (HC.out _).mono ?_; rintro e w2 ⟨rfl, rfl⟩)
        go_roundw
        case rel => exact ⟨k + 1, by omega, by go_num, by rw [bitsTo_no HT.out]; exact HI.out, hb⟩
        case measure => simp [intOf]; omega
      · have HT := Lib.hid ht
        rw [ht] at f0 f1
        clear ht
        go_wp2_with (first
          | (go_at_call 79; refine (HC.out _).mono ?_; rintro e w2 ⟨rfl, rfl⟩)
          | (at_builtin; refine wpList_app_int rfl _ _ 59 rfl i0 Try.underlying59 hi hz0 hz1 hz2 w.heap.size _ _ rfl _ _ _ rfl HI.out rfl (by rw [casts_len]; omega) hb.size ?_; intro v' w1 hI1 hB1))
        go_roundw
        case rel => exact ⟨k + 1, by omega, by go_num, by rw [bitsTo_yes HT.out, casts_snoc]; exact hI1, hb.trans (hB1 _ (Nat.le_refl _))⟩
        case measure => simp [intOf]; omega
    · obtain rfl : k = 16 := by omega
      go_wp2_with (go_at_call 79; refine (HC.out _).mono ?_; rintro e w2 ⟨rfl, rfl⟩)
      go_ret
      exact ⟨_, rfl, HI.out, hb⟩
end Go.Proofs.Ytlhbdhdaecchoaa
