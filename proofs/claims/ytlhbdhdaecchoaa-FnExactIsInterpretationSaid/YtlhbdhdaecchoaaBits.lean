/-
  Small sets of numbers as bits: the reference's l1In, l1Min, l2Bit, l2Has (walked).
-/
import Derived.Test.YtlhbdhdaecchoaaEnc
import Derived.Test.YtlhbdhdaecchoaaBase2
import Derived.Deep.RegionHeld3
import Derived.Deep.QuietTactic
import Derived.BigQuiet
set_option linter.unusedSimpArgs false
set_option linter.unusedVariables false
namespace Go.Proofs.Ytlhbdhdaecchoaa
open Go.RowKit

theorem wrap_i64 {n : Int} (h0 : 0 ≤ n) (h1 : n < 9223372036854775808) : IntKind.i64.wrap n = n := by
  simp [IntKind.wrap, IntKind.bits, IntKind.signed]
  omega
theorem bv_nat {a : Nat} (h : a < 18446744073709551616) : (BitVec.ofInt 64 (a : Int)).toNat = a := by
  rw [BitVec.toNat_ofInt]
  omega
theorem bits_or {a b : Nat} (ha : a < 4611686018427387904) (hb : b < 4611686018427387904) : bits .or .i64 (a : Int) (b : Int) = ((a ||| b : Nat) : Int) := by
  have h : a ||| b < 2 ^ 62 := Nat.or_lt_two_pow (by omega) (by omega)
  have e : (BitVec.ofInt IntKind.i64.bits (a : Int) ||| BitVec.ofInt IntKind.i64.bits (b : Int)).toNat = a ||| b := by
    rw [BitVec.toNat_or]
    show (BitVec.ofInt 64 (a : Int)).toNat ||| (BitVec.ofInt 64 (b : Int)).toNat = _
    rw [bv_nat (by omega), bv_nat (by omega)]
  unfold bits
  show IntKind.i64.wrap _ = _
  rw [e]
  exact wrap_i64 (by omega) (by omega)
theorem bits_and {a b : Nat} (ha : a < 4611686018427387904) (hb : b < 4611686018427387904) : bits .and .i64 (a : Int) (b : Int) = ((a &&& b : Nat) : Int) := by
  have h : a &&& b < 2 ^ 62 := Nat.and_lt_two_pow _ (by omega)
  have e : (BitVec.ofInt IntKind.i64.bits (a : Int) &&& BitVec.ofInt IntKind.i64.bits (b : Int)).toNat = a &&& b := by
    rw [BitVec.toNat_and]
    show (BitVec.ofInt 64 (a : Int)).toNat &&& (BitVec.ofInt 64 (b : Int)).toNat = _
    rw [bv_nat (by omega), bv_nat (by omega)]
  unfold bits
  show IntKind.i64.wrap _ = _
  rw [e]
  exact wrap_i64 (by omega) (by omega)
theorem pow_lt62 {k : Nat} (h : k < 62) : 2 ^ k < 4611686018427387904 := Nat.lt_of_lt_of_le (Nat.pow_lt_pow_right (by omega) h) (by omega)
theorem shl_one {k : Nat} (h : k < 62) : wrap64 (2 ^ k) = ((2 ^ k : Nat) : Int) := by
  have h1 := pow_lt62 h
  have e : (2 : Int) ^ k = ((2 ^ k : Nat) : Int) := by simp
  rw [e]
  generalize 2 ^ k = p at h1 ⊢
  unfold wrap64
  omega
theorem testBit_and (a k : Nat) : ((a &&& 2 ^ k) != 0) = a.testBit k := by
  cases h : a.testBit k
  · have : a &&& 2 ^ k = 0 := by
      apply Nat.eq_of_testBit_eq
      intro j
      rw [Nat.testBit_and, Nat.testBit_two_pow, Nat.zero_testBit]
      by_cases hj : k = j
      · subst hj; simp [h]
      · simp [hj]
    simp [this]
  · have : ¬ (a &&& 2 ^ k = 0) := by
      intro h0
      have h1 : (a &&& 2 ^ k).testBit k = true := by rw [Nat.testBit_and, Nat.testBit_two_pow]; simp [h]
      rw [h0, Nat.zero_testBit] at h1
      simp at h1
    simp [this]
theorem testBit_shr {a k : Nat} (ha : a < 4611686018427387904) : (bits .and .i64 ((a : Int) / 2 ^ k) 1 == 1) = a.testBit k := by
  have e : (a : Int) / 2 ^ k = ((a / 2 ^ k : Nat) : Int) := by simp
  have h1 : a / 2 ^ k ≤ a := Nat.div_le_self _ _
  have h2 : bits .and .i64 ((a / 2 ^ k : Nat) : Int) ((1 : Nat) : Int) = _ := bits_and (by omega) (by omega)
  rw [e]
  rw [show (1 : Int) = ((1 : Nat) : Int) from rfl, h2, Nat.testBit, Nat.shiftRight_eq_div_pow, Nat.and_comm]
  have h3 : 1 &&& a / 2 ^ k < 2 := by rw [Nat.one_and_eq_mod_two]; omega
  generalize 1 &&& a / 2 ^ k = x at h3 ⊢
  have : x = 0 ∨ x = 1 := by omega
  rcases this with rfl | rfl <;> rfl

theorem specIn (x lo hi : Int) (w : World) : Calls Try.prog 25 #[.int .i64 x, .int .i64 lo, .int .i64 hi] w fun e w' => e = .returned (.bool (decide (lo ≤ x ∧ x ≤ hi))) ∧ w = w' := by
  go_enter Try.func25, Try.ntmps25
  go_wp2
  all_goals
    go_ret
    exact ⟨ret_bool (by rw [Bool.eq_iff_iff]; simp; try omega), rfl⟩
theorem specMin (a b : Int) (w : World) : Calls Try.prog 77 #[.int .i64 a, .int .i64 b] w fun e w' => e = .returned (.int .i64 (min a b)) ∧ w = w' := by
  go_enter Try.func77, Try.ntmps77
  go_wp2
  all_goals
    go_ret
    exact ⟨ret_int (by omega), rfl⟩
theorem specBit (k : Nat) (hk : k < 62) (w : World) : Calls Try.prog 76 #[.int .i64 k] w fun e w' => e = .returned (.int .i64 ((2 ^ k : Nat) : Int)) ∧ w = w' := by
  go_enter Try.func76, Try.ntmps76
  go_wp2
  all_goals
    go_ret
    exact ⟨ret_int (shl_one hk), rfl⟩
theorem specHas (a k : Nat) (ha : a < 4611686018427387904) (hk : k < 16) (w : World) : Calls Try.prog 64 #[.int .i64 a, .int .i64 k] w fun e w' => e = .returned (.bool (a.testBit k)) ∧ w = w' := by
  go_enter Try.func64, Try.ntmps64
  go_wp2
  all_goals
    go_ret
    exact ⟨ret_bool (testBit_shr ha), rfl⟩
end Go.Proofs.Ytlhbdhdaecchoaa
