/-
  Names: the program's IsName and the reference's (walked).
-/
import Derived.Test.YtlhbdhdaecchoaaEnc
import Derived.Test.YtlhbdhdaecchoaaBase2
import Derived.Deep.RegionHeld3
import Derived.Deep.QuietTactic
import Derived.BigQuiet
set_option linter.unusedSimpArgs false
set_option linter.unusedVariables false
namespace Go.Proofs.Ytlhbdhdaecchoaa
open Go.RowKit

def nameB (n : Int) : Bool := decide (48 ≤ n ∧ n ≤ 57) || decide (65 ≤ n ∧ n ≤ 90) || decide (97 ≤ n ∧ n ≤ 122)
set_option maxHeartbeats 1000000 in
theorem implNameByte (n : Int) (w : World) : Calls Try.prog 71 #[.int .u8 n] w fun e w' => e = .returned (.bool (nameB n)) ∧ w = w' := by
  go_enter Try.func71, Try.ntmps71
  go_wp2
  all_goals
    go_ret
    exact ⟨ret_bool (by unfold nameB; rw [Bool.eq_iff_iff]; simp; try omega), rfl⟩
def byteAt (s : ByteArray) (i : Nat) : Int := if h : i < s.size then (s[i].toNat : Int) else 0
def nameFrom (s : ByteArray) (k : Nat) : Bool := (List.range' k (s.size - k)).all (fun i => nameB (byteAt s i) && !(i == 0 && decide (byteAt s i ≤ 57)))
def isName (s : ByteArray) : Bool := decide (1 ≤ s.size ∧ s.size ≤ 12) && !(s.toList == [105, 102]) && !(s.toList == [97, 110, 100]) && nameFrom s 0
theorem nameFrom_step {s : ByteArray} {k : Nat} (h : k < s.size) : nameFrom s k = ((nameB (s[k].toNat : Int) && !(k == 0 && decide ((s[k].toNat : Int) ≤ 57))) && nameFrom s (k + 1)) := by
  have eb : byteAt s k = (s[k].toNat : Int) := by unfold byteAt; rw [dif_pos h]
  rw [← eb]
  unfold nameFrom
  have e : s.size - k = (s.size - (k + 1)) + 1 := by omega
  rw [e, List.range'_succ, List.all_cons]
theorem nameFrom_end {s : ByteArray} {k : Nat} (h : s.size ≤ k) : nameFrom s k = true := by
  unfold nameFrom
  have e : s.size - k = 0 := by omega
  rw [e]
  rfl
theorem isName_bad {s : ByteArray} (h : s.size < 1 ∨ 12 < s.size ∨ s.toList = [105, 102] ∨ s.toList = [97, 110, 100]) : isName s = false := by
  unfold isName
  rcases h with h | h | h | h
  · have : ¬ (1 ≤ s.size ∧ s.size ≤ 12) := by omega
    simp [this]
  · have : ¬ (1 ≤ s.size ∧ s.size ≤ 12) := by omega
    simp [this]
  · simp [h]
  · simp [h]
set_option maxHeartbeats 1000000 in
theorem implIsName (s : ByteArray) (hs : s.size ≤ maxLen) (w : World) : Calls Try.prog 53 #[.string s] w fun e w' => e = .returned (.bool (isName s)) ∧ w = w' := by
  unfold maxLen at hs
  by_cases h0 : s.size < 1 ∨ 12 < s.size ∨ s.toList = [105, 102] ∨ s.toList = [97, 110, 100]
  · have HF := Lib.hid (isName_bad h0)
    have h0' : s.size < 1 ∨ 12 < s.size ∨ (s.toList == [105, 102]) = true ∨ (s.toList == [97, 110, 100]) = true := by simpa using h0
    clear h0
    rcases h0' with h | h | h | h <;>
    · go_enter Try.func53, Try.ntmps53
      go_wp2
      all_goals (go_ret; exact ⟨ret_bool HF.out.symm, rfl⟩)
  have h1 : 1 ≤ s.size := by omega
  have h2 : s.size ≤ 12 := by omega
  have h3 : (s.toList == [105, 102]) = false := by simp; intro h; exact h0 (.inr (.inr (.inl h)))
  have h4 : (s.toList == [97, 110, 100]) = false := by simp; intro h; exact h0 (.inr (.inr (.inr h)))
  have HF : Hid (isName s = nameFrom s 0) := by
    show isName s = _
    unfold isName
    simp [h1, h2, h3, h4]
  clear h0 
  go_enter Try.func53, Try.ntmps53
  go_wp2
  go_loopw [3] (fun i wr => ∃ k : Nat, k ≤ s.size ∧ i = .int .i64 k ∧ nameFrom s 0 = nameFrom s k ∧ w = wr) (fun i _ => s.size - (intOf i).toNat)
  case atStart => exact ⟨0, Nat.zero_le _, rfl, rfl, rfl⟩
  case round =>
    obtain ⟨k, hk, rfl, hz, rfl⟩ := hrel
    have HZ := Lib.hid hz
    clear hz
    by_cases hkm : k < s.size
    · have HS := Lib.hid (nameFrom_step hkm)
      go_wp2_with fail
      refine (implNameByte _ _).mono ?_
      rintro e w2 ⟨rfl, rfl⟩
      generalize nameB (s[k].toNat : Int) = B at HS ⊢
      cases B
      · go_wp2
        go_ret
        exact ⟨ret_bool (by rw [HF.out, HZ.out, HS.out]; rfl), rfl⟩
      · by_cases hk0 : k = 0
        · have hk1 : ((k : Int) == 0) = true := by simp; exact hk0
          have HK : Hid ((k == 0) = true) := by show _ = _; simpa using hk0
          clear hk0
          by_cases h9 : (s[k].toNat : Int) ≤ 57
          · go_wp2
            go_ret
            exact ⟨ret_bool (by rw [HF.out, HZ.out, HS.out, HK.out, decide_eq_true h9]; rfl), rfl⟩
          · go_wp2
            go_roundw
            case rel => exact ⟨k + 1, by omega, by go_num, by rw [HZ.out, HS.out, HK.out, decide_eq_false (by omega)]; simp, trivial⟩
            case measure => simp [intOf]; omega
        · have hk1 : ((k : Int) == 0) = false := by simp; exact hk0
          have HK : Hid ((k == 0) = false) := by show _ = _; simpa using hk0
          go_wp2
          go_roundw
          case rel => exact ⟨k + 1, by omega, by go_num, by rw [HZ.out, HS.out, HK.out]; simp, trivial⟩
          case measure => simp [intOf]; omega
    · go_wp2
      go_ret
      exact ⟨ret_bool (by rw [HF.out, HZ.out, nameFrom_end (by omega)]), rfl⟩

set_option maxHeartbeats 2000000 in
theorem specIsName (s : ByteArray) (hs : s.size ≤ maxLen) (w : World) : Calls Try.prog 45 #[.string s] w fun e w' => e = .returned (.bool (isName s)) ∧ w = w' := by
  unfold maxLen at hs
  by_cases h0 : s.size < 1 ∨ 12 < s.size ∨ s.toList = [105, 102] ∨ s.toList = [97, 110, 100]
  · have HF := Lib.hid (isName_bad h0)
    have h0' : s.size < 1 ∨ 12 < s.size ∨ (s.toList == [105, 102]) = true ∨ (s.toList == [97, 110, 100]) = true := by simpa using h0
    clear h0
    rcases h0' with h | h | h | h <;>
    · go_enter Try.func45, Try.ntmps45
      go_wp2
      all_goals (go_ret; exact ⟨ret_bool HF.out.symm, rfl⟩)
  have h1 : 1 ≤ s.size := by omega
  have h2 : s.size ≤ 12 := by omega
  have h3 : (s.toList == [105, 102]) = false := by simp; intro h; exact h0 (.inr (.inr (.inl h)))
  have h4 : (s.toList == [97, 110, 100]) = false := by simp; intro h; exact h0 (.inr (.inr (.inr h)))
  have HF : Hid (isName s = nameFrom s 0) := by
    show isName s = _
    unfold isName
    simp [h1, h2, h3, h4]
  have HS0 := Lib.hid (nameFrom_step (s := s) (k := 0) h1)
  clear h0 
  by_cases hfirst : (97 ≤ (s[0].toNat : Int) ∧ (s[0].toNat : Int) ≤ 122) ∨ (65 ≤ (s[0].toNat : Int) ∧ (s[0].toNat : Int) ≤ 90)
  case neg =>
    have HG : Hid (isName s = false) := by
      show isName s = false
      rw [HF.out, HS0.out]
      have : (nameB (s[0].toNat : Int) && !(0 == 0 && decide ((s[0].toNat : Int) ≤ 57))) = false := by
        unfold nameB
        rw [← Bool.not_eq_true]
        simp
        omega
      rw [this]
      rfl
    go_enter Try.func45, Try.ntmps45
    go_wp2
    all_goals first
      | (go_ret; exact ⟨ret_bool HG.out.symm, rfl⟩)
      | (exfalso; simp at *; omega)
  rcases hfirst with ⟨f1, f2⟩ | ⟨f1, f2⟩ <;>
  · go_enter Try.func45, Try.ntmps45
    go_wp2
    go_loopw [3] (fun i wr => ∃ k : Nat, k ≤ s.size ∧ i = .int .i64 k ∧ nameFrom s 0 = nameFrom s k ∧ w = wr) (fun i _ => s.size - (intOf i).toNat)
    case atStart => exact ⟨0, Nat.zero_le _, rfl, rfl, rfl⟩
    case round =>
      obtain ⟨k, hk, rfl, hz, rfl⟩ := hrel
      have HZ := Lib.hid hz
      clear hz
      by_cases hkm : k < s.size
      · have HS := Lib.hid (nameFrom_step hkm)
        cases hB : nameB (s[k].toNat : Int)
        · have HS' : Hid (isName s = false) := by show _ = _; rw [HF.out, HZ.out, HS.out, hB]; rfl
          have HB := Lib.hid hB
          clear hB HS
          go_wp2
          all_goals first
            | (go_ret; exact ⟨ret_bool HS'.out.symm, rfl⟩)
            | (exfalso; have := HB.out; unfold nameB at this; simp at *; omega)
        · have HS' : Hid (nameFrom s k = nameFrom s (k + 1)) := by
            show _ = _
            rw [HS.out, hB]
            by_cases hk0 : k = 0
            · subst hk0
              have : ¬ ((s[0].toNat : Int) ≤ 57) := by omega
              rw [decide_eq_false this]
              rfl
            · have : (k == 0) = false := by simpa using hk0
              rw [this]
              rfl
          have HB : ((s[k].toNat : Int) < 65 ∧ 48 ≤ (s[k].toNat : Int) ∧ (s[k].toNat : Int) ≤ 57) ∨ ((s[k].toNat : Int) < 97 ∧ 65 ≤ (s[k].toNat : Int) ∧ (s[k].toNat : Int) ≤ 90) ∨ (97 ≤ (s[k].toNat : Int) ∧ (s[k].toNat : Int) ≤ 122) := by
            unfold nameB at hB
            simp at hB
            omega
          clear hB HS
          rcases HB with ⟨b0, b1, b2⟩ | ⟨b0, b1, b2⟩ | ⟨b1, b2⟩ <;>
          · go_wp2
            go_roundw
            case rel => exact ⟨k + 1, by omega, by go_num, by rw [HZ.out, HS'.out], trivial⟩
            case measure => simp [intOf]; omega
      · go_wp2
        go_ret
        exact ⟨ret_bool (by rw [HF.out, HZ.out, nameFrom_end (by omega)]), rfl⟩
end Go.Proofs.Ytlhbdhdaecchoaa