/-
  Valid sorts: the program's IsSorts (walked).
-/
import Derived.Test.YtlhbdhdaecchoaaUp
import Derived.Test.YtlhbdhdaecchoaaMap
import Derived.Test.YtlhbdhdaecchoaaName
set_option linter.unusedSimpArgs false
set_option linter.unusedVariables false
namespace Go.Proofs.Ytlhbdhdaecchoaa
open Go.RowKit

def SubOk (n : Nat) (p : Int × Int) : Prop := 0 ≤ p.1 ∧ p.1 < n ∧ 0 ≤ p.2 ∧ p.2 < n ∧ p.1 ≠ p.2
def NameOk (names : List ByteArray) (i : Nat) : Prop := ∀ x, names[i]? = some x → isName x = true ∧ hasStr (names.take i) x = false
def PairOk (u : List Nat) (i k : Nat) : Prop := ¬ (i ≠ k ∧ (u.getD i 0).testBit k = true ∧ (u.getD k 0).testBit i = true)
structure SortsOk (s : Srt) : Prop where
  n1 : 1 ≤ s.names.length
  n8 : s.names.length ≤ 8
  m16 : s.subs.length ≤ 16
  names : ∀ i, i < s.names.length → NameOk s.names i
  subs : ∀ p ∈ s.subs, SubOk s.names.length p
  pairs : ∀ i k, i < s.names.length → k < s.names.length → PairOk (up s) i k
open Classical in
noncomputable def isSorts (s : Srt) : Bool := decide (SortsOk s)
theorem isSorts_true {s : Srt} (h : SortsOk s) : isSorts s = true := by unfold isSorts; simp [h]
theorem isSorts_false {s : Srt} (h : ¬ SortsOk s) : isSorts s = false := by unfold isSorts; simp [h]
theorem isSorts_iff {s : Srt} : isSorts s = true ↔ SortsOk s := by unfold isSorts; simp
theorem SortsOk.subsIn {s : Srt} (h : ∀ p ∈ s.subs, SubOk s.names.length p) : SubsIn s.names.length s.subs := fun p hp => ⟨(h p hp).1, (h p hp).2.1, (h p hp).2.2.1, (h p hp).2.2.2.1⟩

theorem and_bit {x k : Nat} (hx : x < 4611686018427387904) (hk : k < 62) : (bits .and .i64 (x : Int) (wrap64 (2 ^ k)) != 0) = x.testBit k ∧ (bits .and .i64 (x : Int) (wrap64 (2 ^ k)) == 0) = !x.testBit k := by
  rw [shl_one hk, bits_and hx (pow_lt62 hk), ← testBit_and]
  generalize x &&& 2 ^ k = y
  constructor
  · rw [Bool.eq_iff_iff]
    simp
  · rw [Bool.eq_iff_iff]
    simp
theorem ne_int {i k : Nat} (h : i ≠ k) : ((i : Int) != (k : Int)) = true ∧ ((i : Int) == (k : Int)) = false := by
  have : (i : Int) ≠ (k : Int) := by omega
  simp [this]
theorem eq_int {i k : Nat} (h : i = k) : ((i : Int) != (k : Int)) = false ∧ ((i : Int) == (k : Int)) = true := by
  subst h
  simp
def sortsC (f : FuncId) : Prop := ∀ (s : Srt) (S : Nat → Prop) (us : List Value) (w : World), okSrt s → RepVals w S (encSrt s) us →
  Calls Try.prog f #[.agg us.toArray] w fun e w' => e = .returned (.bool (isSorts s)) ∧ Below w.heap.size w w'
theorem zero_bool (w : World) : (zeroValue 4).run Try.prog w = .ok (.bool false) w := by kernel_rfl
set_option maxHeartbeats 2000000 in
set_option maxRecDepth 100000 in
theorem implIsSorts : sortsC 68 := by
  intro s S us w hok hv
  obtain ⟨names, subs⟩ := s
  have hv0 := hv
  simp only [encSrt] at hv
  obtain ⟨v0, v1, rfl, e0, e1⟩ := repVals_Sorts hv
  obtain ⟨A0, cap0, rfl, hc0, hm0⟩ := e0.shape
  obtain ⟨A1, cap1, rfl, hc1, hm1⟩ := e1.shape
  obtain ⟨ic, hci, _, hcs, _⟩ := info_parts info_Sub'
  have HOK := Lib.hid hok
  have HV0 := Lib.hid hv0
  have E0 := Lib.hid e0
  have E1 := Lib.hid e1
  have HT := Lib.hid (isSorts_true (s := ⟨names, subs⟩))
  have HF := Lib.hid (isSorts_false (s := ⟨names, subs⟩))
  clear hv hv0 e0 e1 hok
  generalize hN : names.length = n at *
  generalize hM : subs.length = m at *
  have HN := Lib.hid hN
  have HM := Lib.hid hM
  clear hM hN
  unfold maxLen at hm0 hm1
  by_cases h1 : n < 1 ∨ 8 < n ∨ 16 < m
  · have HR : Hid (isSorts ⟨names, subs⟩ = false) := HF.out (fun h => by
      have := h.n1; have := h.n8; have := h.m16
      have := HN.out; have := HM.out
      simp only at *
      omega)
    rcases h1 with h1 | h1 | h1 <;>
    · go_enter Try.func68, Try.ntmps68
      go_wp2
      all_goals (go_ret; exact ⟨ret_bool HR.out.symm, (Below.refl _ _).alloc (Nat.le_refl _) _⟩)
  have hn1 : 1 ≤ n := by omega
  have hn8 : n ≤ 8 := by omega
  have hm16 : m ≤ 16 := by omega
  clear h1
  go_enter Try.func68, Try.ntmps68
  have hmm := @run_makeMap Try.prog
  go_wp2
  clear hmm
  generalize hW : w.alloc _ = W
  have hbW : Below w.heap.size w W := by rw [← hW]; exact (Below.refl _ _).alloc (Nat.le_refl _) _
  have p0 : W.cell? ⟨w.heap.size, 0, none⟩ = some (.slice A0 n cap0) := by rw [← hW]; simp
  have p1 : W.cell? ⟨w.heap.size, 1, none⟩ = some (.slice A1 m cap1) := by rw [← hW]; simp
  have z1 : w.heap.size + 1 = W.heap.size := by rw [← hW]; simp
  clear hW
  rw [z1]
  go_loopw [31] (fun i wr => ∃ k : Nat, k ≤ n ∧ i = .int .i64 k ∧ (∀ j, j < k → NameOk names j) ∧ Seen wr W.heap.size (names.take k) ∧ Below W.heap.size W wr) (fun i _ => n - (intOf i).toNat)
  case atStart => exact ⟨0, Nat.zero_le _, rfl, fun j hj => absurd hj (by omega), Seen.made W, (Below.refl _ _).alloc (Nat.le_refl _) _⟩
  case round =>
    obtain ⟨k, hk, rfl, hnames, hseen, hb⟩ := hrel
    have HNM := Lib.hid hnames
    have HSN := Lib.hid hseen
    clear hnames hseen
    by_cases hkn : k < n
    · obtain ⟨x, hx⟩ : ∃ x, names[k]? = some x := ⟨_, List.getElem?_eq_getElem (by have := HN.out; omega)⟩
      obtain ⟨b, off, rfl, hS, hbz, hrow⟩ := Rep.at okStrR HOK.out.1 (E0.out.below (hbW.trans (hb.mono hbW.size))) hx
      simp only [encStr, RepRow, and_true, fieldsOf, List.length_cons, List.length_nil, Nat.reduceAdd, Rep.lit_iff, Nat.zero_add, Nat.mul_one] at hrow
      obtain ⟨_, c0, rfl⟩ := hrow
      have HX := Lib.hid hx
      have HXS := Lib.hid (HOK.out.1 x (List.mem_of_getElem? hx))
      clear hx
      have hlk := run_seen HSN.out Try.underlying99 Try.underlying9 (zero_bool wr) x
      cases hh : hasStr (names.take k) x
      · rw [hh] at hlk
        cases hin : isName x
        · have HR : Hid (isSorts ⟨names, subs⟩ = false) := HF.out (fun h => by have := (h.names k (by have := HN.out; simp only; omega) x HX.out).1; rw [hin] at this; cases this)
          have HIN := Lib.hid hin
          clear hh hin
          go_wp2_with (go_at_call 53; refine (implIsName x HXS.out _).mono ?_; rw [HIN.out]; rintro e w2 ⟨rfl, rfl⟩)
          go_ret
          exact ⟨ret_bool HR.out.symm, hbW.trans (hb.mono hbW.size)⟩
        · obtain ⟨w', hup, hseen', hbel, hsz, hoth⟩ := run_see HSN.out Try.underlying99 Try.underlying9 hh
          have HIN := Lib.hid hin
          have HH := Lib.hid hh
          have HO := Lib.hid hoth
          have HS' := Lib.hid hseen'
          clear hh hin hoth hseen'
          go_wp2_with (go_at_call 53; refine (implIsName x HXS.out _).mono ?_; rw [HIN.out]; rintro e w2 ⟨rfl, rfl⟩)
          go_roundw
          case rel =>
            refine ⟨k + 1, by omega, by go_num, fun j hj => ?_, ?_, hb.trans hbel⟩
            · by_cases hjk : j < k
              · exact HNM.out j hjk
              · obtain rfl : j = k := by omega
                intro y hy
                rw [HX.out] at hy
                injection hy with hy
                subst hy
                exact ⟨HIN.out, HH.out⟩
            · rw [take_snoc HX.out]
              exact HS'.out
          case measure => simp [intOf]; omega
      · rw [hh] at hlk
        have HR : Hid (isSorts ⟨names, subs⟩ = false) := HF.out (fun h => by have := (h.names k (by have := HN.out; simp only; omega) x HX.out).2; rw [hh] at this; cases this)
        clear hh
        go_wp2
        go_ret
        exact ⟨ret_bool HR.out.symm, hbW.trans (hb.mono hbW.size)⟩
    · obtain rfl : n = k := by omega
      have pw := (hb.cell (p := ⟨w.heap.size, 1, none⟩) (show w.heap.size < W.heap.size by omega)).trans p1
      have hb1 := hb
      go_wp2
      clear hb pw
      go_loopw [49] (fun i wr => ∃ k : Nat, k ≤ m ∧ i = .int .i64 k ∧ (∀ j, j < k → ∀ p, subs[j]? = some p → SubOk n p) ∧ Below W.heap.size W wr) (fun i _ => m - (intOf i).toNat)
      case atStart => exact ⟨0, Nat.zero_le _, rfl, fun j hj => absurd hj (by omega), hb1⟩
      case round =>
        obtain ⟨k, hk, rfl, hsubs, hb⟩ := hrel
        have HSB := Lib.hid hsubs
        clear hsubs
        by_cases hkm : k < m
        · obtain ⟨p, hp⟩ : ∃ p, subs[k]? = some p := ⟨_, List.getElem?_eq_getElem (by have := HM.out; omega)⟩
          obtain ⟨b, off, rfl, hS, hbz, hrow⟩ := Rep.at okSubR HOK.out.2 (E1.out.below (hbW.trans (hb.mono hbW.size))) hp
          obtain ⟨lo, hi'⟩ := p
          simp only [encSub, RepRow, and_true, fieldsOf, List.length_cons, List.length_nil, Nat.reduceAdd, Rep.lit_iff] at hrow
          obtain ⟨⟨_, c0, rfl⟩, ⟨_, c1, rfl⟩⟩ := hrow
          have HP := Lib.hid hp
          clear hp
          by_cases hsub : SubOk n (lo, hi')
          · have HS := Lib.hid hsub
            obtain ⟨s0, s1, s2, s3, s4⟩ := hsub
            simp only at s0 s1 s2 s3 s4
            have s5 : (lo == hi') = false := by simpa using s4
            clear s4
            go_wp2_with (refine wpList_store_new rfl 110 _ _ rfl _ _ _ rfl _ rfl (by simp) [.int .i64 lo, .int .i64 hi'] rfl ic hci hcs rfl (by simp [Value.oneCell']) ?_)
            go_roundw
            case rel =>
              refine ⟨k + 1, by omega, by go_num, fun j hj q hq => ?_, hb.alloc hb.size _⟩
              by_cases hjk : j < k
              · exact HSB.out j hjk q hq
              · obtain rfl : j = k := by omega
                rw [HP.out] at hq
                injection hq with hq
                subst hq
                exact HS.out
            case measure => simp [intOf]; omega
          · have HR : Hid (isSorts ⟨names, subs⟩ = false) := HF.out (fun h => hsub (by have := h.subs (lo, hi') (List.mem_of_getElem? HP.out); rw [← HN.out]; exact this))
            have HS : Hid (¬ SubOk n (lo, hi')) := hsub
            clear hsub
            go_wp2_with (refine wpList_store_new rfl 110 _ _ rfl _ _ _ rfl _ rfl (by simp) [.int .i64 lo, .int .i64 hi'] rfl ic hci hcs rfl (by simp [Value.oneCell']) ?_)
            all_goals first
              | (go_ret; exact ⟨ret_bool HR.out.symm, hbW.trans ((hb.alloc hb.size _).mono hbW.size)⟩)
              | (exfalso; apply HS.out; unfold SubOk; simp at *; omega)
        · have HSUB : Hid (∀ p ∈ subs, SubOk n p) := fun p hp => by
            obtain ⟨j, hj, e⟩ := List.getElem_of_mem hp
            exact HSB.out j (by have := HM.out; omega) p (by rw [List.getElem?_eq_getElem hj, e])
          clear HSB
          have pw0 := (hb.cell (p := ⟨w.heap.size, 0, none⟩) (show w.heap.size < W.heap.size by omega)).trans p0
          have pw1 := (hb.cell (p := ⟨w.heap.size, 1, none⟩) (show w.heap.size < W.heap.size by omega)).trans p1
          go_wp2_with fail
          refine (implSortsAbove ⟨names, subs⟩ S _ _ HOK.out (HV0.out.below (hbW.trans (hb.mono hbW.size))) (by have := HN.out; simp only; omega) (by have := HN.out; simp only; omega) (SortsOk.subsIn (s := ⟨names, subs⟩) (by have := HN.out; simp only; rw [this]; exact HSUB.out))).mono ?_
          rintro e w2 ⟨v, rfl, hI, hb2⟩
          have HUP := Lib.hid (up_ok (s := ⟨names, subs⟩) (SortsOk.subsIn (s := ⟨names, subs⟩) (by have := HN.out; simp only; rw [this]; exact HSUB.out)))
          rw [show (⟨names, subs⟩ : Srt).names.length = n from HN.out] at HUP
          have HT' : Hid ((∀ i k, i < n → k < n → PairOk (up ⟨names, subs⟩) i k) → isSorts ⟨names, subs⟩ = true) := fun h => HT.out ⟨by have := HN.out; simp only; omega, by have := HN.out; simp only; omega, by have := HM.out; simp only; omega, by have := HN.out; simp only; rw [this]; exact HNM.out, by have := HN.out; simp only; rw [this]; exact HSUB.out, by have := HN.out; simp only; rw [this]; exact h⟩
          have HF' : Hid ((∃ i k, i < n ∧ k < n ∧ ¬ PairOk (up ⟨names, subs⟩) i k) → isSorts ⟨names, subs⟩ = false) := fun ⟨i, k, hi, hk, hp⟩ => HF.out (fun h => hp (h.pairs i k (by have := HN.out; simp only; omega) (by have := HN.out; simp only; omega)))
          generalize up ⟨names, subs⟩ = u at hI HUP HT' HF'
          have hwb : Below w.heap.size w w2 := hbW.trans ((hb.trans (hb2.mono hb.size)).mono hbW.size)
          obtain ⟨A, cap, rfl, hcc, hmm, hA⟩ := hI.form
          rw [casts_len, HUP.out.1] at hA hcc
          obtain ⟨g, rfl, hg1, hg2⟩ := hA (by omega)
          have HI : Hid (Ints w2 wr.heap.size (Value.slice (some { block := g, off := 0 }) n cap) (casts u)) := by rw [casts_len, HUP.out.1] at hI; exact hI
          rw [casts_len, HUP.out.1]
          clear hI hA HT HF HSN HNM HSUB HV0 E0 E1 pw0 pw1
          unfold maxLen at hmm
          have hb256 : 2 ^ n ≤ 2 ^ 8 := Nat.pow_le_pow_right (by omega) hn8
          have HC : Hid (∀ i, i < n → w2.cell? ⟨g, i, none⟩ = some (.int .i64 ((u.getD i 0 : Nat) : Int)) ∧ u.getD i 0 < 4611686018427387904) := fun i hi => by
            obtain ⟨q1, q2⟩ := HUP.out.get hi
            exact ⟨HI.out.cell (casts_get q1), by omega⟩
          clear hb256
          go_wp2
          go_loopw [85] (fun i wx => ∃ j : Nat, j ≤ n ∧ i = .int .i64 j ∧ (∀ a k, a < j → k < n → PairOk u a k) ∧ Below w2.heap.size w2 wx) (fun i _ => n - (intOf i).toNat)
          case atStart => exact ⟨0, Nat.zero_le _, rfl, fun a k h => absurd h (by omega), Below.refl _ _⟩
          case round =>
            obtain ⟨j, hj, rfl, hpairs, hbx⟩ := hrel
            have HPA := Lib.hid hpairs
            clear hpairs
            by_cases hjn : j < n
            · go_wp2
              have hbx0 := hbx
              clear hbx
              go_loopw [90] (fun i wx => ∃ k : Nat, k ≤ n ∧ i = .int .i64 k ∧ (∀ q, q < k → PairOk u j q) ∧ Below w2.heap.size w2 wx) (fun i _ => n - (intOf i).toNat)
              case atStart => exact ⟨0, Nat.zero_le _, rfl, fun q h => absurd h (by omega), hbx0⟩
              case round =>
                obtain ⟨k, hk, rfl, hpk, hbx⟩ := hrel
                have HPK := Lib.hid hpk
                clear hpk
                by_cases hkn : k < n
                · obtain ⟨c0, x0⟩ := HC.out j hjn
                  obtain ⟨c1, x1⟩ := HC.out k hkn
                  have d0 := (hbx.cell (p := ⟨g, j, none⟩) hg2).trans c0
                  have d1 := (hbx.cell (p := ⟨g, k, none⟩) hg2).trans c1
                  obtain ⟨f0, f0'⟩ := and_bit (k := k) x0 (by omega)
                  obtain ⟨f1, f1'⟩ := and_bit (k := j) x1 (by omega)
                  have HP : Hid (PairOk u j k ↔ ¬ (j ≠ k ∧ (u.getD j 0).testBit k = true ∧ (u.getD k 0).testBit j = true)) := Iff.rfl
                  have HF2 : Hid (¬ PairOk u j k → isSorts ⟨names, subs⟩ = false) := fun h => HF'.out ⟨j, k, hjn, hkn, h⟩
                  clear c0 c1 x0 x1
                  have HNX : Hid (PairOk u j k → ∀ q, q < k + 1 → PairOk u j q) := fun h q hq => by
                    by_cases hqk : q < k
                    · exact HPK.out q hqk
                    · obtain rfl : q = k := by omega
                      exact h
                  generalize u.getD j 0 = x at *
                  generalize u.getD k 0 = y at *
                  by_cases hjk : j = k
                  · obtain ⟨n0, n1⟩ := eq_int hjk
                    have HO : Hid (PairOk u j k) := HP.out.2 (fun h => h.1 hjk)
                    clear hjk f0 f0' f1 f1'
                    go_wp2_with fail
                    go_quiet (fail)
                    go_wp2
                    go_roundw
                    case rel => exact ⟨k + 1, by omega, by go_num, HNX.out HO.out, below_drewN hbx _⟩
                    case measure => simp [intOf]; omega
                  obtain ⟨n0, n1⟩ := ne_int hjk
                  cases hA1 : x.testBit k
                  · rw [hA1] at f0 f0'
                    have HO : Hid (PairOk u j k) := HP.out.2 (fun h => by rw [hA1] at h; exact absurd h.2.1 (by simp))
                    clear hjk hA1 f1 f1'
                    go_wp2_with fail
                    go_quiet (fail)
                    go_wp2
                    go_roundw
                    case rel => exact ⟨k + 1, by omega, by go_num, HNX.out HO.out, below_drewN hbx _⟩
                    case measure => simp [intOf]; omega
                  cases hA2 : y.testBit j
                  · rw [hA1] at f0 f0'
                    rw [hA2] at f1 f1'
                    have HO : Hid (PairOk u j k) := HP.out.2 (fun h => by rw [hA2] at h; exact absurd h.2.2 (by simp))
                    clear hjk hA1 hA2
                    go_wp2_with fail
                    go_quiet (fail)
                    go_wp2
                    go_roundw
                    case rel => exact ⟨k + 1, by omega, by go_num, HNX.out HO.out, below_drewN hbx _⟩
                    case measure => simp [intOf]; omega
                  · rw [hA1] at f0 f0'
                    rw [hA2] at f1 f1'
                    have HO : Hid (isSorts ⟨names, subs⟩ = false) := HF2.out (fun h => HP.out.1 h ⟨hjk, hA1, hA2⟩)
                    clear hjk hA1 hA2
                    go_wp2_with fail
                    go_quiet (fail)
                    go_wp2
                    go_ret
                    exact ⟨ret_bool HO.out.symm, hwb.trans ((below_drewN hbx _).mono hwb.size)⟩
                · have HNX : Hid (∀ a k, a < j + 1 → k < n → PairOk u a k) := fun a q ha hq => by
                    by_cases haj : a < j
                    · exact HPA.out a q haj hq
                    · obtain rfl : a = j := by omega
                      exact HPK.out q (by omega)
                  go_wp2
                  go_roundw
                  case rel => exact ⟨j + 1, by omega, by go_num, HNX.out, hbx⟩
                  case measure => simp [intOf]; omega
            · obtain rfl : n = j := by omega
              have HO := Lib.hid (HT'.out (fun i k hi hk => HPA.out i k hi hk))
              go_wp2
              go_ret
              exact ⟨ret_bool HO.out.symm, hwb.trans (hbx.mono hwb.size)⟩
end Go.Proofs.Ytlhbdhdaecchoaa
