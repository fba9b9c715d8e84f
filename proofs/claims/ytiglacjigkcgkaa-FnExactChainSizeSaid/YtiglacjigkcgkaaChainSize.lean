/-
  The size of a chain: the program's function and the reference's return the same number.
-/
import Derived.Test.YtiglacjigkcgkaaLChain
import Derived.Test.YtiglacjigkcgkaaBase2
set_option linter.unusedSimpArgs false
set_option linter.unusedVariables false
namespace Go.Proofs.Ytiglacjigkcgkaa
open Go.RowKit

def linksOf : List C → List (List C)
  | [_, _, _, _, _, _, _, _, .sl r] => r
  | _ => []
def condsOf : List C → List (List C)
  | [_, _, _, _, _, .sl r] => r
  | _ => []
def sumL (f : List C → Nat) : List (List C) → Nat
  | [] => 0
  | r :: rs => f r + sumL f rs
def chainF : Nat → List C → Nat
  | 0, _ => 0
  | n + 1, row => 1 + sumL (fun l => 1 + sumL (chainF n) (condsOf l)) (linksOf row)
theorem sumL_take {f : List C → Nat} : ∀ {rows : List (List C)} {k : Nat} {r : List C}, rows[k]? = some r → sumL f (rows.take (k + 1)) = sumL f (rows.take k) + f r
  | [], _, _, h => by simp at h
  | x :: xs, 0, r, h => by simp at h; subst h; simp [sumL]
  | x :: xs, k + 1, r, h => by have := sumL_take (f := f) (rows := xs) (k := k) (by simpa using h); simp only [List.take_succ_cons, sumL] at this ⊢; omega
theorem sumL_take_le (f : List C → Nat) : ∀ (rows : List (List C)) (k : Nat), sumL f (rows.take k) ≤ sumL f rows
  | [], k => by simp
  | x :: xs, 0 => by simp [sumL]
  | x :: xs, k + 1 => by have := sumL_take_le f xs k; simp only [List.take_succ_cons, sumL] at this ⊢; omega
theorem sumL_le {f g : List C → Nat} : ∀ (rows : List (List C)), (∀ r ∈ rows, f r ≤ g r) → sumL f rows ≤ sumL g rows
  | [], _ => by simp [sumL]
  | x :: xs, h => by have h1 := h x (by simp); have h2 := sumL_le xs (fun r hr => h r (by simp [hr])); simp only [sumL]; omega
theorem sumL_one (rows : List (List C)) : sumL (fun r => 1 + bulkRow r) rows = rows.length + bulkRows rows := by
  induction rows with
  | nil => simp [sumL, bulkRows]
  | cons r rs ih => simp only [sumL, bulkRows, List.length_cons, ih]; omega
theorem okRows.mem {fs : List F} {rows : List (List C)} (h : okRows fs rows) {r : List C} (hr : r ∈ rows) : okRow fs r := by
  obtain ⟨i, hi, rfl⟩ := List.getElem_of_mem hr
  exact h.get (List.getElem?_eq_getElem hi)
theorem chainF_le (n : Nat) : ∀ row, okRow (fieldsOf .chain) row → chainF n row ≤ 1 + bulkRow row := by
  induction n with
  | zero => intro row _; simp [chainF]
  | succ n ih =>
    intro row hok
    obtain ⟨i0, t1, i2, r3, i4, t5, i6, r7, r8, rfl, _, _, _, _, _, _, _, _, g8⟩ := okRow_Chain hok
    simp only [chainF, linksOf, bulkRow, bulkC]
    have h1 : sumL (fun l => 1 + sumL (chainF n) (condsOf l)) r8 ≤ sumL (fun r => 1 + bulkRow r) r8 := by
      refine sumL_le r8 (fun l hl => ?_)
      obtain ⟨j0, q1, q2, q3, q4, q5, rfl, _, _, _, _, _, g5⟩ := okRow_Link (g8.mem hl)
      have h2 : sumL (chainF n) q5 ≤ sumL (fun r => 1 + bulkRow r) q5 := sumL_le q5 (fun c hc => ih c (g5.mem hc))
      rw [sumL_one] at h2
      simp only [condsOf, bulkRow, bulkC]
      omega
    rw [sumL_one] at h1
    omega

def ChainSizeC (f : FuncId) (n : Nat) (row : List C) : Prop := ∀ (S : Nat → Prop) (us : List Value) (w : World), okRow (fieldsOf .chain) row → RepVals w S row us → bulkRow row ≤ 1048576 →
  Calls Try.prog f #[.agg us.toArray] w fun e w' => e = .returned (.int .i64 (chainF n row : Nat)) ∧ Below w.heap.size w w'

set_option maxHeartbeats 2000000 in
theorem implChainSize (n : Nat) : ∀ row, nodesRow row < n → ChainSizeC 19 n row := by
  induction n with
  | zero => intro row h; omega
  | succ n ih =>
    intro row hn S us w hok hv hlen
    have hle := chainF_le (n + 1) row hok
    obtain ⟨i0, t1, i2, r3, i4, t5, i6, r7, r8, rfl, _, _, _, _, _, _, _, _, g8⟩ := okRow_Chain hok
    obtain ⟨v3, v7, v8, rfl, _, _, e8⟩ := repVals_Chain hv
    obtain ⟨A, m, cap, rfl, hm, hmc, hcm⟩ := e8.form
    unfold maxLen at hcm
    generalize hF : (fun l => 1 + sumL (chainF n) (condsOf l)) = F at *
    have HF := Lib.hid hF
    have HC : Hid (chainF (n + 1) [.lit (.int .i64 i0), .lit (.string t1), .lit (.int .i64 i2), .sl r3, .lit (.int .i64 i4), .lit (.string t5), .lit (.int .i64 i6), .sl r7, .sl r8] = 1 + sumL F r8) := by
      rw [← hF]; exact rfl
    rw [HC.out] at hle ⊢
    have hle8 : 1 + sumL F r8 ≤ 1048577 := by omega
    have HN : Hid (nodesRows r8 ≤ n) := by simp only [nodesRow, nodesC] at hn; show _ ≤ _; omega
    have hbk : r8.length + bulkRows r8 ≤ 1048576 := by simp only [bulkRow, bulkC] at hlen; omega
    have G8 := Lib.hid g8
    have E8 := Lib.hid e8
    have HM := Lib.hid hm
    have IH := Lib.hid ih
    obtain ⟨ic, hci, _, hcs, _⟩ := info_parts info_Chain
    clear hF hv hok hlen hle g8 e8 hn hm ih HC
    go_enter Try.func19, Try.ntmps19
    go_wp2
    go_loopw [3, 11] (fun s i wr => ∃ k : Nat, k ≤ m ∧ i = .int .i64 k ∧ s = .int .i64 ((1 + sumL F (r8.take k) : Nat) : Int) ∧ Below w.heap.size w wr) (fun _ i _ => m - (intOf i).toNat)
    case atStart => exact ⟨0, Nat.zero_le _, rfl, by simp [sumL], (Below.refl _ _).alloc (Nat.le_refl _) _⟩
    case round =>
      obtain ⟨k, hk, rfl, rfl, hb⟩ := hrel
      by_cases hkm : k < m
      · obtain ⟨b, off, r, rfl, hS, hbz, hget, hokr, hrow⟩ := E8.out.get G8.out hkm
        obtain ⟨u0, u1, u2, u3, u4, u5, c0, c1, c2, c3, c4, c5, hvals⟩ := hrow.vals6 hokr.len
        have hone := okRow.one hokr hvals
        obtain ⟨j0, q1, q2, q3, q4, q5, rfl, _, _, _, _, _, g5⟩ := okRow_Link hokr
        obtain ⟨x1, x2, x3, x4, x5, hx, y1, y2, y3, y4, e5⟩ := repVals_Link hvals
        simp only [List.cons.injEq, and_true] at hx
        obtain ⟨rfl, rfl, rfl, rfl, rfl, rfl⟩ := hx
        obtain ⟨A1, n1, a1, rfl, _⟩ := y1.form
        obtain ⟨A2, n2, a2, rfl, _⟩ := y2.form
        obtain ⟨A3, n3, a3, rfl, _⟩ := y3.form
        obtain ⟨A4, n4, a4, rfl, _⟩ := y4.form
        obtain ⟨A5, m5, cap5, rfl, hm5, hmc5, hcm5⟩ := e5.form
        unfold maxLen at hcm5
        have htk := sumL_take (f := F) hget
        have htl := sumL_take_le F r8 (k + 1)
        have hFr : F [.lit (.int .i64 j0), .sl q1, .sl q2, .sl q3, .sl q4, .sl q5] = 1 + sumL (chainF n) q5 := by rw [← HF.out]; rfl
        rw [hFr] at htk
        have hnd := nodes_get hget
        have hbg := bulk_get hget
        have HTK := Lib.hid htk
        have HND : Hid (nodesRows q5 < n) := by have h1 := HN.out; simp only [nodesRow, nodesC] at hnd; show _ < _; omega
        have hb5 : q5.length + bulkRows q5 ≤ 1048576 := by simp only [bulkRow, bulkC] at hbg; omega
        have htot : 1 + sumL F (r8.take k) + 1 + sumL (chainF n) q5 ≤ 1048577 := by omega
        have G5 := Lib.hid g5
        have E5 := Lib.hid e5
        have HM5 := Lib.hid hm5
        clear hget hrow hvals hone hokr y1 y2 y3 y4 hFr htk hnd hbg g5 e5 hm5 htl
        obtain ⟨hcw, _⟩ := bcell hb
        simp only [fieldsOf, occF, List.cons_append, List.nil_append, List.length_cons, List.length_nil, Nat.reduceAdd] at c0 c1 c2 c3 c4 c5
        generalize hT : sumL F (r8.take k) = T at *
        have HT := Lib.hid hT
        clear hT
        go_wp2
        go_loopw [3, 20] (fun s i wq => ∃ j : Nat, j ≤ m5 ∧ i = .int .i64 j ∧ s = .int .i64 ((1 + T + 1 + sumL (chainF n) (q5.take j) : Nat) : Int) ∧ Below w.heap.size w wq) (fun _ i _ => m5 - (intOf i).toNat)
        case atStart => exact ⟨0, Nat.zero_le _, rfl, by simp [sumL], hb.alloc hb.size _⟩
        case round =>
          obtain ⟨j, hj, rfl, rfl, hbq⟩ := hrel
          by_cases hjm : j < m5
          · obtain ⟨b', off', r', rfl, hS', hbz', hget', hokr', hrow'⟩ := E5.out.get G5.out hjm
            obtain ⟨z0, z1, z2, z3, z4, z5, z6, z7, z8, d0, d1, d2, d3, d4, d5, d6, d7, d8, hvals'⟩ := hrow'.vals9 hokr'.len
            have htk' := sumL_take (f := chainF n) hget'
            have htl' := sumL_take_le (chainF n) q5 (j + 1)
            have hnd' := nodes_get hget'
            have hbg' := bulk_get hget'
            have HR := IH.out r' (by have := HND.out; omega)
            have HTK' := Lib.hid htk'
            have hst : 1 + T + 1 + sumL (chainF n) (q5.take j) + chainF n r' ≤ 1048577 := by omega
            have HV' := Lib.hid hvals'
            have HOK' := Lib.hid hokr'
            have hone := okRow.one hokr' hvals'
            obtain ⟨hcq, _⟩ := bcell hbq
            simp only [fieldsOf, termF, List.cons_append, List.nil_append, List.length_cons, List.length_nil, Nat.reduceAdd] at d0 d1 d2 d3 d4 d5 d6 d7 d8
            have HONE := Lib.hid hone
            clear hget' hrow' hvals' hokr' hone htk' htl' hnd'
            go_wp2_with (refine wpList_store_new rfl 46 _ _ rfl _ _ _ rfl rfl [z0, z1, z2, z3, z4, z5, z6, z7, z8] rfl ic hci hcs rfl HONE.out ?_)
            refine (HR S _ _ HOK'.out (HV'.out.below (hbq.alloc hbq.size _)) (by omega)).mono ?_
            rintro e w2 ⟨rfl, hb2⟩
            go_wp2
            go_roundw
            case rel => (repeat apply Exists.intro); exact ⟨⟨j + 1, by omega, by go_num, val_int (by have := HTK'.out; omega), (hbq.alloc hbq.size _).trans (hb2.mono (by have := hbq.size; simp; omega))⟩, rfl⟩
            case measure => simp [intOf]; omega
          · go_wp2
            go_roundw
            case rel =>
              have e : j = m5 := by omega
              subst e
              rw [List.take_of_length_le (by have := HM5.out; omega)]
              exact ⟨k + 1, by omega, by go_num, val_int (by have := HTK.out; have := HT.out; omega), hbq⟩
            case measure => simp [intOf]; omega
      · go_wp2
        go_ret
        have e : k = m := by omega
        subst e
        rw [List.take_of_length_le (by have := HM.out; omega)]
        exact ⟨rfl, hb⟩

set_option maxHeartbeats 2000000 in
theorem specCount (n : Nat) : ∀ row, nodesRow row < n → ChainSizeC 35 n row := by
  induction n with
  | zero => intro row h; omega
  | succ n ih =>
    intro row hn S us w hok hv hlen
    have hle := chainF_le (n + 1) row hok
    obtain ⟨i0, t1, i2, r3, i4, t5, i6, r7, r8, rfl, _, _, _, _, _, _, _, _, g8⟩ := okRow_Chain hok
    obtain ⟨v3, v7, v8, rfl, _, _, e8⟩ := repVals_Chain hv
    obtain ⟨A, m, cap, rfl, hm, hmc, hcm⟩ := e8.form
    unfold maxLen at hcm
    generalize hF : (fun l => 1 + sumL (chainF n) (condsOf l)) = F at *
    have HF := Lib.hid hF
    have HC : Hid (chainF (n + 1) [.lit (.int .i64 i0), .lit (.string t1), .lit (.int .i64 i2), .sl r3, .lit (.int .i64 i4), .lit (.string t5), .lit (.int .i64 i6), .sl r7, .sl r8] = 1 + sumL F r8) := by
      rw [← hF]; exact rfl
    rw [HC.out] at hle ⊢
    have hle8 : 1 + sumL F r8 ≤ 1048577 := by omega
    have HN : Hid (nodesRows r8 ≤ n) := by simp only [nodesRow, nodesC] at hn; show _ ≤ _; omega
    have hbk : r8.length + bulkRows r8 ≤ 1048576 := by simp only [bulkRow, bulkC] at hlen; omega
    have G8 := Lib.hid g8
    have E8 := Lib.hid e8
    have HM := Lib.hid hm
    have IH := Lib.hid ih
    clear hF hv hok hlen hle g8 e8 hn hm ih HC
    go_enter Try.func35, Try.ntmps35
    go_wp2
    generalize hW : w.alloc _ = W
    have hbW : Below w.heap.size w W := by rw [← hW]; exact (Below.refl _ _).alloc (Nat.le_refl _) _
    have hcb : W.cell? ⟨w.heap.size, 8, none⟩ = some (.slice A m cap) := by rw [← hW]; simp
    have hzW : w.heap.size < W.heap.size := by rw [← hW]; simp
    have E8W := Lib.hid (E8.out.below hbW)
    clear hW E8
    go_loopw [3, 4] (fun s i wr => ∃ k : Nat, k ≤ m ∧ i = .int .i64 k ∧ s = .int .i64 ((1 + sumL F (r8.take k) : Nat) : Int) ∧ Below W.heap.size W wr) (fun _ i _ => m - (intOf i).toNat)
    case atStart => exact ⟨0, Nat.zero_le _, rfl, by simp [sumL], Below.refl _ _⟩
    case round =>
      obtain ⟨k, hk, rfl, rfl, hb⟩ := hrel
      obtain ⟨hcw, _⟩ := bcell hb
      by_cases hkm : k < m
      · obtain ⟨b, off, r, rfl, hS, hbz, hget, hokr, hrow⟩ := E8W.out.get G8.out hkm
        obtain ⟨u0, u1, u2, u3, u4, u5, c0, c1, c2, c3, c4, c5, hvals⟩ := hrow.vals6 hokr.len
        obtain ⟨j0, q1, q2, q3, q4, q5, rfl, _, _, _, _, _, g5⟩ := okRow_Link hokr
        obtain ⟨x1, x2, x3, x4, x5, hx, y1, y2, y3, y4, e5⟩ := repVals_Link hvals
        simp only [List.cons.injEq, and_true] at hx
        obtain ⟨rfl, rfl, rfl, rfl, rfl, rfl⟩ := hx
        obtain ⟨A5, m5, cap5, rfl, hm5, hmc5, hcm5⟩ := e5.form
        unfold maxLen at hcm5
        have htk := sumL_take (f := F) hget
        have htl := sumL_take_le F r8 (k + 1)
        have hFr : F [.lit (.int .i64 j0), .sl q1, .sl q2, .sl q3, .sl q4, .sl q5] = 1 + sumL (chainF n) q5 := by rw [← HF.out]; rfl
        rw [hFr] at htk
        have hnd := nodes_get hget
        have hbg := bulk_get hget
        have HTK := Lib.hid htk
        have HND : Hid (nodesRows q5 < n) := by have h1 := HN.out; simp only [nodesRow, nodesC] at hnd; show _ < _; omega
        have hb5 : q5.length + bulkRows q5 ≤ 1048576 := by simp only [bulkRow, bulkC] at hbg; omega
        have htot : 1 + sumL F (r8.take k) + 1 + sumL (chainF n) q5 ≤ 1048577 := by omega
        have G5 := Lib.hid g5
        have E5 := Lib.hid e5
        have HM5 := Lib.hid hm5
        clear hget hrow hvals hokr y1 y2 y3 y4 hFr htk hnd hbg g5 e5 hm5 htl
        simp only [fieldsOf, occF, List.cons_append, List.nil_append, List.length_cons, List.length_nil, Nat.reduceAdd] at c0 c1 c2 c3 c4 c5
        generalize hT : sumL F (r8.take k) = T at *
        have HT := Lib.hid hT
        clear hT
        go_wp2
        go_loopw [3, 5] (fun s i wq => ∃ j : Nat, j ≤ m5 ∧ i = .int .i64 j ∧ s = .int .i64 ((1 + T + 1 + sumL (chainF n) (q5.take j) : Nat) : Int) ∧ Below W.heap.size W wq) (fun _ i _ => m5 - (intOf i).toNat)
        case atStart => exact ⟨0, Nat.zero_le _, rfl, by simp [sumL], hb⟩
        case round =>
          obtain ⟨j, hj, rfl, rfl, hbq⟩ := hrel
          obtain ⟨hcq, _⟩ := bcell hbq
          by_cases hjm : j < m5
          · obtain ⟨b', off', r', rfl, hS', hbz', hget', hokr', hrow'⟩ := E5.out.get G5.out hjm
            obtain ⟨z0, z1, z2, z3, z4, z5, z6, z7, z8, d0, d1, d2, d3, d4, d5, d6, d7, d8, hvals'⟩ := hrow'.vals9 hokr'.len
            have htk' := sumL_take (f := chainF n) hget'
            have htl' := sumL_take_le (chainF n) q5 (j + 1)
            have hnd' := nodes_get hget'
            have hbg' := bulk_get hget'
            have HR := IH.out r' (by have := HND.out; omega)
            have HTK' := Lib.hid htk'
            have hst : 1 + T + 1 + sumL (chainF n) (q5.take j) + chainF n r' ≤ 1048577 := by omega
            have HV' := Lib.hid hvals'
            have HOK' := Lib.hid hokr'
            simp only [fieldsOf, termF, List.cons_append, List.nil_append, List.length_cons, List.length_nil, Nat.reduceAdd] at d0 d1 d2 d3 d4 d5 d6 d7 d8
            clear hget' hrow' hvals' hokr' htk' htl' hnd'
            go_wp2_with fail
            refine (HR S _ _ HOK'.out (HV'.out.below hbq) (by omega)).mono ?_
            rintro e w2 ⟨rfl, hb2⟩
            go_wp2
            go_roundw
            case rel => (repeat apply Exists.intro); exact ⟨⟨j + 1, by omega, by go_num, val_int (by have := HTK'.out; omega), hbq.trans (hb2.mono hbq.size)⟩, rfl⟩
            case measure => simp [intOf]; omega
          · go_wp2
            go_roundw
            case rel =>
              have e : j = m5 := by omega
              subst e
              rw [List.take_of_length_le (by have := HM5.out; omega)]
              exact ⟨k + 1, by omega, by go_num, val_int (by have := HTK.out; have := HT.out; omega), hbq⟩
            case measure => simp [intOf]; omega
      · go_wp2
        go_ret
        have e : k = m := by omega
        subst e
        rw [List.take_of_length_le (by have := HM.out; omega)]
        exact ⟨rfl, hbW.trans (hb.mono hbW.size)⟩

set_option maxHeartbeats 1000000 in
theorem specChainSize (n : Nat) (row : List C) (h : nodesRow row < n) : ChainSizeC 17 n row := by
  intro S us w hok hv hlen
  have H := Lib.hid (specCount n row h)
  obtain ⟨z0, z1, z2, z3, z4, z5, z6, z7, z8, rfl⟩ := len9 (hv.len.trans hok.len)
  have HV := Lib.hid hv
  have HOK := Lib.hid hok
  clear hv hok h
  go_enter Try.func17, Try.ntmps17
  go_wp2_with fail
  refine (H.out S _ _ HOK.out (HV.out.below ((Below.refl _ _).alloc (Nat.le_refl _) _)) hlen).mono ?_
  rintro e w1 ⟨rfl, hb1⟩
  go_wp2
  go_ret
  exact ⟨rfl, ((Below.refl _ _).alloc (Nat.le_refl _) _).trans (hb1.mono (by simp))⟩
end Go.Proofs.Ytiglacjigkcgkaa
