/-
  Comparing terms: the reference's CompareTerms (walked).
-/
import Derived.Test.YtiglacjigkcgkaaCmp3
set_option linter.unusedSimpArgs false
set_option linter.unusedVariables false
namespace Go.Proofs.Ytiglacjigkcgkaa
open Go.RowKit
set_option maxHeartbeats 4000000 in
set_option maxRecDepth 100000 in
theorem specCompareTerms_of (a b : Tm) (h : ∀ (i : Nat) p q, a.args[i]? = some p → b.args[i]? = some q → cmpTmC 57 p q) : cmpTmC 57 a b := by
  intro S S' us us' w ha hb hv hv'
  obtain ⟨o, n, s, x⟩ := a
  obtain ⟨o', n', s', y⟩ := b
  simp only [encTm] at hv hv'
  obtain ⟨v3, rfl, e3⟩ := repVals_Term hv
  obtain ⟨v3', rfl, e3'⟩ := repVals_Term hv'
  simp only [okTm] at ha hb
  have HX := Lib.hid ha.2.2.2
  have HY := Lib.hid hb.2.2.2
  have H := Lib.hid h
  have hbW := ((Below.refl w.heap.size w).alloc (Nat.le_refl _) (.cells #[.int .i64 o, .string n, .int .i64 s, v3] 29)).alloc (by simp) (.cells #[.int .i64 o', .string n', .int .i64 s', v3'] 29)
  by_cases ho : o = o'
  case neg =>
    have ho1 : (o == o') = false := by simpa using ho
    have ho2 : (o != o') = true := by simpa using ho
    have hz : cmpInt o o' ≠ 0 := fun e => ho (cmpInt_zero.1 e)
    have HF : Hid (cmpTm (.mk o n s x) (.mk o' n' s' y) = cmpInt o o') := by show _ = _; simp only [cmpTm, firstNZ, if_neg hz]
    clear hz h H ha hb hv hv' e3 e3' ho
    by_cases hlt : o < o'
    · go_enter Try.func57, Try.ntmps57
      go_wp2
      go_ret
      exact ⟨ret_int (a := -1) (by rw [HF.out]; unfold cmpInt; rw [if_pos hlt]), hbW⟩
    · have HL := Lib.hid hlt
      go_enter Try.func57, Try.ntmps57
      go_wp2
      go_ret
      exact ⟨ret_int (a := 1) (by have h1 : o ≠ o' := by simpa using ho1
                                  have := HL.out
                                  rw [HF.out]; unfold cmpInt; rw [if_neg (by omega), if_pos (by omega)]), hbW⟩
  subst ho
  have hz0 : cmpInt o o = 0 := cmpInt_zero.2 rfl
  by_cases hn : n = n'
  case neg =>
    have hz : cmpStr n n' ≠ 0 := fun e => hn (cmpStr_zero.1 e)
    have HF : Hid (cmpTm (.mk o n s x) (.mk o n' s' y) = cmpStr n n') := by show _ = _; simp only [cmpTm, firstNZ, if_pos hz0, if_neg hz]
    clear h H ha hb hv hv' e3 e3' hz0
    have hn1 : (n.toList == n'.toList) = false := by
      simp only [beq_eq_false_iff_ne, ne_eq, ByteArray.toList_eq]
      intro e
      apply hn
      obtain ⟨⟨la⟩⟩ := n
      obtain ⟨⟨lb⟩⟩ := n'
      simp at e
      rw [e]
    have hlq : Op.bytesLess n.toList n'.toList = decide (cmpStr n n' = -1) := by rw [ByteArray.toList_eq, ByteArray.toList_eq]; exact compareBytes_less _ _
    have HZ := Lib.hid hz
    have HR := Lib.hid (cmpStr_range n n')
    clear hn hz
    by_cases hlt : cmpStr n n' = -1
    · have hl1 : Op.bytesLess n.toList n'.toList = true := by rw [hlq]; simpa using hlt
      have HLT := Lib.hid hlt
      clear hlq hlt
      go_enter Try.func57, Try.ntmps57
      go_wp2
      go_ret
      exact ⟨ret_int (a := -1) (by rw [HF.out, HLT.out]), hbW⟩
    · have hl1 : Op.bytesLess n.toList n'.toList = false := by rw [hlq]; simpa using hlt
      have HLT := Lib.hid hlt
      clear hlq hlt
      go_enter Try.func57, Try.ntmps57
      go_wp2
      go_ret
      exact ⟨ret_int (a := 1) (by rw [HF.out]; rcases HR.out with e | e | e
                                  · exact absurd e HLT.out
                                  · exact absurd e HZ.out
                                  · exact e.symm), hbW⟩
  subst hn
  have hz1 : cmpStr n n = 0 := cmpStr_zero.2 rfl
  by_cases hs : s = s'
  case neg =>
    have hs1 : (s == s') = false := by simpa using hs
    have hs2 : (s != s') = true := by simpa using hs
    have hz : cmpInt s s' ≠ 0 := fun e => hs (cmpInt_zero.1 e)
    have HF : Hid (cmpTm (.mk o n s x) (.mk o n s' y) = cmpInt s s') := by show _ = _; simp only [cmpTm, firstNZ, if_pos hz0, if_pos hz1, if_neg hz]
    clear hz h H ha hb hv hv' e3 e3' hs hz0 hz1
    by_cases hlt : s < s'
    · go_enter Try.func57, Try.ntmps57
      go_wp2
      go_ret
      exact ⟨ret_int (a := -1) (by rw [HF.out]; unfold cmpInt; rw [if_pos hlt]), hbW⟩
    · have HL := Lib.hid hlt
      go_enter Try.func57, Try.ntmps57
      go_wp2
      go_ret
      exact ⟨ret_int (a := 1) (by have h1 : s ≠ s' := by simpa using hs1
                                  have := HL.out
                                  rw [HF.out]; unfold cmpInt; rw [if_neg (by omega), if_pos (by omega)]), hbW⟩
  subst hs
  have HF : Hid (cmpTm (.mk o n s x) (.mk o n s y) = cmpTms x y) := by
    show _ = _
    simp only [cmpTm, firstNZ, if_pos hz0, if_pos hz1, if_pos (cmpInt_zero.2 (rfl : s = s))]
    split <;> simp_all
  obtain ⟨A, m, cap, rfl, hm, hmc, hcm⟩ := e3.form
  obtain ⟨A', m', cap', rfl, hm', hmc', hcm'⟩ := e3'.form
  rw [encTms_len] at hm hm'
  have HM := Lib.hid hm
  have HM' := Lib.hid hm'
  have HV := Lib.hid e3
  have HV' := Lib.hid e3'
  clear hz0 hz1 h ha hb hv hv' e3 e3' hm hm'
  unfold maxLen at hcm hcm'
  go_enter Try.func57, Try.ntmps57
  go_wp2
  generalize hW : (w.alloc _).alloc _ = W at hbW ⊢
  have p3 : W.cell? ⟨w.heap.size, 3, none⟩ = some (.slice A m cap) := by rw [← hW]; simp
  have q3 : W.cell? ⟨w.heap.size + 1, 3, none⟩ = some (.slice A' m' cap') := by rw [← hW]; simp
  have z0 : w.heap.size < W.heap.size := by rw [← hW]; simp; omega
  have z1 : w.heap.size + 1 < W.heap.size := by rw [← hW]; simp
  have HVW := Lib.hid (HV.out.below hbW)
  have HVW' := Lib.hid (HV'.out.below hbW)
  clear hW HV HV'
  go_loopw [5] (fun i wr => ∃ k : Nat, k ≤ m ∧ k ≤ m' ∧ i = .int .i64 k ∧ cmpTms x y = cmpTms (x.drop k) (y.drop k) ∧ Below W.heap.size W wr) (fun i _ => m - (intOf i).toNat)
  case atStart => exact ⟨0, Nat.zero_le _, Nat.zero_le _, rfl, rfl, Below.refl _ _⟩
  case round =>
    obtain ⟨k, hk, hk', rfl, hz, hb⟩ := hrel
    have HZ := Lib.hid hz
    clear hz
    obtain ⟨hcw, _⟩ := bcell hb
    have hbw' : Below w.heap.size w wr := hbW.trans (hb.mono hbW.size)
    by_cases hkm : k < m
    · obtain ⟨b, off, r, rfl, hS, hbz, hget, hokr, hrow⟩ := HVW.out.get (okRows_enc x HX.out) hkm
      obtain ⟨u0, u1, u2, u3, c0, c1, c2, c3, hvals⟩ := hrow.vals4 hokr.len
      rw [encTms_get] at hget
      obtain ⟨t, ht, rfl⟩ := Option.map_eq_some_iff.1 hget
      have HVALS := Lib.hid hvals
      have HT := Lib.hid ht
      clear hvals hokr hrow hget ht
      simp only [fieldsOf, termF, List.length_cons, List.length_nil, Nat.reduceAdd] at c0 c1 c2 c3
      have k0 : (0 : Int) ≤ (k : Int) := by omega
      have k1 : (k : Int) < (m : Int) := by omega
      have hd1 : decide (k < m) = true := by simpa using hkm
      by_cases hkm' : k < m'
      · obtain ⟨b', off', r', rfl, hS', hbz', hget', hokr', hrow'⟩ := HVW'.out.get (okRows_enc y HY.out) hkm'
        obtain ⟨x0, x1, x2, x3, d0, d1, d2, d3, hvals'⟩ := hrow'.vals4 hokr'.len
        rw [encTms_get] at hget'
        obtain ⟨t', ht', rfl⟩ := Option.map_eq_some_iff.1 hget'
        have HVALS' := Lib.hid hvals'
        have HT' := Lib.hid ht'
        clear hvals' hokr' hrow' hget' ht'
        simp only [fieldsOf, termF, List.length_cons, List.length_nil, Nat.reduceAdd] at d0 d1 d2 d3
        have k2 : (k : Int) < (m' : Int) := by omega
        have hd2 : decide (k < m') = true := by simpa using hkm'
        have HC := Lib.hid (H.out k t t' HT.out HT'.out)
        go_wp2_with fail
        go_region_held3 (fun w' => ∀ b o, b < W.heap.size → w'.cell? ⟨b, o, none⟩ = W.cell? ⟨b, o, none⟩) (first | exact fun b o h => (hb2.cell (p := ⟨b, o, none⟩) (Nat.lt_of_lt_of_le h hb.size)).trans (hcw b o h) | exact fun b o h => hcw b o h | go_keep)
          (first | (go_at_call 57; refine (HC.out S S' _ _ _ (HX.out.mem (List.mem_of_getElem? HT.out)) (HY.out.mem (List.mem_of_getElem? HT'.out)) (HVALS.out.below hb.drew) (HVALS'.out.below hb.drew)).mono ?_; rintro e w2 ⟨rfl, hb2⟩))
        have hbq : Below W.heap.size W w2 := hb.drew.trans (hb2.mono (show W.heap.size ≤ wr.heap.size from hb.size))
        have HST := Lib.hid (cmpTms_step HT.out HT'.out)
        generalize hc : cmpTm t t' = c at HST ⊢
        clear hc
        by_cases hc0 : c = 0
        · subst hc0
          go_wp2
          go_roundw
          case rel => exact ⟨k + 1, by omega, by omega, by go_num, by rw [HZ.out, HST.out, firstNZ2_zero rfl], hbq⟩
          case measure => simp [intOf]; omega
        · have hc1 : (c == 0) = false := by simpa using hc0
          have hc2 : (c != 0) = true := by simpa using hc0
          go_wp2
          go_ret
          exact ⟨ret_int (by rw [HF.out, HZ.out, HST.out, firstNZ2_nz hc0]), hbW.trans (hbq.mono hbW.size)⟩
      · have hd2 : decide (k < m') = false := by simpa using hkm'
        have hmm : ¬ m < m' := by omega
        have hmm2 : m' < m := by omega
        go_wp2
        go_ret
        refine ⟨ret_int (a := 1) ?_, hbw'⟩
        rw [HF.out, HZ.out]
        have e2 : y.drop k = [] := List.drop_eq_nil_of_le (by have := HM'.out; omega)
        have e1 : x.drop k = t :: x.drop (k + 1) := by
          obtain ⟨hl, hx⟩ := List.getElem?_eq_some_iff.1 HT.out
          rw [← hx]; exact List.drop_eq_getElem_cons hl
        rw [e1, e2, cmpTms]
    · have e1 : Hid (x.drop k = []) := Lib.hid (List.drop_eq_nil_of_le (by have := HM.out; omega))
      have hd1 : decide (k < m) = false := by simpa using hkm
      by_cases hlt : m < m'
      · go_wp2
        go_ret
        refine ⟨ret_int (a := -1) ?_, hbw'⟩
        have hl : k < y.length := by have := HM'.out; omega
        rw [HF.out, HZ.out, e1.out, List.drop_eq_getElem_cons hl, cmpTms]
      · have hlt2 : ¬ m' < m := by omega
        go_wp2
        go_ret
        refine ⟨ret_int (a := 0) ?_, hbw'⟩
        rw [HF.out, HZ.out, e1.out, List.drop_eq_nil_of_le (by have := HM'.out; omega), cmpTms]
theorem specCompareTerms_all (n : Nat) : ∀ a b, sizeTm a < n → cmpTmC 57 a b := by
  induction n with
  | zero => intro a b h; omega
  | succ n ih =>
    intro a b h
    refine specCompareTerms_of a b (fun i p q hp hq => ih p q ?_)
    have h1 := sizeTms_get hp
    cases a
    cases p
    simp only [sizeTm, Tm.args] at h h1 ⊢
    omega
theorem specCompareTerms (a b : Tm) : cmpTmC 57 a b := specCompareTerms_all _ a b (Nat.lt_succ_self _)
end Go.Proofs.Ytiglacjigkcgkaa
