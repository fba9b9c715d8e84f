/-
  Valid sorts: the reference's IsSorts (walked).
-/
import Derived.Test.YtlhbdhdaecchoaaSorts
set_option linter.unusedSimpArgs false
set_option linter.unusedVariables false
namespace Go.Proofs.Ytlhbdhdaecchoaa
open Go.RowKit

theorem quietC {P : Program} {f : FuncId} {args : Array Value} {v : Value} {w : World} (h : ∀ n, Calls P f args (w.drewN n) fun e w' => e = .returned v ∧ w.drewN n = w') (n : Nat) : Calls P f args (w.drewN n) fun e w'' => e = .returned v ∧ ∃ m, w'' = w.drewN m :=
  (h n).mono (fun e w2 hh => ⟨hh.1, n, hh.2.symm⟩)
theorem RepRows.take {w : World} {S : Nat → Prop} {b : Nat} : ∀ (rows : List (List C)) (off i : Nat), RepRows w S b off rows → RepRows w S b off (rows.take i)
  | [], off, i, h => by simp [RepRows]
  | r :: rs, off, 0, h => by simp [RepRows]
  | r :: rs, off, i + 1, h => by
    simp only [List.take_succ_cons, RepRows] at h ⊢
    exact ⟨h.1, RepRows.take rs _ i h.2⟩
theorem Rep.take {w : World} {S : Nat → Prop} {rows : List (List C)} {A : Option Addr} {n cap i : Nat} (h : Rep w S (.sl rows) (.slice A n cap)) (hi : i ≤ n) : Rep w S (.sl (rows.take i)) (.slice A i cap) := by
  simp only [Rep] at h ⊢
  obtain ⟨A', n', cap', hv, hn, hc, hm, hr⟩ := h
  injection hv with h1 h2 h3
  subst h1 h2 h3
  refine ⟨A, i, cap, rfl, by simp; omega, by omega, hm, fun h0 => ?_⟩
  obtain ⟨b, off, hA, hs, hb, hrows⟩ := hr (by omega)
  exact ⟨b, off, hA, hs, hb, RepRows.take rows off i hrows⟩
theorem beq_sym {a b : ByteArray} : (a.toList == b.toList) = (b.toList == a.toList) := by
  rw [Bool.eq_iff_iff]
  simp
  exact ⟨fun h => h.symm, fun h => h.symm⟩
theorem hasStr_step {l : List ByteArray} {s x : ByteArray} {k : Nat} (h : l[k]? = some x) : hasStr (l.drop k) s = ((x.toList == s.toList) || hasStr (l.drop (k + 1)) s) := by
  obtain ⟨hl, hx⟩ := List.getElem?_eq_some_iff.1 h
  rw [List.drop_eq_getElem_cons hl, hx, hasStr, List.any_cons, beq_sym]
  rfl
set_option maxHeartbeats 1000000 in
theorem specHasStr (l : List ByteArray) (s : ByteArray) (S : Nat → Prop) (v : Value) (w : World) (hok : ∀ x ∈ l, okStr x) (hv : Rep w S (.sl (l.map encStr)) v) :
    Calls Try.prog 62 #[v, .string s] w fun e w' => e = .returned (.bool (hasStr l s)) ∧ w = w' := by
  obtain ⟨A, cap, rfl, hc, hm⟩ := hv.shape
  have HOK := Lib.hid hok
  have HV := Lib.hid hv
  clear hv hok
  generalize hN : l.length = n at *
  have HN := Lib.hid hN
  clear hN
  unfold maxLen at hm
  go_enter Try.func62, Try.ntmps62
  go_wp2
  go_loopw [5] (fun i wr => ∃ k : Nat, k ≤ n ∧ i = .int .i64 k ∧ hasStr l s = hasStr (l.drop k) s ∧ w = wr) (fun i _ => n - (intOf i).toNat)
  case atStart => exact ⟨0, Nat.zero_le _, rfl, rfl, rfl⟩
  case round =>
    obtain ⟨k, hk, rfl, hz, rfl⟩ := hrel
    have HZ := Lib.hid hz
    clear hz
    by_cases hkn : k < n
    · obtain ⟨x, hx⟩ : ∃ x, l[k]? = some x := ⟨_, List.getElem?_eq_getElem (by have := HN.out; omega)⟩
      obtain ⟨b, off, rfl, hS, hbz, hrow⟩ := Rep.at okStrR HOK.out HV.out hx
      simp only [encStr, RepRow, and_true, fieldsOf, List.length_cons, List.length_nil, Nat.reduceAdd, Rep.lit_iff, Nat.zero_add, Nat.mul_one] at hrow
      obtain ⟨_, c0, rfl⟩ := hrow
      have HS := Lib.hid (hasStr_step (s := s) hx)
      clear hx
      cases hq : (x.toList == s.toList)
      · have HQ := Lib.hid hq
        go_wp2
        go_roundw
        case rel => exact ⟨k + 1, by omega, by go_num, by rw [HZ.out, HS.out, HQ.out]; rfl, trivial⟩
        case measure => simp [intOf]; omega
      · have HQ := Lib.hid hq
        go_wp2
        go_ret
        exact ⟨ret_bool (by rw [HZ.out, HS.out, HQ.out]; rfl), rfl⟩
    · have HD : Hid (l.drop k = []) := List.drop_eq_nil_of_le (by have := HN.out; omega)
      go_wp2
      go_ret
      exact ⟨ret_bool (by rw [HZ.out, HD.out]; rfl), rfl⟩
set_option maxHeartbeats 2000000 in
set_option maxRecDepth 100000 in
theorem specIsSorts : sortsC 44 := by
  intro s S us w hok hv
  obtain ⟨names, subs⟩ := s
  have hv0 := hv
  simp only [encSrt] at hv
  obtain ⟨v0, v1, rfl, e0, e1⟩ := repVals_Sorts hv
  obtain ⟨A0, cap0, rfl, hc0, hm0⟩ := e0.shape
  obtain ⟨A1, cap1, rfl, hc1, hm1⟩ := e1.shape
  have HOK := Lib.hid hok
  have HV0 := Lib.hid hv0
  have E0 := Lib.hid e0
  have E1 := Lib.hid e1
  have HT := Lib.hid (isSorts_true (s := ⟨names, subs⟩))
  have HF := Lib.hid (isSorts_false (s := ⟨names, subs⟩))
  clear hv hv0 e0 e1 hok
  generalize hN : names.length = n at *
  generalize hM : subs.length = m at *
  have HN := Lib.hid hN
  have HM := Lib.hid hM
  clear hM hN
  unfold maxLen at hm0 hm1
  by_cases h1 : n < 1 ∨ 8 < n ∨ 16 < m
  · have HR : Hid (isSorts ⟨names, subs⟩ = false) := HF.out (fun h => by
      have := h.n1; have := h.n8; have := h.m16
      have := HN.out; have := HM.out
      simp only at *
      omega)
    rcases h1 with h1 | h1 | h1 <;>
    · go_enter Try.func44, Try.ntmps44
      go_wp2
      all_goals (go_ret; exact ⟨ret_bool HR.out.symm, (Below.refl _ _).alloc (Nat.le_refl _) _⟩)
  have hn1 : 1 ≤ n := by omega
  have hn8 : n ≤ 8 := by omega
  have hm16 : m ≤ 16 := by omega
  clear h1
  go_enter Try.func44, Try.ntmps44
  go_wp2
  generalize hW : w.alloc _ = W
  have hbW : Below w.heap.size w W := by rw [← hW]; exact (Below.refl _ _).alloc (Nat.le_refl _) _
  have p0 : W.cell? ⟨w.heap.size, 0, none⟩ = some (.slice A0 n cap0) := by rw [← hW]; simp
  have p1 : W.cell? ⟨w.heap.size, 1, none⟩ = some (.slice A1 m cap1) := by rw [← hW]; simp
  have z1 : w.heap.size + 1 = W.heap.size := by rw [← hW]; simp
  clear hW
  go_loopw [3] (fun i wr => ∃ k : Nat, k ≤ n ∧ i = .int .i64 k ∧ (∀ j, j < k → NameOk names j) ∧ Below W.heap.size W wr) (fun i _ => n - (intOf i).toNat)
  case atStart => exact ⟨0, Nat.zero_le _, rfl, fun j hj => absurd hj (by omega), Below.refl _ _⟩
  case round =>
    obtain ⟨k, hk, rfl, hnames, hb⟩ := hrel
    have HNM := Lib.hid hnames
    clear hnames
    by_cases hkn : k < n
    · obtain ⟨x, hx⟩ : ∃ x, names[k]? = some x := ⟨_, List.getElem?_eq_getElem (by have := HN.out; omega)⟩
      obtain ⟨b, off, rfl, hS, hbz, hrow⟩ := Rep.at okStrR HOK.out.1 (E0.out.below (hbW.trans (hb.mono hbW.size))) hx
      simp only [encStr, RepRow, and_true, fieldsOf, List.length_cons, List.length_nil, Nat.reduceAdd, Rep.lit_iff, Nat.zero_add, Nat.mul_one] at hrow
      obtain ⟨_, c0, rfl⟩ := hrow
      have HX := Lib.hid hx
      have HXS := Lib.hid (HOK.out.1 x (List.mem_of_getElem? hx))
      clear hx
      have pw := (hb.cell (p := ⟨w.heap.size, 0, none⟩) (show w.heap.size < W.heap.size by omega)).trans p0
      have HCN : Hid (∀ q, Calls Try.prog 45 #[.string x] (wr.drewN q) fun e w' => e = .returned (.bool (isName x)) ∧ wr.drewN q = w') := fun q => specIsName x HXS.out _
      have HCH : Hid (∀ q, Calls Try.prog 62 #[.slice (some ⟨b, off, none⟩) k cap0, .string x] (wr.drewN q) fun e w' => e = .returned (.bool (hasStr (names.take k) x)) ∧ wr.drewN q = w') := fun q => by
        refine specHasStr (names.take k) x S _ _ (fun y hy => HOK.out.1 y (List.mem_of_mem_take hy)) ?_
        rw [List.map_take]
        exact ((E0.out.below (hbW.trans (hb.mono hbW.size))).below (below_drewN (Below.refl _ _) _)).take (by omega)
      cases hin : isName x
      · have HR : Hid (isSorts ⟨names, subs⟩ = false) := HF.out (fun h => by have := (h.names k (by have := HN.out; simp only; omega) x HX.out).1; rw [hin] at this; cases this)
        rw [hin] at HCN
        clear hin
        go_wp2_with fail
        go_quiet (first | (go_at_call 45; exact quietC HCN.out _))
        go_wp2
        go_ret
        exact ⟨ret_bool HR.out.symm, hbW.trans ((below_drewN hb _).mono hbW.size)⟩
      · rw [hin] at HCN
        cases hh : hasStr (names.take k) x
        · have HO : Hid (NameOk names k) := fun y hy => by
            rw [HX.out] at hy
            injection hy with hy
            subst hy
            exact ⟨hin, hh⟩
          rw [hh] at HCH
          clear hin hh
          go_wp2_with fail
          go_quiet (first | (go_at_call 45; exact quietC HCN.out _) | (go_at_call 62; exact quietC HCH.out _))
          go_wp2
          go_roundw
          case rel =>
            refine ⟨k + 1, by omega, by go_num, fun j hj => ?_, below_drewN hb _⟩
            by_cases hjk : j < k
            · exact HNM.out j hjk
            · obtain rfl : j = k := by omega
              exact HO.out
          case measure => simp [intOf]; omega
        · have HR : Hid (isSorts ⟨names, subs⟩ = false) := HF.out (fun h => by have := (h.names k (by have := HN.out; simp only; omega) x HX.out).2; rw [hh] at this; cases this)
          rw [hh] at HCH
          clear hin hh
          go_wp2_with fail
          go_quiet (first | (go_at_call 45; exact quietC HCN.out _) | (go_at_call 62; exact quietC HCH.out _))
          go_wp2
          go_ret
          exact ⟨ret_bool HR.out.symm, hbW.trans ((below_drewN hb _).mono hbW.size)⟩
    · obtain rfl : n = k := by omega
      have pw := (hb.cell (p := ⟨w.heap.size, 0, none⟩) (show w.heap.size < W.heap.size by omega)).trans p0
      have hb1 := hb
      go_wp2
      clear hb pw
      go_loopw [4] (fun i wr => ∃ k : Nat, k ≤ m ∧ i = .int .i64 k ∧ (∀ j, j < k → ∀ p, subs[j]? = some p → SubOk n p) ∧ Below W.heap.size W wr) (fun i _ => m - (intOf i).toNat)
      case atStart => exact ⟨0, Nat.zero_le _, rfl, fun j hj => absurd hj (by omega), hb1⟩
      case round =>
        obtain ⟨k, hk, rfl, hsubs, hb⟩ := hrel
        have HSB := Lib.hid hsubs
        clear hsubs
        have pw0 := (hb.cell (p := ⟨w.heap.size, 0, none⟩) (show w.heap.size < W.heap.size by omega)).trans p0
        have pw1 := (hb.cell (p := ⟨w.heap.size, 1, none⟩) (show w.heap.size < W.heap.size by omega)).trans p1
        by_cases hkm : k < m
        · obtain ⟨p, hp⟩ : ∃ p, subs[k]? = some p := ⟨_, List.getElem?_eq_getElem (by have := HM.out; omega)⟩
          obtain ⟨b, off, rfl, hS, hbz, hrow⟩ := Rep.at okSubR HOK.out.2 (E1.out.below (hbW.trans (hb.mono hbW.size))) hp
          obtain ⟨lo, hi'⟩ := p
          simp only [encSub, RepRow, and_true, fieldsOf, List.length_cons, List.length_nil, Nat.reduceAdd, Rep.lit_iff] at hrow
          obtain ⟨⟨_, c0, rfl⟩, ⟨_, c1, rfl⟩⟩ := hrow
          have HP := Lib.hid hp
          clear hp
          have HC1 : Hid (∀ q, Calls Try.prog 25 #[.int .i64 lo, .int .i64 0, .int .i64 ((n : Int) - 1)] (wr.drewN q) fun e w' => e = .returned (.bool (decide (0 ≤ lo ∧ lo ≤ (n : Int) - 1))) ∧ wr.drewN q = w') := fun q => specIn _ _ _ _
          have HC2 : Hid (∀ q, Calls Try.prog 25 #[.int .i64 hi', .int .i64 0, .int .i64 ((n : Int) - 1)] (wr.drewN q) fun e w' => e = .returned (.bool (decide (0 ≤ hi' ∧ hi' ≤ (n : Int) - 1))) ∧ wr.drewN q = w') := fun q => specIn _ _ _ _
          by_cases hsub : SubOk n (lo, hi')
          · have HS := Lib.hid hsub
            obtain ⟨s0, s1, s2, s3, s4⟩ := hsub
            simp only at s0 s1 s2 s3 s4
            have s5 : (lo == hi') = false := by simpa using s4
            rw [decide_eq_true (by omega)] at HC1 HC2
            clear s4
            go_wp2_with fail
            go_quiet (first | (go_at_call_of 25 lo; exact quietC HC1.out _) | (go_at_call_of 25 hi'; exact quietC HC2.out _))
            go_wp2
            go_roundw
            case rel =>
              refine ⟨k + 1, by omega, by go_num, fun j hj q hq => ?_, below_drewN hb _⟩
              by_cases hjk : j < k
              · exact HSB.out j hjk q hq
              · obtain rfl : j = k := by omega
                rw [HP.out] at hq
                injection hq with hq
                subst hq
                exact HS.out
            case measure => simp [intOf]; omega
          · have HR : Hid (isSorts ⟨names, subs⟩ = false) := HF.out (fun h => hsub (by have := h.subs (lo, hi') (List.mem_of_getElem? HP.out); rw [← HN.out]; exact this))
            have HS : Hid (¬ SubOk n (lo, hi')) := hsub
            clear hsub
            by_cases hl : 0 ≤ lo ∧ lo ≤ (n : Int) - 1
            · rw [decide_eq_true hl] at HC1
              by_cases hh : 0 ≤ hi' ∧ hi' ≤ (n : Int) - 1
              · have s5 : (lo == hi') = true := by
                  simp only [beq_iff_eq]
                  apply Classical.byContradiction
                  intro hne
                  exact HS.out ⟨hl.1, by simp only; omega, hh.1, by simp only; omega, hne⟩
                rw [decide_eq_true hh] at HC2
                clear hl hh
                go_wp2_with fail
                go_quiet (first | (go_at_call_of 25 lo; exact quietC HC1.out _) | (go_at_call_of 25 hi'; exact quietC HC2.out _))
                go_wp2
                go_ret
                exact ⟨ret_bool HR.out.symm, hbW.trans ((below_drewN hb _).mono hbW.size)⟩
              · rw [decide_eq_false hh] at HC2
                clear hl hh
                go_wp2_with fail
                go_quiet (first | (go_at_call_of 25 lo; exact quietC HC1.out _) | (go_at_call_of 25 hi'; exact quietC HC2.out _))
                go_wp2
                go_ret
                exact ⟨ret_bool HR.out.symm, hbW.trans ((below_drewN hb _).mono hbW.size)⟩
            · rw [decide_eq_false hl] at HC1
              clear hl
              go_wp2_with fail
              go_quiet (first | (go_at_call_of 25 lo; exact quietC HC1.out _) | (go_at_call_of 25 hi'; exact quietC HC2.out _))
              go_wp2
              go_ret
              exact ⟨ret_bool HR.out.symm, hbW.trans ((below_drewN hb _).mono hbW.size)⟩
        · have HSUB : Hid (∀ p ∈ subs, SubOk n p) := fun p hp => by
            obtain ⟨j, hj, e⟩ := List.getElem_of_mem hp
            exact HSB.out j (by have := HM.out; omega) p (by rw [List.getElem?_eq_getElem hj, e])
          clear HSB
          go_wp2_with fail
          refine (specUp ⟨names, subs⟩ S _ _ HOK.out (HV0.out.below (hbW.trans (hb.mono hbW.size))) (by have := HN.out; simp only; omega) (by have := HN.out; simp only; omega) (SortsOk.subsIn (s := ⟨names, subs⟩) (by have := HN.out; simp only; rw [this]; exact HSUB.out))).mono ?_
          rintro e w2 ⟨v, rfl, hI, hb2⟩
          have HUP := Lib.hid (up_ok (s := ⟨names, subs⟩) (SortsOk.subsIn (s := ⟨names, subs⟩) (by have := HN.out; simp only; rw [this]; exact HSUB.out)))
          rw [show (⟨names, subs⟩ : Srt).names.length = n from HN.out] at HUP
          have HT' : Hid ((∀ i k, i < n → k < n → PairOk (up ⟨names, subs⟩) i k) → isSorts ⟨names, subs⟩ = true) := fun h => HT.out ⟨by have := HN.out; simp only; omega, by have := HN.out; simp only; omega, by have := HM.out; simp only; omega, by have := HN.out; simp only; rw [this]; exact HNM.out, by have := HN.out; simp only; rw [this]; exact HSUB.out, by have := HN.out; simp only; rw [this]; exact h⟩
          have HF' : Hid ((∃ i k, i < n ∧ k < n ∧ ¬ PairOk (up ⟨names, subs⟩) i k) → isSorts ⟨names, subs⟩ = false) := fun ⟨i, k, hi, hk, hp⟩ => HF.out (fun h => hp (h.pairs i k (by have := HN.out; simp only; omega) (by have := HN.out; simp only; omega)))
          generalize up ⟨names, subs⟩ = u at hI HUP HT' HF'
          have hwb : Below w.heap.size w w2 := hbW.trans ((hb.trans (hb2.mono hb.size)).mono hbW.size)
          obtain ⟨A, cap, rfl, hcc, hmm, hA⟩ := hI.form
          rw [casts_len, HUP.out.1] at hA hcc
          obtain ⟨g, rfl, hg1, hg2⟩ := hA (by omega)
          have HI : Hid (Ints w2 wr.heap.size (Value.slice (some { block := g, off := 0 }) n cap) (casts u)) := by rw [casts_len, HUP.out.1] at hI; exact hI
          rw [casts_len, HUP.out.1]
          clear hI hA HT HF HNM HSUB HV0 E0 E1 pw0 pw1
          unfold maxLen at hmm
          have hb256 : 2 ^ n ≤ 2 ^ 8 := Nat.pow_le_pow_right (by omega) hn8
          have HC : Hid (∀ i, i < n → w2.cell? ⟨g, i, none⟩ = some (.int .i64 ((u.getD i 0 : Nat) : Int)) ∧ u.getD i 0 < 4611686018427387904) := fun i hi => by
            obtain ⟨q1, q2⟩ := HUP.out.get hi
            exact ⟨HI.out.cell (casts_get q1), by omega⟩
          clear hb256
          go_wp2
          go_loopw [6] (fun i wx => ∃ j : Nat, j ≤ n ∧ i = .int .i64 j ∧ (∀ a k, a < j → k < a → PairOk u a k) ∧ Below w2.heap.size w2 wx) (fun i _ => n - (intOf i).toNat)
          case atStart => exact ⟨0, Nat.zero_le _, rfl, fun a k h => absurd h (by omega), Below.refl _ _⟩
          case round =>
            obtain ⟨j, hj, rfl, hpairs, hbx⟩ := hrel
            have HPA := Lib.hid hpairs
            clear hpairs
            by_cases hjn : j < n
            · go_wp2
              have hbx0 := hbx
              clear hbx
              go_loopw [7] (fun i wx => ∃ k : Nat, k ≤ j ∧ i = .int .i64 k ∧ (∀ q, q < k → PairOk u j q) ∧ Below w2.heap.size w2 wx) (fun i _ => j - (intOf i).toNat)
              case atStart => exact ⟨0, Nat.zero_le _, rfl, fun q h => absurd h (by omega), hbx0⟩
              case round =>
                obtain ⟨k, hk, rfl, hpk, hbx⟩ := hrel
                have HPK := Lib.hid hpk
                clear hpk
                by_cases hkn : k < j
                · obtain ⟨c0, x0⟩ := HC.out j hjn
                  obtain ⟨c1, x1⟩ := HC.out k (by omega)
                  have d0 := (hbx.cell (p := ⟨g, j, none⟩) hg2).trans c0
                  have d1 := (hbx.cell (p := ⟨g, k, none⟩) hg2).trans c1
                  have HP : Hid (PairOk u j k ↔ ¬ (j ≠ k ∧ (u.getD j 0).testBit k = true ∧ (u.getD k 0).testBit j = true)) := Iff.rfl
                  have HF2 : Hid (¬ PairOk u j k → isSorts ⟨names, subs⟩ = false) := fun h => HF'.out ⟨j, k, hjn, by omega, h⟩
                  have HNX : Hid (PairOk u j k → ∀ q, q < k + 1 → PairOk u j q) := fun h q hq => by
                    by_cases hqk : q < k
                    · exact HPK.out q hqk
                    · obtain rfl : q = k := by omega
                      exact h
                  have HC1 := Lib.hid (specHas (u.getD j 0) k x0 (by omega))
                  have HC2 := Lib.hid (specHas (u.getD k 0) j x1 (by omega))
                  clear c0 c1 x0 x1
                  generalize u.getD j 0 = x at *
                  generalize u.getD k 0 = y at *
                  cases hA1 : x.testBit k
                  · rw [hA1] at HC1
                    have HO : Hid (PairOk u j k) := HP.out.2 (fun h => by rw [hA1] at h; exact absurd h.2.1 (by simp))
                    clear hA1
                    go_wp2_with (first | (go_at_call_of 64 x; refine (HC1.out _).mono ?_; rintro e w3 ⟨rfl, rfl⟩) | (go_at_call_of 64 y; refine (HC2.out _).mono ?_; rintro e w3 ⟨rfl, rfl⟩))
                    go_roundw
                    case rel => exact ⟨k + 1, by omega, by go_num, HNX.out HO.out, hbx⟩
                    case measure => simp [intOf]; omega
                  cases hA2 : y.testBit j
                  · rw [hA1] at HC1
                    rw [hA2] at HC2
                    have HO : Hid (PairOk u j k) := HP.out.2 (fun h => by rw [hA2] at h; exact absurd h.2.2 (by simp))
                    clear hA1 hA2
                    go_wp2_with (first | (go_at_call_of 64 x; refine (HC1.out _).mono ?_; rintro e w3 ⟨rfl, rfl⟩) | (go_at_call_of 64 y; refine (HC2.out _).mono ?_; rintro e w3 ⟨rfl, rfl⟩))
                    go_roundw
                    case rel => exact ⟨k + 1, by omega, by go_num, HNX.out HO.out, hbx⟩
                    case measure => simp [intOf]; omega
                  · rw [hA1] at HC1
                    rw [hA2] at HC2
                    have HO : Hid (isSorts ⟨names, subs⟩ = false) := HF2.out (fun h => HP.out.1 h ⟨by omega, hA1, hA2⟩)
                    clear hA1 hA2
                    go_wp2_with (first | (go_at_call_of 64 x; refine (HC1.out _).mono ?_; rintro e w3 ⟨rfl, rfl⟩) | (go_at_call_of 64 y; refine (HC2.out _).mono ?_; rintro e w3 ⟨rfl, rfl⟩))
                    go_ret
                    exact ⟨ret_bool HO.out.symm, hwb.trans (hbx.mono hwb.size)⟩
                · have HNX : Hid (∀ a k, a < j + 1 → k < a → PairOk u a k) := fun a q ha hq => by
                    by_cases haj : a < j
                    · exact HPA.out a q haj hq
                    · obtain rfl : a = j := by omega
                      exact HPK.out q (by omega)
                  go_wp2
                  go_roundw
                  case rel => exact ⟨j + 1, by omega, by go_num, HNX.out, hbx⟩
                  case measure => simp [intOf]; omega
            · obtain rfl : n = j := by omega
              have HO : Hid (isSorts ⟨names, subs⟩ = true) := HT'.out (fun i k hi hk => by
                by_cases h1 : k < i
                · exact HPA.out i k hi h1
                · intro ⟨h2, h3, h4⟩
                  exact HPA.out k i hk (by omega) ⟨fun e => h2 e.symm, h4, h3⟩)
              go_wp2
              go_ret
              exact ⟨ret_bool HO.out.symm, hwb.trans (hbx.mono hwb.size)⟩
end Go.Proofs.Ytlhbdhdaecchoaa
