/-
  Comparing occurrences: the reference's way (walked).
-/
import Derived.Test.YtiglacjigkcgkaaOcc3
set_option linter.unusedSimpArgs false
set_option linter.unusedVariables false
namespace Go.Proofs.Ytiglacjigkcgkaa
open Go.RowKit

set_option maxHeartbeats 2000000 in
set_option maxRecDepth 100000 in
theorem specPaths (x y : List Int) (S S' : Nat → Prop) (v v' : Value) (w : World) (hx : okInts x) (hy : okInts y) (hv : Rep w S (.sl (encInts x)) v) (hv' : Rep w S' (.sl (encInts y)) v') :
    Calls Try.prog 40 #[v, v'] w fun e w' => e = .returned (.int .i64 (lexL cmpInt x y)) ∧ Below w.heap.size w w' := by
  obtain ⟨A, m, cap, rfl, hm, hmc, hcm⟩ := hv.form
  obtain ⟨A', m', cap', rfl, hm', hmc', hcm'⟩ := hv'.form
  rw [encInts_len] at hm hm'
  have HV := Lib.hid hv
  have HV' := Lib.hid hv'
  have HM := Lib.hid hm
  have HM' := Lib.hid hm'
  have HX := Lib.hid hx
  have HY := Lib.hid hy
  clear hv hv' hm hm' hx hy
  unfold maxLen at hcm hcm'
  go_enter Try.func40, Try.ntmps40
  go_wp2
  go_loopw [5] (fun i wr => ∃ k : Nat, k ≤ m ∧ k ≤ m' ∧ i = .int .i64 k ∧ lexL cmpInt x y = lexL cmpInt (x.drop k) (y.drop k) ∧ Below w.heap.size w wr) (fun i _ => m - (intOf i).toNat)
  case atStart => exact ⟨0, Nat.zero_le _, Nat.zero_le _, rfl, rfl, Below.refl _ _⟩
  case round =>
    obtain ⟨k, hk, hk', rfl, hz, hb⟩ := hrel
    have HZ := Lib.hid hz
    clear hz
    by_cases hkm : k < m
    · obtain ⟨b, off, r, rfl, hS, hbz, hget, hokr, hrow⟩ := (HV.out.below hb).get (okInts_enc HX.out) hkm
      obtain ⟨u0, c0, hvals⟩ := hrow.vals1 hokr.len
      rw [encInts_get] at hget
      obtain ⟨t, ht, rfl⟩ := Option.map_eq_some_iff.1 hget
      simp only [RepVals, Rep.lit_iff, and_true] at hvals
      subst hvals
      have HT := Lib.hid ht
      clear hokr hrow hget ht
      simp only [fieldsOf, List.length_cons, List.length_nil, Nat.reduceAdd, Nat.mul_one] at c0
      have k0 : (0 : Int) ≤ (k : Int) := by omega
      have k1 : (k : Int) < (m : Int) := by omega
      have hd1 : decide (k < m) = true := by simpa using hkm
      by_cases hkm' : k < m'
      · obtain ⟨b', off', r', rfl, hS', hbz', hget', hokr', hrow'⟩ := (HV'.out.below hb).get (okInts_enc HY.out) hkm'
        obtain ⟨x0, d0, hvals'⟩ := hrow'.vals1 hokr'.len
        rw [encInts_get] at hget'
        obtain ⟨t', ht', rfl⟩ := Option.map_eq_some_iff.1 hget'
        simp only [RepVals, Rep.lit_iff, and_true] at hvals'
        subst hvals'
        have HT' := Lib.hid ht'
        clear hokr' hrow' hget' ht'
        simp only [fieldsOf, List.length_cons, List.length_nil, Nat.reduceAdd, Nat.mul_one] at d0
        have k2 : (k : Int) < (m' : Int) := by omega
        have hd2 : decide (k < m') = true := by simpa using hkm'
        have HST := Lib.hid (lexL_step (c := cmpInt) HT.out HT'.out)
        by_cases hc0 : t = t'
        · subst hc0
          have hs := Lib.hid (cmpInt_zero.2 (rfl : t = t))
          go_wp2_with fail
          go_quiet (fail)
          go_wp2
          go_roundw
          case rel => exact ⟨k + 1, by omega, by omega, by go_num, by rw [HZ.out, HST.out, firstNZ2_zero hs.out], hb.trans (below_drewN (Below.refl _ _) _)⟩
          case measure => simp [intOf]; omega
        · have hc1 : (t == t') = false := by simpa using hc0
          have hc2 : (t != t') = true := by simpa using hc0
          have hne := Lib.hid (fun e => hc0 (cmpInt_zero.1 e) : cmpInt t t' ≠ 0)
          have HC0 := Lib.hid hc0
          clear hc0
          by_cases hlt : t < t'
          · have hlt1 : decide (t < t') = true := by simpa using hlt
            go_wp2_with fail
            go_quiet (fail)
            go_wp2_with fail
            go_quiet (fail)
            go_wp2
            go_ret
            exact ⟨ret_int (a := -1) (by rw [HZ.out, HST.out, firstNZ2_nz hne.out]; unfold cmpInt; rw [if_pos hlt]), hb.trans (below_drewN (below_drewN (Below.refl _ _) _) _)⟩
          · have hlt1 : decide (t < t') = false := by simpa using hlt
            have HL := Lib.hid hlt
            go_wp2_with fail
            go_quiet (fail)
            go_wp2_with fail
            go_quiet (fail)
            go_wp2
            go_ret
            exact ⟨ret_int (a := 1) (by have h1 := HC0.out
                                        have h2 := HL.out
                                        rw [HZ.out, HST.out, firstNZ2_nz hne.out]; unfold cmpInt; rw [if_neg (by omega), if_pos (by omega)]), hb.trans (below_drewN (below_drewN (Below.refl _ _) _) _)⟩
      · have hd2 : decide (k < m') = false := by simpa using hkm'
        have hmm : ¬ m < m' := by omega
        have hmm2 : m' < m := by omega
        go_wp2
        go_ret
        exact ⟨ret_int (a := 1) (by rw [HZ.out, lexL_left (by have := HM.out; omega) (by have := HM'.out; omega)]), hb⟩
    · have hd1 : decide (k < m) = false := by simpa using hkm
      by_cases hlt : m < m'
      · go_wp2
        go_ret
        exact ⟨ret_int (a := -1) (by rw [HZ.out, lexL_right (by have := HM.out; omega) (by have := HM'.out; omega)]), hb⟩
      · have hlt2 : ¬ m' < m := by omega
        go_wp2
        go_ret
        exact ⟨ret_int (a := 0) (by rw [HZ.out, lexL_end (by have := HM.out; omega) (by have := HM'.out; omega)]), hb⟩

set_option maxHeartbeats 1000000 in
set_option maxRecDepth 100000 in
theorem specLists (x y : List Tm) (S S' : Nat → Prop) (v v' : Value) (w : World) (hx : okTms x) (hy : okTms y) (hv : Rep w S (.sl (encTms x)) v) (hv' : Rep w S' (.sl (encTms y)) v') :
    Calls Try.prog 41 #[v, v'] w fun e w' => e = .returned (.int .i64 (cmpTms x y)) ∧ Below w.heap.size w w' := by
  have hI : I64 0 := ⟨by omega, by omega⟩
  have H := Lib.hid (specCompareTerms (.mk 0 .empty 0 x) (.mk 0 .empty 0 y) S S' [.int .i64 0, .string .empty, .int .i64 0, v] [.int .i64 0, .string .empty, .int .i64 0, v'] w
    (by simp only [okTm]; exact ⟨hI, by simp [maxLen], hI, hx⟩) (by simp only [okTm]; exact ⟨hI, by simp [maxLen], hI, hy⟩)
    (by simp only [encTm]; exact mkVals_Term hv) (by simp only [encTm]; exact mkVals_Term hv'))
  have HF : Hid (cmpTm (.mk 0 .empty 0 x) (.mk 0 .empty 0 y) = cmpTms x y) := by
    show _ = _
    simp only [cmpTm, firstNZ, if_pos (cmpInt_zero.2 (rfl : (0 : Int) = 0)), if_pos (cmpStr_zero.2 (rfl : ByteArray.empty = .empty))]
    split <;> simp_all
  obtain ⟨A, m, cap, rfl, _⟩ := hv.form
  obtain ⟨A', m', cap', rfl, _⟩ := hv'.form
  clear hx hy hv hv' hI
  go_enter Try.func41, Try.ntmps41
  go_wp2_with fail
  refine H.out.mono ?_
  rintro e w1 ⟨rfl, hb1⟩
  go_wp2
  go_ret
  exact ⟨ret_int HF.out, hb1⟩

set_option maxHeartbeats 4000000 in
set_option maxRecDepth 100000 in
theorem specSubsts (x y : List Bd) (S S' : Nat → Prop) (v v' : Value) (w : World) (hx : okBds x) (hy : okBds y) (hv : Rep w S (.sl (encBds x)) v) (hv' : Rep w S' (.sl (encBds y)) v') :
    Calls Try.prog 42 #[v, v'] w fun e w' => e = .returned (.int .i64 (lexL cmpBd x y)) ∧ Below w.heap.size w w' := by
  obtain ⟨A, m, cap, rfl, hm, hmc, hcm⟩ := hv.form
  obtain ⟨A', m', cap', rfl, hm', hmc', hcm'⟩ := hv'.form
  rw [encBds_len] at hm hm'
  have HV := Lib.hid hv
  have HV' := Lib.hid hv'
  have HM := Lib.hid hm
  have HM' := Lib.hid hm'
  have HX := Lib.hid hx
  have HY := Lib.hid hy
  clear hv hv' hm hm' hx hy
  unfold maxLen at hcm hcm'
  go_enter Try.func42, Try.ntmps42
  go_wp2
  go_loopw [5] (fun i wr => ∃ k : Nat, k ≤ m ∧ k ≤ m' ∧ i = .int .i64 k ∧ lexL cmpBd x y = lexL cmpBd (x.drop k) (y.drop k) ∧ Below w.heap.size w wr) (fun i _ => m - (intOf i).toNat)
  case atStart => exact ⟨0, Nat.zero_le _, Nat.zero_le _, rfl, rfl, Below.refl _ _⟩
  case round =>
    obtain ⟨k, hk, hk', rfl, hz, hb⟩ := hrel
    have HZ := Lib.hid hz
    clear hz
    by_cases hkm : k < m
    · obtain ⟨b, off, r, rfl, hS, hbz, hget, hokr, hrow⟩ := (HV.out.below hb).get (okRows_encBds HX.out) hkm
      obtain ⟨u0, u1, u2, u3, u4, u5, u6, u7, c0, c1, c2, c3, c4, c5, c6, c7, hvals⟩ := hrow.vals8 hokr.len
      rw [encBds_get] at hget
      obtain ⟨⟨p, q⟩, ht, rfl⟩ := Option.map_eq_some_iff.1 hget
      have lp : ∀ (t : Tm), (encTm t).length = 4 := fun t => by cases t; rfl
      obtain ⟨hp, hq⟩ := repVals_cat (us := [u0, u1, u2, u3]) (vs := [u4, u5, u6, u7]) hvals (by simp [lp])
      have hok1 := HX.out _ (List.mem_of_getElem? ht)
      simp only [okBd] at hok1
      have OK1 := Lib.hid hok1
      have HP := Lib.hid hp
      have HQ := Lib.hid hq
      have HT := Lib.hid ht
      clear hvals hokr hrow hget ht hp hq hok1
      simp only [fieldsOf, termF, List.cons_append, List.nil_append, List.length_cons, List.length_nil, Nat.reduceAdd] at c0 c1 c2 c3 c4 c5 c6 c7
      have k0 : (0 : Int) ≤ (k : Int) := by omega
      have k1 : (k : Int) < (m : Int) := by omega
      have hd1 : decide (k < m) = true := by simpa using hkm
      by_cases hkm' : k < m'
      · obtain ⟨b', off', r', rfl, hS', hbz', hget', hokr', hrow'⟩ := (HV'.out.below hb).get (okRows_encBds HY.out) hkm'
        obtain ⟨x0, x1, x2, x3, x4, x5, x6, x7, d0, d1, d2, d3, d4, d5, d6, d7, hvals'⟩ := hrow'.vals8 hokr'.len
        rw [encBds_get] at hget'
        obtain ⟨⟨p', q'⟩, ht', rfl⟩ := Option.map_eq_some_iff.1 hget'
        obtain ⟨hp', hq'⟩ := repVals_cat (us := [x0, x1, x2, x3]) (vs := [x4, x5, x6, x7]) hvals' (by simp [lp])
        have hok2 := HY.out _ (List.mem_of_getElem? ht')
        simp only [okBd] at hok2
        have OK2 := Lib.hid hok2
        have HP' := Lib.hid hp'
        have HQ' := Lib.hid hq'
        have HT' := Lib.hid ht'
        clear hvals' hokr' hrow' hget' ht' hp' hq' hok2 lp
        simp only [fieldsOf, termF, List.cons_append, List.nil_append, List.length_cons, List.length_nil, Nat.reduceAdd] at d0 d1 d2 d3 d4 d5 d6 d7
        have k2 : (k : Int) < (m' : Int) := by omega
        have hd2 : decide (k < m') = true := by simpa using hkm'
        have CP := Lib.hid (specCompareTerms p p')
        have CQ := Lib.hid (specCompareTerms q q')
        have HST := Lib.hid (lexL_step (c := cmpBd) HT.out HT'.out)
        have HBD : Hid (cmpBd ⟨p, q⟩ ⟨p', q'⟩ = firstNZ [cmpTm p p', cmpTm q q']) := rfl
        have brr := (Below.refl wr.heap.size wr).drew
        go_wp2_with fail
        go_region_held3 (fun w' => ∀ b o, b < wr.heap.size → w'.cell? ⟨b, o, none⟩ = wr.cell? ⟨b, o, none⟩) (first | exact fun b o h => hb2.cell (p := ⟨b, o, none⟩) h | go_keep)
          (first | (go_at_call 57; refine (CP.out S S' _ _ _ OK1.out.1 OK2.out.1 (HP.out.below brr) (HP'.out.below brr)).mono ?_; rintro e w2 ⟨rfl, hb2⟩))
        have br2 : Below wr.heap.size wr w2 := brr.trans (hb2.mono (Nat.le_refl _))
        obtain ⟨hc2, _⟩ := bcell br2
        generalize hc : cmpTm p p' = c at HBD ⊢
        clear hc
        by_cases hc0 : c = 0
        · subst hc0
          go_wp2_with fail
          have brd := br2.drew
          go_region_held3 (fun w' => ∀ b o, b < wr.heap.size → w'.cell? ⟨b, o, none⟩ = wr.cell? ⟨b, o, none⟩) (first | exact fun b o h => (hb3.cell (p := ⟨b, o, none⟩) (Nat.lt_of_lt_of_le h br2.size)).trans (hc2 b o h) | exact fun b o h => hc2 b o h | go_keep)
            (first | (go_at_call 57; refine (CQ.out S S' _ _ _ OK1.out.2 OK2.out.2 (HQ.out.below brd) (HQ'.out.below brd)).mono ?_; rintro e w3 ⟨rfl, hb3⟩))
          have br3 : Below wr.heap.size wr w3 := brd.trans (hb3.mono (show wr.heap.size ≤ w2.heap.size from br2.size))
          generalize hc' : cmpTm q q' = c' at HBD ⊢
          clear hc'
          by_cases hc1 : c' = 0
          · subst hc1
            go_wp2
            go_roundw
            case rel => exact ⟨k + 1, by omega, by omega, by go_num, by rw [HZ.out, HST.out, HBD.out]; exact firstNZ2_zero (firstNZ2_zero rfl), hb.trans (br3.mono hb.size)⟩
            case measure => simp [intOf]; omega
          · have hq1 : (c' == 0) = false := by simpa using hc1
            have hq2 : (c' != 0) = true := by simpa using hc1
            go_wp2
            go_ret
            exact ⟨ret_int (by rw [HZ.out, HST.out, HBD.out, firstNZ2_zero rfl, firstNZ2_nz hc1]), hb.trans (br3.mono hb.size)⟩
        · have hq1 : (c == 0) = false := by simpa using hc0
          have hq2 : (c != 0) = true := by simpa using hc0
          go_wp2
          go_ret
          exact ⟨ret_int (by rw [HZ.out, HST.out, HBD.out, firstNZ2_nz (a := c) hc0, firstNZ2_nz hc0]), hb.trans (br2.mono hb.size)⟩
      · have hd2 : decide (k < m') = false := by simpa using hkm'
        have hmm : ¬ m < m' := by omega
        have hmm2 : m' < m := by omega
        go_wp2
        go_ret
        exact ⟨ret_int (a := 1) (by rw [HZ.out, lexL_left (by have := HM.out; omega) (by have := HM'.out; omega)]), hb⟩
    · have hd1 : decide (k < m) = false := by simpa using hkm
      by_cases hlt : m < m'
      · go_wp2
        go_ret
        exact ⟨ret_int (a := -1) (by rw [HZ.out, lexL_right (by have := HM.out; omega) (by have := HM'.out; omega)]), hb⟩
      · have hlt2 : ¬ m' < m := by omega
        go_wp2
        go_ret
        exact ⟨ret_int (a := 0) (by rw [HZ.out, lexL_end (by have := HM.out; omega) (by have := HM'.out; omega)]), hb⟩

set_option maxHeartbeats 4000000 in
set_option maxRecDepth 100000 in
theorem specCompareOcc (a b : Occ) : cmpOccC 22 a b := by
  intro S S' us us' w ha hb hv hv'
  obtain ⟨pa, la, ra, ma⟩ := a
  obtain ⟨pb, lb, rb, mb⟩ := b
  simp only [encOcc] at hv hv'
  obtain ⟨v0, v1, v2, v3, rfl, e0, e1, e2, e3⟩ := repVals_Occurrence hv
  obtain ⟨x0, x1, x2, x3, rfl, d0, d1, d2, d3⟩ := repVals_Occurrence hv'
  simp only [okOcc] at ha hb
  have OA := Lib.hid ha
  have OB := Lib.hid hb
  have E0 := Lib.hid e0
  have E1 := Lib.hid e1
  have E2 := Lib.hid e2
  have E3 := Lib.hid e3
  have D0 := Lib.hid d0
  have D1 := Lib.hid d1
  have D2 := Lib.hid d2
  have D3 := Lib.hid d3
  have HF : Hid (cmpOcc ⟨pa, la, ra, ma⟩ ⟨pb, lb, rb, mb⟩ = firstNZ [lexL cmpInt pa pb, cmpTms la lb, cmpTms ra rb, lexL cmpBd ma mb]) := rfl
  clear ha hb hv hv' e0 e1 e2 e3 d0 d1 d2 d3
  go_enter Try.func22, Try.ntmps22
  go_wp2_with fail
  generalize hW : (w.alloc _).alloc _ = W
  have hbW : Below w.heap.size w W := by rw [← hW]; exact ((Below.refl _ _).alloc (Nat.le_refl _) _).alloc (by simp) _
  have p0 : W.cell? ⟨w.heap.size, 0, none⟩ = some v0 := by rw [← hW]; simp
  have q0 : W.cell? ⟨w.heap.size + 1, 0, none⟩ = some x0 := by rw [← hW]; simp
  have p1 : W.cell? ⟨w.heap.size, 1, none⟩ = some v1 := by rw [← hW]; simp
  have q1 : W.cell? ⟨w.heap.size + 1, 1, none⟩ = some x1 := by rw [← hW]; simp
  have p2 : W.cell? ⟨w.heap.size, 2, none⟩ = some v2 := by rw [← hW]; simp
  have q2 : W.cell? ⟨w.heap.size + 1, 2, none⟩ = some x2 := by rw [← hW]; simp
  have p3 : W.cell? ⟨w.heap.size, 3, none⟩ = some v3 := by rw [← hW]; simp
  have q3 : W.cell? ⟨w.heap.size + 1, 3, none⟩ = some x3 := by rw [← hW]; simp
  have z0 : w.heap.size < W.heap.size := by rw [← hW]; simp; omega
  have z1 : w.heap.size + 1 < W.heap.size := by rw [← hW]; simp
  clear hW
  refine (specPaths pa pb S S' _ _ _ OA.out.1 OB.out.1 (E0.out.below hbW) (D0.out.below hbW)).mono ?_
  rintro e w1 ⟨rfl, hb1⟩
  have bW1 := hb1
  obtain ⟨hc1, _⟩ := bcell bW1
  have hd1 := hbW.trans (bW1.mono hbW.size)
  generalize hq0 : lexL cmpInt pa pb = n0 at HF ⊢
  clear hq0
  by_cases h0 : n0 = 0
  case neg =>
    have t1 : (n0 == 0) = false := by simpa using h0
    have t2 : (n0 != 0) = true := by simpa using h0
    go_wp2
    go_ret
    exact ⟨ret_int (by rw [HF.out]; simp [firstNZ, h0]), hd1⟩
  subst h0
  go_wp2_with fail
  refine (specLists la lb S S' _ _ _ OA.out.2.1 OB.out.2.1 (E1.out.below hd1) (D1.out.below hd1)).mono ?_
  rintro e w2 ⟨rfl, hb2⟩
  have bW2 := bW1.trans (hb2.mono bW1.size)
  obtain ⟨hc2, _⟩ := bcell bW2
  have hd2 := hbW.trans (bW2.mono hbW.size)
  generalize hq1 : cmpTms la lb = n1 at HF ⊢
  clear hq1
  by_cases h1 : n1 = 0
  case neg =>
    have t1 : (n1 == 0) = false := by simpa using h1
    have t2 : (n1 != 0) = true := by simpa using h1
    go_wp2
    go_ret
    exact ⟨ret_int (by rw [HF.out]; simp [firstNZ, h1]), hd2⟩
  subst h1
  go_wp2_with fail
  refine (specLists ra rb S S' _ _ _ OA.out.2.2.1 OB.out.2.2.1 (E2.out.below hd2) (D2.out.below hd2)).mono ?_
  rintro e w3 ⟨rfl, hb3⟩
  have bW3 := bW2.trans (hb3.mono bW2.size)
  obtain ⟨hc3, _⟩ := bcell bW3
  have hd3 := hbW.trans (bW3.mono hbW.size)
  generalize hq2 : cmpTms ra rb = n2 at HF ⊢
  clear hq2
  by_cases h2 : n2 = 0
  case neg =>
    have t1 : (n2 == 0) = false := by simpa using h2
    have t2 : (n2 != 0) = true := by simpa using h2
    go_wp2
    go_ret
    exact ⟨ret_int (by rw [HF.out]; simp [firstNZ, h2]), hd3⟩
  subst h2
  go_wp2_with fail
  refine (specSubsts ma mb S S' _ _ _ OA.out.2.2.2 OB.out.2.2.2 (E3.out.below hd3) (D3.out.below hd3)).mono ?_
  rintro e w4 ⟨rfl, hb4⟩
  have bW4 := bW3.trans (hb4.mono bW3.size)
  go_wp2
  go_ret
  exact ⟨ret_int (by rw [HF.out]; simp only [firstNZ, if_true]; split <;> simp_all), hbW.trans (bW4.mono hbW.size)⟩
end Go.Proofs.Ytiglacjigkcgkaa
