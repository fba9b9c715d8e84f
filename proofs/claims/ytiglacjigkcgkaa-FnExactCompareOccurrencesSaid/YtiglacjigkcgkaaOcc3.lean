/-
  Comparing occurrences: the program's way (walked).
-/
import Derived.Test.YtiglacjigkcgkaaOcc2
set_option linter.unusedSimpArgs false
set_option linter.unusedVariables false
namespace Go.Proofs.Ytiglacjigkcgkaa
open Go.RowKit

set_option maxHeartbeats 2000000 in
set_option maxRecDepth 100000 in
theorem implCompareInts (x y : List Int) (S S' : Nat → Prop) (v v' : Value) (w : World) (hx : okInts x) (hy : okInts y) (hv : Rep w S (.sl (encInts x)) v) (hv' : Rep w S' (.sl (encInts y)) v') :
    Calls Try.prog 45 #[v, v'] w fun e w' => e = .returned (.int .i64 (lexL cmpInt x y)) ∧ Below w.heap.size w w' := by
  obtain ⟨A, m, cap, rfl, hm, hmc, hcm⟩ := hv.form
  obtain ⟨A', m', cap', rfl, hm', hmc', hcm'⟩ := hv'.form
  rw [encInts_len] at hm hm'
  have HV := Lib.hid hv
  have HV' := Lib.hid hv'
  have HM := Lib.hid hm
  have HM' := Lib.hid hm'
  have HX := Lib.hid hx
  have HY := Lib.hid hy
  clear hv hv' hm hm' hx hy
  unfold maxLen at hcm hcm'
  go_enter Try.func45, Try.ntmps45
  go_wp2
  go_loopw [11] (fun i wr => ∃ k : Nat, k ≤ m ∧ k ≤ m' ∧ i = .int .i64 k ∧ lexL cmpInt x y = lexL cmpInt (x.drop k) (y.drop k) ∧ Below w.heap.size w wr) (fun i _ => m - (intOf i).toNat)
  case atStart => exact ⟨0, Nat.zero_le _, Nat.zero_le _, rfl, rfl, Below.refl _ _⟩
  case round =>
    obtain ⟨k, hk, hk', rfl, hz, hb⟩ := hrel
    have HZ := Lib.hid hz
    clear hz
    by_cases hkm : k < m
    · obtain ⟨b, off, r, rfl, hS, hbz, hget, hokr, hrow⟩ := (HV.out.below hb).get (okInts_enc HX.out) hkm
      obtain ⟨u0, c0, hvals⟩ := hrow.vals1 hokr.len
      rw [encInts_get] at hget
      obtain ⟨t, ht, rfl⟩ := Option.map_eq_some_iff.1 hget
      simp only [RepVals, Rep.lit_iff, and_true] at hvals
      subst hvals
      have HT := Lib.hid ht
      clear hokr hrow hget ht
      simp only [fieldsOf, List.length_cons, List.length_nil, Nat.reduceAdd, Nat.mul_one] at c0
      by_cases hkm' : k < m'
      · obtain ⟨b', off', r', rfl, hS', hbz', hget', hokr', hrow'⟩ := (HV'.out.below hb).get (okInts_enc HY.out) hkm'
        obtain ⟨x0, d0, hvals'⟩ := hrow'.vals1 hokr'.len
        rw [encInts_get] at hget'
        obtain ⟨t', ht', rfl⟩ := Option.map_eq_some_iff.1 hget'
        simp only [RepVals, Rep.lit_iff, and_true] at hvals'
        subst hvals'
        have HT' := Lib.hid ht'
        clear hokr' hrow' hget' ht'
        simp only [fieldsOf, List.length_cons, List.length_nil, Nat.reduceAdd, Nat.mul_one] at d0
        go_wp2_with fail
        refine (cmpCompare _ _ _).mono ?_
        rintro e w2 ⟨rfl, rfl⟩
        have HST := Lib.hid (lexL_step (c := cmpInt) HT.out HT'.out)
        generalize hc : cmpInt t t' = c at HST ⊢
        clear hc
        by_cases hc0 : c = 0
        · subst hc0
          go_wp2
          go_roundw
          case rel => exact ⟨k + 1, by omega, by omega, by go_num, by rw [HZ.out, HST.out, firstNZ2_zero rfl], hb⟩
          case measure => simp [intOf]; omega
        · have hc1 : (c == 0) = false := by simpa using hc0
          have hc2 : (c != 0) = true := by simpa using hc0
          go_wp2
          go_ret
          exact ⟨ret_int (by rw [HZ.out, HST.out, firstNZ2_nz hc0]), hb⟩
      · go_wp2
        go_ret
        exact ⟨ret_int (a := 1) (by rw [HZ.out, lexL_left (by have := HM.out; omega) (by have := HM'.out; omega)]), hb⟩
    · by_cases hlt : m < m'
      · go_wp2
        go_ret
        exact ⟨ret_int (a := -1) (by rw [HZ.out, lexL_right (by have := HM.out; omega) (by have := HM'.out; omega)]), hb⟩
      · go_wp2
        go_ret
        exact ⟨ret_int (a := 0) (by rw [HZ.out, lexL_end (by have := HM.out; omega) (by have := HM'.out; omega)]), hb⟩

def cmpOccC (f : FuncId) (a b : Occ) : Prop := ∀ (S S' : Nat → Prop) (us us' : List Value) (w : World), okOcc a → okOcc b → RepVals w S (encOcc a) us → RepVals w S' (encOcc b) us' →
  Calls Try.prog f #[.agg us.toArray, .agg us'.toArray] w fun e w' => e = .returned (.int .i64 (cmpOcc a b)) ∧ Below w.heap.size w w'
set_option maxHeartbeats 4000000 in
set_option maxRecDepth 100000 in
theorem implCompareOcc (a b : Occ) : cmpOccC 24 a b := by
  intro S S' us us' w ha hb hv hv'
  obtain ⟨pa, la, ra, ma⟩ := a
  obtain ⟨pb, lb, rb, mb⟩ := b
  simp only [encOcc] at hv hv'
  obtain ⟨v0, v1, v2, v3, rfl, e0, e1, e2, e3⟩ := repVals_Occurrence hv
  obtain ⟨x0, x1, x2, x3, rfl, d0, d1, d2, d3⟩ := repVals_Occurrence hv'
  simp only [okOcc] at ha hb
  have OA := Lib.hid ha
  have OB := Lib.hid hb
  have E0 := Lib.hid e0
  have E1 := Lib.hid e1
  have E2 := Lib.hid e2
  have E3 := Lib.hid e3
  have D0 := Lib.hid d0
  have D1 := Lib.hid d1
  have D2 := Lib.hid d2
  have D3 := Lib.hid d3
  have HF : Hid (cmpOcc ⟨pa, la, ra, ma⟩ ⟨pb, lb, rb, mb⟩ = firstNZ [lexL cmpInt pa pb, cmpTms la lb, cmpTms ra rb, lexL cmpBd ma mb]) := rfl
  clear ha hb hv hv' e0 e1 e2 e3 d0 d1 d2 d3
  go_enter Try.func24, Try.ntmps24
  go_wp2_with fail
  generalize hW : (w.alloc _).alloc _ = W
  have hbW : Below w.heap.size w W := by rw [← hW]; exact ((Below.refl _ _).alloc (Nat.le_refl _) _).alloc (by simp) _
  have p0 : W.cell? ⟨w.heap.size, 0, none⟩ = some v0 := by rw [← hW]; simp
  have q0 : W.cell? ⟨w.heap.size + 1, 0, none⟩ = some x0 := by rw [← hW]; simp
  have p1 : W.cell? ⟨w.heap.size, 1, none⟩ = some v1 := by rw [← hW]; simp
  have q1 : W.cell? ⟨w.heap.size + 1, 1, none⟩ = some x1 := by rw [← hW]; simp
  have p2 : W.cell? ⟨w.heap.size, 2, none⟩ = some v2 := by rw [← hW]; simp
  have q2 : W.cell? ⟨w.heap.size + 1, 2, none⟩ = some x2 := by rw [← hW]; simp
  have p3 : W.cell? ⟨w.heap.size, 3, none⟩ = some v3 := by rw [← hW]; simp
  have q3 : W.cell? ⟨w.heap.size + 1, 3, none⟩ = some x3 := by rw [← hW]; simp
  have z0 : w.heap.size < W.heap.size := by rw [← hW]; simp; omega
  have z1 : w.heap.size + 1 < W.heap.size := by rw [← hW]; simp
  have HOR := Lib.hid (fun g w => cmpOr [lexL cmpInt pa pb, cmpTms la lb, cmpTms ra rb, lexL cmpBd ma mb] g 4 4 w rfl (by omega))
  clear hW
  have hd0 := hbW.drew
  go_region_held3 (fun w' => ∀ b o, b < W.heap.size → w'.cell? ⟨b, o, none⟩ = W.cell? ⟨b, o, none⟩)
    (first
      | exact fun b o h => (bW1.cell (p := ⟨b, o, none⟩) h)
      | exact fun b o h => (bW2.cell (p := ⟨b, o, none⟩) h)
      | exact fun b o h => (bW3.cell (p := ⟨b, o, none⟩) h)
      | exact fun b o h => (bW4.cell (p := ⟨b, o, none⟩) h)
      | exact fun b o h => (World.cell?_alloc_lt w4 _ ⟨b, o, none⟩ (Nat.lt_of_lt_of_le h bW4.size)).trans (bW4.cell (p := ⟨b, o, none⟩) h)
      | go_keep)
    (first
      | (go_at_call 45; refine (implCompareInts pa pb S S' _ _ _ OA.out.1 OB.out.1 (E0.out.below hd0) (D0.out.below hd0)).mono ?_; rintro e w1 ⟨rfl, hb1⟩; have bW1 : Below W.heap.size W w1 := (Below.refl _ _).drew.trans hb1; have hd1 := hbW.trans (bW1.mono hbW.size))
      | (go_at_call_of 46 v1; refine (implCompareFunc la lb S S' _ _ _ OA.out.2.1 OB.out.2.1 (E1.out.below hd1) (D1.out.below hd1)).mono ?_; rintro e w2 ⟨rfl, hb2⟩; have bW2 : Below W.heap.size W w2 := bW1.trans (hb2.mono bW1.size); have hd2 := hbW.trans (bW2.mono hbW.size))
      | (go_at_call_of 46 v2; refine (implCompareFunc ra rb S S' _ _ _ OA.out.2.2.1 OB.out.2.2.1 (E2.out.below hd2) (D2.out.below hd2)).mono ?_; rintro e w3 ⟨rfl, hb3⟩; have bW3 : Below W.heap.size W w3 := bW2.trans (hb3.mono bW2.size); have hd3 := hbW.trans (bW3.mono hbW.size))
      | (go_at_call 48; refine (implCompareSubsts ma mb S S' _ _ _ OA.out.2.2.2 OB.out.2.2.2 (E3.out.below hd3) (D3.out.below hd3)).mono ?_; rintro e w4 ⟨rfl, hb4⟩; have bW4 : Below W.heap.size W w4 := bW3.trans (hb4.mono bW3.size); have hd4 := hbW.trans (bW4.mono hbW.size))
      | (go_at_call 44; refine (HOR.out _ _ (cells_of_list' (W := w4))).mono ?_; rintro e w' ⟨rfl, rfl⟩))
  go_wp2
  go_ret
  exact ⟨ret_int (by rw [HF.out]), hd4.alloc hd4.size _⟩
end Go.Proofs.Ytiglacjigkcgkaa
