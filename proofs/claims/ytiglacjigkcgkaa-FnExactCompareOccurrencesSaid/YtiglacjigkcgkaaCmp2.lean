/-
  Comparing lists of terms and terms: the program's way (walked).
-/
import Derived.Test.YtiglacjigkcgkaaCmp
set_option linter.unusedSimpArgs false
set_option linter.unusedVariables false
namespace Go.Proofs.Ytiglacjigkcgkaa
open Go.RowKit

def cmpTmC (f : FuncId) (a b : Tm) : Prop := ∀ (S S' : Nat → Prop) (us us' : List Value) (w : World), okTm a → okTm b → RepVals w S (encTm a) us → RepVals w S' (encTm b) us' →
  Calls Try.prog f #[.agg us.toArray, .agg us'.toArray] w fun e w' => e = .returned (.int .i64 (cmpTm a b)) ∧ Below w.heap.size w w'
def cmpTmsC (f : FuncId) (x y : List Tm) : Prop := ∀ (S S' : Nat → Prop) (v v' : Value) (w : World), okTms x → okTms y → Rep w S (.sl (encTms x)) v → Rep w S' (.sl (encTms y)) v' →
  Calls Try.prog f #[v, v', .func (.func 47) #[] #[]] w fun e w' => e = .returned (.int .i64 (cmpTms x y)) ∧ Below w.heap.size w w'
theorem firstNZ2_zero {a b : Int} (h : a = 0) : firstNZ [a, b] = b := by
  simp only [firstNZ, h, if_true]
  split <;> simp_all
theorem firstNZ2_nz {a b : Int} (h : a ≠ 0) : firstNZ [a, b] = a := by simp [firstNZ, h]

set_option maxHeartbeats 2000000 in
set_option maxRecDepth 100000 in
theorem implCompareFunc_of (x y : List Tm) (h : ∀ (i : Nat) a b, x[i]? = some a → y[i]? = some b → cmpTmC 47 a b) : cmpTmsC 46 x y := by
  intro S S' v v' w hx hy hv hv'
  obtain ⟨A, m, cap, rfl, hm, hmc, hcm⟩ := hv.form
  obtain ⟨A', m', cap', rfl, hm', hmc', hcm'⟩ := hv'.form
  rw [encTms_len] at hm hm'
  obtain ⟨ic, hci, _, hcs, _⟩ := info_parts info_Term
  have H := Lib.hid h
  have HV := Lib.hid hv
  have HV' := Lib.hid hv'
  have HM := Lib.hid hm
  have HM' := Lib.hid hm'
  have HX := Lib.hid hx
  have HY := Lib.hid hy
  clear h hv hv' hm hm' hx hy
  unfold maxLen at hcm hcm'
  go_enter Try.func46, Try.ntmps46
  go_wp2
  go_loopw [13] (fun i wr => ∃ k : Nat, k ≤ m ∧ k ≤ m' ∧ i = .int .i64 k ∧ cmpTms x y = cmpTms (x.drop k) (y.drop k) ∧ Below w.heap.size w wr) (fun i _ => m - (intOf i).toNat)
  case atStart => exact ⟨0, Nat.zero_le _, Nat.zero_le _, rfl, rfl, Below.refl _ _⟩
  case round =>
    obtain ⟨k, hk, hk', rfl, hz, hb⟩ := hrel
    have HZ := Lib.hid hz
    clear hz
    by_cases hkm : k < m
    · obtain ⟨b, off, r, rfl, hS, hbz, hget, hokr, hrow⟩ := (HV.out.below hb).get (okRows_enc x HX.out) hkm
      obtain ⟨u0, u1, u2, u3, c0, c1, c2, c3, hvals⟩ := hrow.vals4 hokr.len
      have hone := okRow.one hokr hvals
      rw [encTms_get] at hget
      obtain ⟨t, ht, rfl⟩ := Option.map_eq_some_iff.1 hget
      have HVALS := Lib.hid hvals
      have HONE := Lib.hid hone
      have HT := Lib.hid ht
      clear hvals hokr hrow hget hone ht
      simp only [fieldsOf, termF, List.length_cons, List.length_nil, Nat.reduceAdd] at c0 c1 c2 c3
      by_cases hkm' : k < m'
      · obtain ⟨b', off', r', rfl, hS', hbz', hget', hokr', hrow'⟩ := (HV'.out.below hb).get (okRows_enc y HY.out) hkm'
        obtain ⟨x0, x1, x2, x3, d0, d1, d2, d3, hvals'⟩ := hrow'.vals4 hokr'.len
        have hone' := okRow.one hokr' hvals'
        rw [encTms_get] at hget'
        obtain ⟨t', ht', rfl⟩ := Option.map_eq_some_iff.1 hget'
        have HVALS' := Lib.hid hvals'
        have HONE' := Lib.hid hone'
        have HT' := Lib.hid ht'
        clear hvals' hokr' hrow' hget' hone' ht'
        simp only [fieldsOf, termF, List.length_cons, List.length_nil, Nat.reduceAdd] at d0 d1 d2 d3
        have hbb : ∀ o1 o2, Below w.heap.size w ((wr.alloc o1).alloc o2) := fun o1 o2 => (hb.alloc hb.size o1).alloc (by have := hb.size; simp; omega) o2
        have hbr : ∀ o1 o2, Below wr.heap.size wr ((wr.alloc o1).alloc o2) := fun o1 o2 => ((Below.refl _ _).alloc (Nat.le_refl _) o1).alloc (by simp) o2
        have hbne : b' ≠ wr.heap.size := by omega
        have HC := Lib.hid (H.out k t t' HT.out HT'.out)
        go_wp2_with (first
          | refine wpList_store_new rfl 29 _ _ rfl _ _ _ rfl _ rfl (by simp) [u0, u1, u2, u3] rfl ic hci hcs rfl HONE.out ?_
          | refine wpList_store_new rfl 29 _ _ rfl _ _ _ rfl _ rfl (by simp) [x0, x1, x2, x3] rfl ic hci hcs rfl HONE'.out ?_)
        refine (HC.out S S' _ _ _ (HX.out.mem (List.mem_of_getElem? HT.out)) (HY.out.mem (List.mem_of_getElem? HT'.out)) (HVALS.out.below (hbr _ _)) (HVALS'.out.below (hbr _ _))).mono ?_
        rintro e w2 ⟨rfl, hb2⟩
        have HST := Lib.hid (cmpTms_step HT.out HT'.out)
        generalize hc : cmpTm t t' = c at HST ⊢
        clear hc
        by_cases hc0 : c = 0
        · subst hc0
          go_wp2
          go_roundw
          case rel => exact ⟨k + 1, by omega, by omega, by go_num, by rw [HZ.out, HST.out, firstNZ2_zero rfl], (hbb _ _).trans (hb2.mono (by have := hb.size; simp; omega))⟩
          case measure => simp [intOf]; omega
        · have hc1 : (c == 0) = false := by simpa using hc0
          have hc2 : (c != 0) = true := by simpa using hc0
          go_wp2
          go_ret
          exact ⟨ret_int (by rw [HZ.out, HST.out, firstNZ2_nz hc0]), (hbb _ _).trans (hb2.mono (by have := hb.size; simp; omega))⟩
      · go_wp2_with (refine wpList_store_new rfl 29 _ _ rfl _ _ _ rfl _ rfl (by simp) [u0, u1, u2, u3] rfl ic hci hcs rfl HONE.out ?_)
        go_ret
        refine ⟨ret_int (a := 1) ?_, hb.alloc hb.size _⟩
        rw [HZ.out]
        have e2 : y.drop k = [] := List.drop_eq_nil_of_le (by have := HM'.out; omega)
        have e1 : x.drop k = t :: x.drop (k + 1) := by
          obtain ⟨hl, hx⟩ := List.getElem?_eq_some_iff.1 HT.out
          rw [← hx]; exact List.drop_eq_getElem_cons hl
        rw [e1, e2, cmpTms]
    · have e1 : x.drop k = [] := List.drop_eq_nil_of_le (by have := HM.out; omega)
      by_cases hlt : m < m'
      · go_wp2
        go_ret
        refine ⟨ret_int (a := -1) ?_, hb⟩
        have hl : k < y.length := by have := HM'.out; omega
        rw [HZ.out, e1, List.drop_eq_getElem_cons hl, cmpTms]
      · go_wp2
        go_ret
        refine ⟨ret_int (a := 0) ?_, hb⟩
        rw [HZ.out, e1, List.drop_eq_nil_of_le (by have := HM'.out; omega), cmpTms]
end Go.Proofs.Ytiglacjigkcgkaa
