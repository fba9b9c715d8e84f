/-
  Comparing bindings and substitutions: the program's way (walked).
-/
import Derived.Test.YtiglacjigkcgkaaOcc
set_option linter.unusedSimpArgs false
set_option linter.unusedVariables false
namespace Go.Proofs.Ytiglacjigkcgkaa
open Go.RowKit
theorem cells_of_list' {W : World} {l : List Int} {t : TypeId} : ∀ (i : Nat) x, l[i]? = some x → (W.alloc (.cells (l.map (Value.int .i64)).toArray t)).cell? ⟨W.heap.size, i, none⟩ = some (.int .i64 x) := by
  intro i x h
  rw [cell_of_row _ _ _ _ _ _ (heap_alloc_new W _)]
  simp [h]

def cmpBdC (f : FuncId) (a b : Bd) : Prop := ∀ (S S' : Nat → Prop) (us us' : List Value) (w : World), okBd a → okBd b → RepVals w S (encBd a) us → RepVals w S' (encBd b) us' →
  Calls Try.prog f #[.agg us.toArray, .agg us'.toArray] w fun e w' => e = .returned (.int .i64 (cmpBd a b)) ∧ Below w.heap.size w w'
def cmpBdsC (f : FuncId) (x y : List Bd) : Prop := ∀ (S S' : Nat → Prop) (v v' : Value) (w : World), okBds x → okBds y → Rep w S (.sl (encBds x)) v → Rep w S' (.sl (encBds y)) v' →
  Calls Try.prog f #[v, v', .func (.func 62) #[] #[]] w fun e w' => e = .returned (.int .i64 (lexL cmpBd x y)) ∧ Below w.heap.size w w'
set_option maxHeartbeats 2000000 in
set_option maxRecDepth 100000 in
theorem implCompareFuncB_of (x y : List Bd) (h : ∀ (i : Nat) a b, x[i]? = some a → y[i]? = some b → cmpBdC 62 a b) : cmpBdsC 61 x y := by
  intro S S' v v' w hx hy hv hv'
  obtain ⟨A, m, cap, rfl, hm, hmc, hcm⟩ := hv.form
  obtain ⟨A', m', cap', rfl, hm', hmc', hcm'⟩ := hv'.form
  rw [encBds_len] at hm hm'
  obtain ⟨ic, hci, _, hcs, _⟩ := info_parts info_Binding
  have H := Lib.hid h
  have HV := Lib.hid hv
  have HV' := Lib.hid hv'
  have HM := Lib.hid hm
  have HM' := Lib.hid hm'
  have HX := Lib.hid hx
  have HY := Lib.hid hy
  clear h hv hv' hm hm' hx hy
  unfold maxLen at hcm hcm'
  go_enter Try.func61, Try.ntmps61
  go_wp2
  go_loopw [13] (fun i wr => ∃ k : Nat, k ≤ m ∧ k ≤ m' ∧ i = .int .i64 k ∧ lexL cmpBd x y = lexL cmpBd (x.drop k) (y.drop k) ∧ Below w.heap.size w wr) (fun i _ => m - (intOf i).toNat)
  case atStart => exact ⟨0, Nat.zero_le _, Nat.zero_le _, rfl, rfl, Below.refl _ _⟩
  case round =>
    obtain ⟨k, hk, hk', rfl, hz, hb⟩ := hrel
    have HZ := Lib.hid hz
    clear hz
    by_cases hkm : k < m
    · obtain ⟨b, off, r, rfl, hS, hbz, hget, hokr, hrow⟩ := (HV.out.below hb).get (okRows_encBds HX.out) hkm
      obtain ⟨u0, u1, u2, u3, u4, u5, u6, u7, c0, c1, c2, c3, c4, c5, c6, c7, hvals⟩ := hrow.vals8 hokr.len
      have hone := okRow.one hokr hvals
      rw [encBds_get] at hget
      obtain ⟨t, ht, rfl⟩ := Option.map_eq_some_iff.1 hget
      have HVALS := Lib.hid hvals
      have HONE := Lib.hid hone
      have HT := Lib.hid ht
      clear hvals hokr hrow hget hone ht
      simp only [fieldsOf, termF, List.cons_append, List.nil_append, List.length_cons, List.length_nil, Nat.reduceAdd] at c0 c1 c2 c3 c4 c5 c6 c7
      by_cases hkm' : k < m'
      · obtain ⟨b', off', r', rfl, hS', hbz', hget', hokr', hrow'⟩ := (HV'.out.below hb).get (okRows_encBds HY.out) hkm'
        obtain ⟨x0, x1, x2, x3, x4, x5, x6, x7, d0, d1, d2, d3, d4, d5, d6, d7, hvals'⟩ := hrow'.vals8 hokr'.len
        have hone' := okRow.one hokr' hvals'
        rw [encBds_get] at hget'
        obtain ⟨t', ht', rfl⟩ := Option.map_eq_some_iff.1 hget'
        have HVALS' := Lib.hid hvals'
        have HONE' := Lib.hid hone'
        have HT' := Lib.hid ht'
        clear hvals' hokr' hrow' hget' hone' ht'
        simp only [fieldsOf, termF, List.cons_append, List.nil_append, List.length_cons, List.length_nil, Nat.reduceAdd] at d0 d1 d2 d3 d4 d5 d6 d7
        have hbb : ∀ o1 o2, Below w.heap.size w ((wr.alloc o1).alloc o2) := fun o1 o2 => (hb.alloc hb.size o1).alloc (by have := hb.size; simp; omega) o2
        have hbr : ∀ o1 o2, Below wr.heap.size wr ((wr.alloc o1).alloc o2) := fun o1 o2 => ((Below.refl _ _).alloc (Nat.le_refl _) o1).alloc (by simp) o2
        have hbne : b' ≠ wr.heap.size := by omega
        have HC := Lib.hid (H.out k t t' HT.out HT'.out)
        go_wp2_with (first
          | refine wpList_store_new rfl 94 _ _ rfl _ _ _ rfl _ rfl (by simp) [u0, u1, u2, u3, u4, u5, u6, u7] rfl ic hci hcs rfl HONE.out ?_
          | refine wpList_store_new rfl 94 _ _ rfl _ _ _ rfl _ rfl (by simp) [x0, x1, x2, x3, x4, x5, x6, x7] rfl ic hci hcs rfl HONE'.out ?_)
        refine (HC.out S S' _ _ _ (HX.out _ (List.mem_of_getElem? HT.out)) (HY.out _ (List.mem_of_getElem? HT'.out)) (HVALS.out.below (hbr _ _)) (HVALS'.out.below (hbr _ _))).mono ?_
        rintro e w2 ⟨rfl, hb2⟩
        have HST := Lib.hid (lexL_step (c := cmpBd) HT.out HT'.out)
        generalize hc : cmpBd t t' = c at HST ⊢
        clear hc
        by_cases hc0 : c = 0
        · subst hc0
          go_wp2
          go_roundw
          case rel => exact ⟨k + 1, by omega, by omega, by go_num, by rw [HZ.out, HST.out, firstNZ2_zero rfl], (hbb _ _).trans (hb2.mono (by have := hb.size; simp; omega))⟩
          case measure => simp [intOf]; omega
        · have hc1 : (c == 0) = false := by simpa using hc0
          have hc2 : (c != 0) = true := by simpa using hc0
          go_wp2
          go_ret
          exact ⟨ret_int (by rw [HZ.out, HST.out, firstNZ2_nz hc0]), (hbb _ _).trans (hb2.mono (by have := hb.size; simp; omega))⟩
      · go_wp2_with (refine wpList_store_new rfl 94 _ _ rfl _ _ _ rfl _ rfl (by simp) [u0, u1, u2, u3, u4, u5, u6, u7] rfl ic hci hcs rfl HONE.out ?_)
        go_ret
        exact ⟨ret_int (a := 1) (by rw [HZ.out, lexL_left (by have := HM.out; omega) (by have := HM'.out; omega)]), hb.alloc hb.size _⟩
    · by_cases hlt : m < m'
      · go_wp2
        go_ret
        exact ⟨ret_int (a := -1) (by rw [HZ.out, lexL_right (by have := HM.out; omega) (by have := HM'.out; omega)]), hb⟩
      · go_wp2
        go_ret
        exact ⟨ret_int (a := 0) (by rw [HZ.out, lexL_end (by have := HM.out; omega) (by have := HM'.out; omega)]), hb⟩

set_option maxHeartbeats 4000000 in
set_option maxRecDepth 100000 in
theorem implCmpBd (a b : Bd) : cmpBdC 62 a b := by
  intro S S' us us' w ha hb hv hv'
  obtain ⟨p, q⟩ := a
  obtain ⟨p', q'⟩ := b
  obtain ⟨u0, u1, u2, u3, u4, u5, u6, u7, rfl⟩ := len8 (hv.len.trans (okRow.len (okRow_encBd ha)))
  obtain ⟨x0, x1, x2, x3, x4, x5, x6, x7, rfl⟩ := len8 (hv'.len.trans (okRow.len (okRow_encBd hb)))
  have lp : ∀ (t : Tm), (encTm t).length = 4 := fun t => by cases t; rfl
  obtain ⟨hp, hq⟩ := repVals_cat (us := [u0, u1, u2, u3]) (vs := [u4, u5, u6, u7]) hv (by simp [lp])
  obtain ⟨hp', hq'⟩ := repVals_cat (us := [x0, x1, x2, x3]) (vs := [x4, x5, x6, x7]) hv' (by simp [lp])
  simp only [okBd] at ha hb
  have OP := Lib.hid ha.1
  have OQ := Lib.hid ha.2
  have OP' := Lib.hid hb.1
  have OQ' := Lib.hid hb.2
  have HP := Lib.hid hp
  have HQ := Lib.hid hq
  have HP' := Lib.hid hp'
  have HQ' := Lib.hid hq'
  have HF : Hid (cmpBd ⟨p, q⟩ ⟨p', q'⟩ = firstNZ [cmpTm p p', cmpTm q q']) := rfl
  clear ha hb hv hv' hp hq hp' hq' lp
  go_enter Try.func62, Try.ntmps62
  go_wp2_with fail
  generalize hW : (w.alloc _).alloc _ = W
  have hbW : Below w.heap.size w W := by rw [← hW]; exact ((Below.refl _ _).alloc (Nat.le_refl _) _).alloc (by simp) _
  have p0 : W.cell? ⟨w.heap.size, 0, none⟩ = some u0 := by rw [← hW]; simp
  have q0 : W.cell? ⟨w.heap.size + 1, 0, none⟩ = some x0 := by rw [← hW]; simp
  have p1 : W.cell? ⟨w.heap.size, 1, none⟩ = some u1 := by rw [← hW]; simp
  have q1 : W.cell? ⟨w.heap.size + 1, 1, none⟩ = some x1 := by rw [← hW]; simp
  have p2 : W.cell? ⟨w.heap.size, 2, none⟩ = some u2 := by rw [← hW]; simp
  have q2 : W.cell? ⟨w.heap.size + 1, 2, none⟩ = some x2 := by rw [← hW]; simp
  have p3 : W.cell? ⟨w.heap.size, 3, none⟩ = some u3 := by rw [← hW]; simp
  have q3 : W.cell? ⟨w.heap.size + 1, 3, none⟩ = some x3 := by rw [← hW]; simp
  have p4 : W.cell? ⟨w.heap.size, 4, none⟩ = some u4 := by rw [← hW]; simp
  have q4 : W.cell? ⟨w.heap.size + 1, 4, none⟩ = some x4 := by rw [← hW]; simp
  have p5 : W.cell? ⟨w.heap.size, 5, none⟩ = some u5 := by rw [← hW]; simp
  have q5 : W.cell? ⟨w.heap.size + 1, 5, none⟩ = some x5 := by rw [← hW]; simp
  have p6 : W.cell? ⟨w.heap.size, 6, none⟩ = some u6 := by rw [← hW]; simp
  have q6 : W.cell? ⟨w.heap.size + 1, 6, none⟩ = some x6 := by rw [← hW]; simp
  have p7 : W.cell? ⟨w.heap.size, 7, none⟩ = some u7 := by rw [← hW]; simp
  have q7 : W.cell? ⟨w.heap.size + 1, 7, none⟩ = some x7 := by rw [← hW]; simp
  have z0 : w.heap.size < W.heap.size := by rw [← hW]; simp; omega
  have z1 : w.heap.size + 1 < W.heap.size := by rw [← hW]; simp
  have CP := Lib.hid (implCompareTerms p p')
  have CQ := Lib.hid (implCompareTerms q q')
  have HOR := Lib.hid (fun g w => cmpOr [cmpTm p p', cmpTm q q'] g 2 2 w rfl (by omega))
  clear hW
  go_region_held3 (fun w' => ∀ b o, b < W.heap.size → w'.cell? ⟨b, o, none⟩ = W.cell? ⟨b, o, none⟩)
    (first | exact fun b o h => hb1.cell (p := ⟨b, o, none⟩) h | exact fun b o h => (hb2.cell (p := ⟨b, o, none⟩) (Nat.lt_of_lt_of_le h hb1.size)).trans (hb1.cell (p := ⟨b, o, none⟩) h) | exact fun b o h => (World.cell?_alloc_lt w2 _ ⟨b, o, none⟩ (Nat.lt_of_lt_of_le h (Nat.le_trans hb1.size hb2.size))).trans ((hb2.cell (p := ⟨b, o, none⟩) (Nat.lt_of_lt_of_le h hb1.size)).trans (hb1.cell (p := ⟨b, o, none⟩) h)) | go_keep)
    (first
      | (go_at_call_of 47 u0; refine (CP.out S S' _ _ _ OP.out OP'.out (HP.out.below hbW.drew) (HP'.out.below hbW.drew)).mono ?_; rintro e w1 ⟨rfl, hb1⟩)
      | (go_at_call_of 47 u4; refine (CQ.out S S' _ _ _ OQ.out OQ'.out (HQ.out.below (hbW.drew.trans (hb1.mono hbW.size))) (HQ'.out.below (hbW.drew.trans (hb1.mono hbW.size)))).mono ?_; rintro e w2 ⟨rfl, hb2⟩)
      | (go_at_call 44; refine (HOR.out _ _ (cells_of_list' (W := w2))).mono ?_; rintro e w' ⟨rfl, rfl⟩))
  have hz2 : W.heap.size ≤ w2.heap.size := Nat.le_trans hb1.size hb2.size
  have hbe : ∀ o1, Below w.heap.size w (w2.alloc o1) := fun o1 => ((hbW.drew.trans (hb1.mono hbW.size)).trans (hb2.mono (Nat.le_trans hbW.size hb1.size))).alloc (Nat.le_trans hbW.size hz2) o1
  go_wp2
  go_ret
  exact ⟨ret_int (by rw [HF.out]), hbe _⟩
theorem implCompareFuncB (x y : List Bd) : cmpBdsC 61 x y := implCompareFuncB_of x y (fun _ a b _ _ => implCmpBd a b)
set_option maxHeartbeats 1000000 in
theorem implCompareSubsts (x y : List Bd) (S S' : Nat → Prop) (v v' : Value) (w : World) (hx : okBds x) (hy : okBds y) (hv : Rep w S (.sl (encBds x)) v) (hv' : Rep w S' (.sl (encBds y)) v') :
    Calls Try.prog 48 #[v, v'] w fun e w' => e = .returned (.int .i64 (lexL cmpBd x y)) ∧ Below w.heap.size w w' := by
  have H := Lib.hid (implCompareFuncB x y S S' v v' w hx hy hv hv')
  clear hx hy hv hv'
  go_enter Try.func48, Try.ntmps48
  go_wp2_with fail
  refine H.out.mono ?_
  rintro e w1 ⟨rfl, hb1⟩
  go_wp2
  go_ret
  exact ⟨rfl, hb1⟩
end Go.Proofs.Ytiglacjigkcgkaa
