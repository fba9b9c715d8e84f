/-
  Valid algebras: the program's IsAlgebra (walked).
-/
import Derived.Test.YtlhbdhdaecchoaaAlg
set_option linter.unusedSimpArgs false
set_option linter.unusedVariables false
namespace Go.Proofs.Ytlhbdhdaecchoaa
open Go.RowKit Go.Sort

set_option maxHeartbeats 20000000 in
set_option maxRecDepth 100000 in
theorem implIsAlgebra : algC 11 := by
  intro g a S vs us w hokg hoka hvg hva
  obtain ⟨s, ops⟩ := g
  have hvg0 := hvg
  obtain ⟨g0, g1, g2, rfl, f0, f1, f2⟩ := repVals_Signature hvg
  obtain ⟨Ag0, cg0, rfl, _, _⟩ := f0.shape
  obtain ⟨Ag1, cg1, rfl, _, _⟩ := f1.shape
  obtain ⟨Ag2, cg2, rfl, hcg2, hmg2⟩ := f2.shape
  obtain ⟨z, tabs⟩ := a
  simp only [encAlg] at hva
  obtain ⟨v1, rfl, e1⟩ := repVals_Algebra hva
  obtain ⟨At, capt, rfl, hct, hmt⟩ := e1.shape
  have HOKG := Lib.hid hokg
  have HOKA := Lib.hid hoka
  have HVG := Lib.hid hvg0
  have F2 := Lib.hid f2
  have E1 := Lib.hid e1
  have hz64 : I64 z := hoka.1
  clear hvg hvg0 hva f0 f1 f2 e1 hokg hoka
  simp only at HVG F2 hcg2 hmg2
  simp only
  generalize s.names.length = n at *
  generalize s.subs.length = ls at *
  generalize hM : ops.length = m at *
  have HM := Lib.hid hM
  generalize hMT : tabs.length = mt at *
  have HMT := Lib.hid hMT
  clear hM hMT
  unfold maxLen at hmg2 hmt
  unfold I64 at hz64
  have HIS := Lib.hid (fun W h => implIsSignature ⟨s, ops⟩ S [.slice Ag0 n cg0, .slice Ag1 ls cg1, .slice Ag2 m cg2] W HOKG.out h)
  go_enter Try.func11, Try.ntmps11
  go_wp2_with fail
  generalize hW : (w.alloc _).alloc _ = W0
  have hb0 : Below w.heap.size w W0 := by rw [← hW]; exact (by repeat' (first | exact Below.refl _ _ | refine below_drewN ?_ _ | refine Below.alloc ?_ (by first | exact Nat.le_refl _ | (simp; done) | (simp; omega)) _))
  have p0 : W0.cell? ⟨w.heap.size, 0, none⟩ = some (.slice Ag0 n cg0) := (by rw [← hW]; repeat' (first | (simp; done) | exact keepNew (by simp) rfl | refine keepA _ ?_))
  have p1 : W0.cell? ⟨w.heap.size, 1, none⟩ = some (.slice Ag1 ls cg1) := (by rw [← hW]; repeat' (first | (simp; done) | exact keepNew (by simp) rfl | refine keepA _ ?_))
  have p2 : W0.cell? ⟨w.heap.size, 2, none⟩ = some (.slice Ag2 m cg2) := (by rw [← hW]; repeat' (first | (simp; done) | exact keepNew (by simp) rfl | refine keepA _ ?_))
  have p3 : W0.cell? ⟨w.heap.size + 1, 0, none⟩ = some (.int .i64 z) := (by rw [← hW]; repeat' (first | (simp; done) | exact keepNew (by simp) rfl | refine keepA _ ?_))
  have p4 : W0.cell? ⟨w.heap.size + 1, 1, none⟩ = some (.slice At mt capt) := (by rw [← hW]; repeat' (first | (simp; done) | exact keepNew (by simp) rfl | refine keepA _ ?_))
  clear hW
  generalize w.heap.size + 1 = g3 at *
  by_cases hs : SgnOk ⟨s, ops⟩
  rotate_left
  · have HF : Hid (isAlg ⟨s, ops⟩ ⟨z, tabs⟩ = false) := isAlg_false fun h => hs h.sgn
    rw [isSgn_false hs] at HIS
    clear hs
    refine (HIS.out _ (HVG.out.below hb0)).mono ?_
    rintro e w2 ⟨rfl, hb2⟩
    go_wp2
    go_ret
    exact ⟨ret_bool HF.out.symm, hb0.trans (hb2.mono hb0.size)⟩
  rw [isSgn_true hs] at HIS
  have HSO := Lib.hid hs
  clear hs
  refine (HIS.out _ (HVG.out.below hb0)).mono ?_
  rintro e W ⟨rfl, hb2⟩
  have hbW : Below w.heap.size w W := hb0.trans (hb2.mono hb0.size)
  have r0 := keepB hb2 p0
  have r1 := keepB hb2 p1
  have r2 := keepB hb2 p2
  have r3 := keepB hb2 p3
  have r4 := keepB hb2 p4
  have F2W := Lib.hid (F2.out.below hbW)
  have E1W := Lib.hid (E1.out.below hbW)
  clear p0 p1 p2 p3 p4 F2 E1 HVG HIS hb0 hb2
  by_cases hz1 : z < 1
  · have HF : Hid (isAlg ⟨s, ops⟩ ⟨z, tabs⟩ = false) := isAlg_false fun h => by have := h.lo; simp only at this; omega
    go_wp2
    go_ret
    exact ⟨ret_bool HF.out.symm, hbW⟩
  by_cases hz4 : 4 < z
  · have HF : Hid (isAlg ⟨s, ops⟩ ⟨z, tabs⟩ = false) := isAlg_false fun h => by have := h.hi; simp only at this; omega
    go_wp2
    go_ret
    exact ⟨ret_bool HF.out.symm, hbW⟩
  by_cases hmm : mt = m
  rotate_left
  · have HF : Hid (isAlg ⟨s, ops⟩ ⟨z, tabs⟩ = false) := isAlg_false fun h => hmm (by have := h.len; have := HM.out; have := HMT.out; simp only at *; omega)
    have n1 : (mt == m) = false := by simp [hmm]
    have n2 : ((mt : Int) == (m : Int)) = false := by simp; omega
    have n3 : ((mt : Int) != (m : Int)) = true := by simp; omega
    go_wp2
    go_ret
    exact ⟨ret_bool HF.out.symm, hbW⟩
  obtain rfl : m = mt := hmm.symm
  have n1 : (m == m) = true := by simp
  obtain ⟨zn, rfl⟩ := Int.eq_ofNat_of_zero_le (show 0 ≤ z by omega)
  obtain ⟨ip, hpi, _, hps, _⟩ := info_parts info_Op'
  go_wp2
  clear n1
  go_loopw [35] (fun i wr => ∃ k : Nat, k ≤ m ∧ i = .int .i64 k ∧ (∀ (j : Nat) (o : Opr) (d : Dcl) (t : List Int), j < k → ops[j]? = some o → o.decls[0]? = some d → tabs[j]? = some t → TabOk zn d.args.length t) ∧ Below W.heap.size W wr) (fun i _ => m - (intOf i).toNat)
  case atStart => exact ⟨0, Nat.zero_le _, rfl, fun j o d t h => by omega, Below.refl _ _⟩
  case round =>
    obtain ⟨k, hk, rfl, hall, hb⟩ := hrel
    have HALL := Lib.hid hall
    clear hall
    by_cases hkn : k < m
    · obtain ⟨o, ho⟩ : ∃ o, ops[k]? = some o := ⟨_, List.getElem?_eq_getElem (by have := HM.out; omega)⟩
      obtain ⟨t, ht⟩ : ∃ t, tabs[k]? = some t := ⟨_, List.getElem?_eq_getElem (by have := HMT.out; omega)⟩
      obtain ⟨d, hd, hdd⟩ := (HSO.out.decls o (List.mem_of_getElem? ho)).first
      have har := (HSO.out.decls o (List.mem_of_getElem? ho)).ar d hd
      have HOO := Lib.hid (HOKG.out.2 o (List.mem_of_getElem? ho))
      have HTO := Lib.hid (HOKA.out.2 t (List.mem_of_getElem? ht))
      obtain ⟨b, off, vd, rfl, hbz, c0, c1, c2, c3, c4, rd⟩ := Rep.opAt HOKG.out.2 (F2W.out.below hb) ho
      obtain ⟨bt, ot, Ax, cx, rfl, hbt, x0, hx1, hx2, rt⟩ := Rep.intsAt HOKA.out.2 (E1W.out.below hb) ht
      have HO := Lib.hid ho
      have HT := Lib.hid ht
      have HD := Lib.hid hd
      obtain ⟨name, decls, ac, cm, un⟩ := o
      simp only at c0 c2 c3 c4 rd hd
      obtain ⟨Ad, capd, rfl, hcd, hmd⟩ := rd.shape
      obtain ⟨b1, o1, rfl, _, hz1', hrow⟩ := Rep.at okDclR HOO.out.2.1 rd hd
      have hld : 0 < decls.length := (List.getElem?_eq_some_iff.1 hd).1
      obtain ⟨dargs, dres⟩ := d
      simp only [encDcl, RepRow, and_true, fieldsOf, List.length_cons, List.length_nil, Nat.reduceAdd, Nat.zero_mul, Nat.add_zero, Rep.lit_iff] at hrow
      obtain ⟨⟨u0, w0, r0'⟩, ⟨_, w1, rfl⟩⟩ := hrow
      obtain ⟨Ae, cape, rfl, hce, hme⟩ := r0'.shape
      simp only at har
      have RT := Lib.hid rt
      clear ho ht hd hdd rd rt r0'
      generalize decls.length = ld at *
      generalize hLT : t.length = lt at *
      have HLT2 := Lib.hid hLT
      generalize hDL : dargs.length = dl at *
      have HDL := Lib.hid hDL
      clear hLT hDL
      unfold maxLen at hx2 hmd hme
      go_upto_region 6 with ((with_reducible refine atStore 64 (.tmp 6) (.tmp 39) rfl ?_); refine wpList_store_new rfl 64 _ _ rfl _ _ _ rfl _ rfl (by simp) [.string name, .slice (some ⟨b1, o1, none⟩) ld capd, .bool ac, .bool cm, .int .i64 un] rfl ip hpi hps rfl (by simp [Value.oneCell']) ?_)
      simp only [Act.put]
      generalize hW7 : wr.alloc _ = W7
      have hb7 : Below wr.heap.size wr W7 := by rw [← hW7]; exact belowA _ _
      have y1 : W7.cell? ⟨wr.heap.size, 1, none⟩ = some (.slice (some ⟨b1, o1, none⟩) ld capd) := (by rw [← hW7]; repeat' (first | (simp; done) | exact keepNew (by simp) rfl | refine keepA _ ?_))
      have hbW7 : Below W.heap.size W W7 := hb.trans (hb7.mono hb.size)
      have q3 := keepB hbW7 r3
      have q4 := keepB hbW7 r4
      have v0 := keepB hb7 w0
      have v1 := keepB hb7 x0
      have RT7 := Lib.hid (RT.out.below hb7)
      clear hW7 c0 c1 c2 c3 c4 w0 w1 x0 RT hb7 hb hbz hbt hz1'
      generalize wr.heap.size = g7 at *
      go_wp2
      obtain ⟨wo, rfl⟩ : ∃ x : World, x = wr := ⟨_, rfl⟩
      go_loop [7, 46] (fun p i => ∃ j : Nat, j ≤ dl ∧ i = .int .i64 j ∧ p = .int .i64 ((zn ^ j : Nat) : Int)) (fun _ i => dl - (intOf i).toNat)
      case atStart => exact ⟨0, Nat.zero_le _, rfl, by simp⟩
      case round =>
        obtain ⟨j, hj, rfl, rfl⟩ := hrel
        by_cases hjk : j < dl
        · have hp := pow_le64 (show zn ≤ 4 by omega) (show j ≤ 3 by omega)
          have HS := Lib.hid (Nat.pow_succ zn j)
          generalize zn ^ j = p at *
          obtain ⟨m1, m2⟩ := wrap_mul hp (show zn ≤ 4 by omega)
          go_wp2
          go_round
          case rel => exact ⟨j + 1, by omega, by go_num, by rw [HS.out]; first | rfl | (simp only [Int.natCast_mul]; done) | simp [Int.natCast_mul]⟩
          case measure => simp [intOf]; omega
        · obtain rfl : dl = j := by omega
          have hpw := pow_le64 (show zn ≤ 4 by omega) har
          generalize hPW : zn ^ dl = pw at *
          have HPW := Lib.hid hPW
          clear hPW
          by_cases hlen : lt = pw
          rotate_left
          · have HF : Hid (isAlg ⟨s, ops⟩ ⟨zn, tabs⟩ = false) := isAlg_false fun h => hlen (by have := (h.tab k _ _ t HO.out HD.out HT.out).len; rw [HLT2.out] at this; simp only [HDL.out] at this; simpa [HPW.out] using this)
            have n1 : (lt == pw) = false := by simp [hlen]
            have n2 : ((lt : Int) == (pw : Int)) = false := by simp; omega
            have n3 : ((lt : Int) != (pw : Int)) = true := by simp; omega
            go_wp2
            go_ret
            exact ⟨ret_bool HF.out.symm, hbW.trans (hbW7.mono hbW.size)⟩
          obtain rfl : lt = pw := hlen
          have n1 : (lt == lt) = true := by simp
          go_wp2
          clear n1
          go_loop [67] (fun i => ∃ j : Nat, j ≤ lt ∧ i = .int .i64 j ∧ (∀ (i : Nat) (x : Int), i < j → t[i]? = some x → 0 ≤ x ∧ x < (zn : Int))) (fun i => lt - (intOf i).toNat)
          case atStart => exact ⟨0, Nat.zero_le _, rfl, fun i x h => by omega⟩
          case round =>
            obtain ⟨j, hj, rfl, hno⟩ := hrel
            have HNO := Lib.hid hno
            clear hno
            by_cases hjk : j < lt
            · obtain ⟨x, hx⟩ : ∃ x, t[j]? = some x := ⟨_, List.getElem?_eq_getElem (by have := HLT2.out; omega)⟩
              obtain ⟨bx, ox, rfl, hbx, cx0⟩ := Rep.int HTO.out RT7.out hx
              have HX := Lib.hid hx
              clear hx
              by_cases hxr : 0 ≤ x ∧ x < (zn : Int)
              · obtain ⟨e0, e1⟩ := hxr
                go_wp2
                go_round
                case rel =>
                  refine ⟨j + 1, by omega, by go_num, fun i y hi hy => ?_⟩
                  by_cases hij : i = j
                  · subst hij
                    rw [HX.out] at hy
                    injection hy with hy
                    rw [← hy]
                    exact ⟨e0, e1⟩
                  · exact HNO.out i y (by omega) hy
                case measure => simp [intOf]; omega
              · have HF : Hid (isAlg ⟨s, ops⟩ ⟨zn, tabs⟩ = false) := isAlg_false fun h => hxr ((h.tab k _ _ t HO.out HD.out HT.out).all x (List.mem_of_getElem? HX.out))
                by_cases e0 : x < 0
                · clear hxr
                  go_wp2
                  go_ret
                  exact ⟨ret_bool HF.out.symm, hbW.trans (hbW7.mono hbW.size)⟩
                · have e1 : (zn : Int) ≤ x := by omega
                  clear hxr
                  go_wp2
                  go_ret
                  exact ⟨ret_bool HF.out.symm, hbW.trans (hbW7.mono hbW.size)⟩
            · obtain rfl : lt = j := by omega
              go_wp2
              go_roundw
              case rel =>
                refine ⟨k + 1, by omega, by go_num, fun j o' d' t' hj ho hd ht => ?_, hbW7⟩
                by_cases hjk' : j = k
                · subst hjk'
                  rw [HO.out] at ho
                  injection ho with ho
                  subst ho
                  rw [HD.out] at hd
                  injection hd with hd
                  subst hd
                  rw [HT.out] at ht
                  injection ht with ht
                  subst ht
                  refine ⟨by rw [HLT2.out]; simp only [HDL.out]; simp [HPW.out], fun x hx => ?_⟩
                  obtain ⟨i, hi⟩ := List.mem_iff_getElem?.1 hx
                  exact HNO.out i x (by have hil := (List.getElem?_eq_some_iff.1 hi).1; rw [HLT2.out] at hil; exact hil) hi
                · exact HALL.out j o' d' t' (by omega) ho hd ht
              case measure => simp [intOf]; omega
    · obtain rfl : m = k := by omega
      have HF : Hid (isAlg ⟨s, ops⟩ ⟨zn, tabs⟩ = true) := isAlg_true ⟨HSO.out, by simp only; omega, by simp only; omega, by have := HM.out; have := HMT.out; simp only; omega, fun i o d t ho hd ht => HALL.out i o d t (by have hil : i < ops.length := (List.getElem?_eq_some_iff.1 ho).1; have := HM.out; omega) ho hd ht⟩
      go_wp2
      go_ret
      exact ⟨ret_bool HF.out.symm, hbW.trans (hb.mono hbW.size)⟩
end Go.Proofs.Ytlhbdhdaecchoaa
