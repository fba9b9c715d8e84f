/-
  Valid signatures: the reference's IsSignature (walked).
-/
import Derived.Test.YtlhbdhdaecchoaaSgn
import Derived.Test.YtlhbdhdaecchoaaAxioms2
set_option linter.unusedSimpArgs false
set_option linter.unusedVariables false
namespace Go.Proofs.Ytlhbdhdaecchoaa
open Go.RowKit Go.Sort

theorem hasStr_snoc (l : List ByteArray) (t s : ByteArray) : hasStr (l ++ [t]) s = (hasStr l s || (s.toList == t.toList)) := by simp [hasStr, List.any_append]
set_option maxHeartbeats 20000000 in
set_option maxRecDepth 100000 in
theorem specIsSignature : sgnC 24 := by
  intro g S us w hok hv
  obtain ⟨s, ops⟩ := g
  have hv0 := hv
  obtain ⟨g0, g1, g2, rfl, f0, f1, f2⟩ := repVals_Signature hv
  obtain ⟨Ag0, cg0, rfl, _, _⟩ := f0.shape
  obtain ⟨Ag1, cg1, rfl, _, _⟩ := f1.shape
  obtain ⟨Ag2, cg2, rfl, hcg2, hmg2⟩ := f2.shape
  have HSR : Hid (RepVals w S (encSrt s) [.slice Ag0 s.names.length cg0, .slice Ag1 s.subs.length cg1]) := by show RepVals _ _ _ _; simp only [encSrt, RepVals, and_true]; exact ⟨f0, f1⟩
  have HOK := Lib.hid hok
  have HV := Lib.hid hv0
  have F2 := Lib.hid f2
  clear hv hv0 f0 f1 f2 hok
  simp only at HSR HV F2 hcg2 hmg2
  simp only
  generalize hln : s.names.length = n at *
  generalize s.subs.length = ls at *
  have HLN := Lib.hid hln
  clear hln
  generalize hM : ops.length = m at *
  have HM := Lib.hid hM
  clear hM
  unfold maxLen at hmg2
  have HIS := Lib.hid (fun W h => specIsSorts s S [.slice Ag0 n cg0, .slice Ag1 ls cg1] W HOK.out.1 h)
  by_cases hs : SortsOk s
  rotate_left
  · have HF : Hid (isSgn ⟨s, ops⟩ = false) := isSgn_false fun h => hs h.sorts
    rw [isSorts_false hs] at HIS
    clear hs
    go_enter Try.func24, Try.ntmps24
    go_wp2_with fail
    refine (HIS.out _ (HSR.out.below (belowA _ _))).mono ?_
    rintro e w2 ⟨rfl, hb2⟩
    go_wp2
    go_ret
    exact ⟨ret_bool HF.out.symm, (belowA _ _).trans (hb2.mono (belowA _ _).size)⟩
  rw [isSorts_true hs] at HIS
  have HSO := Lib.hid hs
  clear hs
  go_enter Try.func24, Try.ntmps24
  go_wp2_with fail
  generalize hW : w.alloc _ = W0
  have hb0 : Below w.heap.size w W0 := by rw [← hW]; exact belowA _ _
  have p0 : W0.cell? ⟨w.heap.size, 0, none⟩ = some (.slice Ag0 n cg0) := (by rw [← hW]; repeat' (first | (simp; done) | exact keepNew (by simp) rfl | refine keepA _ ?_))
  have p1 : W0.cell? ⟨w.heap.size, 1, none⟩ = some (.slice Ag1 ls cg1) := (by rw [← hW]; repeat' (first | (simp; done) | exact keepNew (by simp) rfl | refine keepA _ ?_))
  have p2 : W0.cell? ⟨w.heap.size, 2, none⟩ = some (.slice Ag2 m cg2) := (by rw [← hW]; repeat' (first | (simp; done) | exact keepNew (by simp) rfl | refine keepA _ ?_))
  clear hW
  refine (HIS.out _ (HSR.out.below hb0)).mono ?_
  rintro e W ⟨rfl, hb2⟩
  have hbW : Below w.heap.size w W := hb0.trans (hb2.mono hb0.size)
  have r0 := keepB hb2 p0
  have r1 := keepB hb2 p1
  have r2 := keepB hb2 p2
  have F2W := Lib.hid (F2.out.below hbW)
  have HVW := Lib.hid (HV.out.below hbW)
  clear p0 p1 p2 F2 HV HSR HIS hb0 hb2
  by_cases h14 : 14 < m
  · have HF : Hid (isSgn ⟨s, ops⟩ = false) := isSgn_false fun h => by have := h.len; have := HM.out; simp only at *; omega
    go_wp2
    go_ret
    exact ⟨ret_bool HF.out.symm, hbW⟩
  go_wp2
  go_loopw [3] (fun i wr => ∃ k : Nat, k ≤ m ∧ i = .int .i64 k ∧ (∀ (j : Nat) (o : Opr), j < k → ops[j]? = some o → (isName o.name = true ∧ hasStr (opNames (ops.take j)) o.name = false) ∧ DeclsOk s o) ∧ Below W.heap.size W wr) (fun i _ => m - (intOf i).toNat)
  case atStart => exact ⟨0, Nat.zero_le _, rfl, fun j o h => by omega, Below.refl _ _⟩
  case round =>
    obtain ⟨k, hk, rfl, hall, hb⟩ := hrel
    have HALL := Lib.hid hall
    clear hall
    have q0 := keepB hb r0
    have q1 := keepB hb r1
    have q2 := keepB hb r2
    by_cases hkn : k < m
    · obtain ⟨o, ho⟩ : ∃ o, ops[k]? = some o := ⟨_, List.getElem?_eq_getElem (by have := HM.out; omega)⟩
      have HOO := Lib.hid (HOK.out.2 o (List.mem_of_getElem? ho))
      obtain ⟨b, off, vd, rfl, hbz, c0, c1, c2, c3, c4, rd⟩ := Rep.opAt HOK.out.2 (F2W.out.below hb) ho
      have HO := Lib.hid ho
      obtain ⟨name, decls, ac, cm, un⟩ := o
      simp only at c0 c2 c3 c4 rd
      have hrv : RepVals wr S (encOpr ⟨name, decls, ac, cm, un⟩) [.string name, vd, .bool ac, .bool cm, .int .i64 un] := by simp only [encOpr, RepVals, Rep.lit_iff, and_true, true_and]; exact rd
      obtain ⟨Ad, capd, rfl, _, _⟩ := rd.shape
      have HRV := Lib.hid hrv
      clear ho rd hrv
      generalize decls.length = ld at *
      have k0 := cell_regrown q0
      have k1 := cell_regrown q1
      have k2 := cell_regrown q2
      have y0 := cell_regrown c0
      have y1 := cell_regrown c1
      have y2 := cell_regrown c2
      have y3 := cell_regrown c3
      have y4 := cell_regrown c4
      have HNM := Lib.hid (fun w => specIsName name HOO.out.1 w)
      cases hin : isName name
      · have HF : Hid (isSgn ⟨s, ops⟩ = false) := isSgn_false fun h => by have := (h.names k _ HO.out).1; rw [hin] at this; cases this
        rw [hin] at HNM
        clear hin
        have HCn : Hid (∀ d os, Calls Try.prog 45 #[.string name] (grow (redrawn wr d) os) fun e w'' => e = .returned (.bool false) ∧ ∃ p : Regrown, w'' = grow (redrawn wr p.d) p.os) := fun d os => Calls.regrown_of ((HNM.out _).mono fun e w' h => ⟨h.1, by rw [← h.2]; exact Below.refl _ _⟩)
        go_wp2_with fail
        (refine wp_region_quiet_below (by kernel_rfl) (by kernel_rfl) ?_
         repeat (first | go_big_quiet_step (first | (go_at_call 45; exact HCn.out _ _)) | quiet_step (first | (go_at_call 45; exact HCn.out _ _)))
         refine wpQuiet_nil ?_
         intro _ hw'
         obtain ⟨⟨dq, osq⟩, hw''⟩ := hw'
         subst hw'')
        go_wp2
        go_ret
        exact ⟨ret_bool HF.out.symm, hbW.trans ((hb.trans ((below_regrown wr dq osq).mono hb.size)).mono hbW.size)⟩
      rw [hin] at HNM
      have HIN := Lib.hid hin
      clear hin
      have HCn : Hid (∀ d os, Calls Try.prog 45 #[.string name] (grow (redrawn wr d) os) fun e w'' => e = .returned (.bool true) ∧ ∃ p : Regrown, w'' = grow (redrawn wr p.d) p.os) := fun d os => Calls.regrown_of ((HNM.out _).mono fun e w' h => ⟨h.1, by rw [← h.2]; exact Below.refl _ _⟩)
      have HCd : Hid (∀ d os, Calls Try.prog 46 #[.agg #[.slice Ag0 n cg0, .slice Ag1 ls cg1, .slice (some ⟨b, off, none⟩) m cg2], .agg #[.string name, .slice Ad ld capd, .bool ac, .bool cm, .int .i64 un]] (grow (redrawn wr d) os) fun e w'' => e = .returned (.bool (declsOk s ⟨name, decls, ac, cm, un⟩)) ∧ ∃ p : Regrown, w'' = grow (redrawn wr p.d) p.os) := fun d os =>
        Calls.regrown_of (specDecls ⟨s, ops⟩ ⟨name, decls, ac, cm, un⟩ S [.slice Ag0 n cg0, .slice Ag1 ls cg1, .slice (some ⟨b, off, none⟩) m cg2] [.string name, .slice Ad ld capd, .bool ac, .bool cm, .int .i64 un] _ HSO.out HOK.out HOO.out ((HVW.out.below hb).below (below_regrown wr d os)) (HRV.out.below (below_regrown wr d os)))
      cases hde : declsOk s ⟨name, decls, ac, cm, un⟩
      · have HF : Hid (isSgn ⟨s, ops⟩ = false) := isSgn_false fun h => by have := declsOk_true (h.decls _ (List.mem_of_getElem? HO.out)); simp only at this; rw [hde] at this; cases this
        rw [hde] at HCd
        clear hde
        go_wp2_with fail
        (refine wp_region_quiet_below (by kernel_rfl) (by kernel_rfl) ?_
         repeat (first | go_big_quiet_step (first | (go_at_call 45; exact HCn.out _ _) | (go_at_call 46; exact HCd.out _ _)) | quiet_step (first | (go_at_call 45; exact HCn.out _ _) | (go_at_call 46; exact HCd.out _ _)))
         refine wpQuiet_nil ?_
         intro _ hw'
         obtain ⟨⟨dq, osq⟩, hw''⟩ := hw'
         subst hw'')
        go_wp2
        go_ret
        exact ⟨ret_bool HF.out.symm, hbW.trans ((hb.trans ((below_regrown wr dq osq).mono hb.size)).mono hbW.size)⟩
      rw [hde] at HCd
      have HDE := Lib.hid (declsOk_iff.1 hde)
      clear hde
      go_wp2_with fail
      (refine wp_region_quiet_below (by kernel_rfl) (by kernel_rfl) ?_
       repeat (first | go_big_quiet_step (first | (go_at_call 45; exact HCn.out _ _) | (go_at_call 46; exact HCd.out _ _)) | quiet_step (first | (go_at_call 45; exact HCn.out _ _) | (go_at_call 46; exact HCd.out _ _)))
       refine wpQuiet_nil ?_
       intro _ hw'
       obtain ⟨⟨dq, osq⟩, hw''⟩ := hw'
       subst hw'')
      have hb5 : Below W.heap.size W (grow (redrawn wr dq) osq) := hb.trans ((below_regrown wr dq osq).mono hb.size)
      clear k0 k1 k2 y0 y1 y2 y3 y4 q0 q1 q2 c0 c1 c2 c3 c4 HCn HCd HRV hb hbz
      generalize grow (redrawn wr dq) osq = W5 at *
      go_wp2
      obtain ⟨wo, rfl⟩ : ∃ x : World, x = wr := ⟨_, rfl⟩
      go_loopw [4] (fun i wr => ∃ j : Nat, j ≤ k ∧ i = .int .i64 j ∧ hasStr (opNames (ops.take j)) name = false ∧ Below W5.heap.size W5 wr) (fun i _ => k - (intOf i).toNat)
      case atStart => exact ⟨0, Nat.zero_le _, rfl, by simp [opNames, hasStr], Below.refl _ _⟩
      case round =>
        obtain ⟨j, hj, rfl, hno, hbr⟩ := hrel
        have HNO := Lib.hid hno
        clear hno
        have hb6 : Below W.heap.size W wr := hb5.trans (hbr.mono hb5.size)
        by_cases hjk : j < k
        · obtain ⟨p, hp⟩ : ∃ p, ops[j]? = some p := ⟨_, List.getElem?_eq_getElem (by have := HM.out; omega)⟩
          obtain ⟨_, _, _, hA, hbz, d0, _⟩ := Rep.opAt HOK.out.2 (F2W.out.below hb6) hp
          injection hA with hA
          injection hA with hA hA'
          subst hA hA'
          obtain ⟨_, _, _, hA, hbz, c0, _⟩ := Rep.opAt HOK.out.2 (F2W.out.below hb6) HO.out
          injection hA with hA
          injection hA with hA hA'
          subst hA hA'
          simp only at c0
          have q2 := keepB hb6 r2
          have HP := Lib.hid (opNames_snoc hp)
          clear hp
          generalize p.name = pn at *
          cases he : (name.toList == pn.toList)
          · have e1 : (pn.toList == name.toList) = false := by rw [← he]; exact BEq.comm
            have HE := Lib.hid he
            clear he
            go_wp2_with fail
            go_quiet (fail)
            go_wp2
            go_roundw
            case rel => exact ⟨j + 1, by omega, by go_num, by rw [HP.out, hasStr_snoc, HNO.out, HE.out]; rfl, below_drewN hbr _⟩
            case measure => simp [intOf]; omega
          · have e1 : (pn.toList == name.toList) = true := by rw [← he]; exact BEq.comm
            have HF : Hid (isSgn ⟨s, ops⟩ = false) := isSgn_false fun h => by
              have h1 := (h.names k _ HO.out).2
              have h2 : hasStr (opNames (ops.take (j + 1))) name = true := by rw [HP.out, hasStr_snoc, he]; simp
              have h3 : hasStr (opNames (ops.take k)) name = true := by
                unfold hasStr at h2 ⊢
                obtain ⟨t, ht, hte⟩ := List.any_eq_true.1 h2
                refine List.any_eq_true.2 ⟨t, ?_, hte⟩
                obtain ⟨q, hq, rfl⟩ := List.mem_map.1 ht
                refine List.mem_map.2 ⟨q, ?_, rfl⟩
                have : ops.take (j + 1) = (ops.take k).take (j + 1) := by rw [List.take_take]; congr 1; omega
                rw [this] at hq
                exact List.mem_of_mem_take hq
              simp only at h1
              rw [h1] at h3
              cases h3
            clear he
            go_wp2_with fail
            go_quiet (fail)
            go_wp2
            go_ret
            exact ⟨ret_bool HF.out.symm, hbW.trans (below_drewN (hb6.mono hbW.size) _)⟩
        · obtain rfl : k = j := by omega
          go_wp2
          go_roundw
          case rel =>
            refine ⟨k + 1, by omega, by go_num, fun j o hj ho => ?_, hb6⟩
            by_cases hjk' : j = k
            · subst hjk'
              rw [HO.out] at ho
              injection ho with ho
              rw [← ho]
              exact ⟨⟨HIN.out, HNO.out⟩, HDE.out⟩
            · exact HALL.out j o (by omega) ho
          case measure => simp [intOf]; omega
    · obtain rfl : m = k := by omega
      have HDA : Hid (∀ o ∈ ops, DeclsOk s o) := fun o ho => by
        obtain ⟨i, hi⟩ := List.mem_iff_getElem?.1 ho
        exact (HALL.out i o (by have hil : i < ops.length := (List.getElem?_eq_some_iff.1 hi).1; have := HM.out; omega) hi).2
      go_wp2
      clear q0 q1 q2
      have hb4 := hb
      clear hb
      obtain ⟨wo, rfl⟩ : ∃ x : World, x = wr := ⟨_, rfl⟩
      go_loopw [5] (fun i wr => ∃ k : Nat, k ≤ m ∧ i = .int .i64 k ∧ (∀ (j : Nat) (o : Opr), j < k → ops[j]? = some o → AxOk ⟨s, ops⟩ o) ∧ Below W.heap.size W wr) (fun i _ => m - (intOf i).toNat)
      case atStart => exact ⟨0, Nat.zero_le _, rfl, fun j o h => by omega, hb4⟩
      case round =>
        obtain ⟨k, hk, rfl, hall, hb⟩ := hrel
        have HAX := Lib.hid hall
        clear hall
        have q0 := keepB hb r0
        have q1 := keepB hb r1
        have q2 := keepB hb r2
        by_cases hkn' : k < m
        · obtain ⟨o, ho⟩ : ∃ o, ops[k]? = some o := ⟨_, List.getElem?_eq_getElem (by have := HM.out; omega)⟩
          have HO := Lib.hid ho
          have HCA := Lib.hid (fun W h => specAxioms ⟨s, ops⟩ o k S [.slice Ag0 n cg0, .slice Ag1 ls cg1, .slice Ag2 m cg2] W HSO.out HOK.out h ho HDA.out)
          clear ho
          cases hax : axOk ⟨s, ops⟩ o
          · have HF : Hid (isSgn ⟨s, ops⟩ = false) := isSgn_false fun h => by have := axOk_true (h.axs o (List.mem_of_getElem? HO.out)); rw [hax] at this; cases this
            rw [hax] at HCA
            clear hax
            go_wp2_with (go_at_call 47; refine (HCA.out _ ?_).mono ?_; exact HVW.out.below hb; rintro e w3 ⟨rfl, hb3⟩)
            go_ret
            exact ⟨ret_bool HF.out.symm, hbW.trans ((hb.trans (hb3.mono hb.size)).mono hbW.size)⟩
          · have HAO := Lib.hid (axOk_iff.1 hax)
            rw [hax] at HCA
            clear hax
            go_wp2_with (go_at_call 47; refine (HCA.out _ ?_).mono ?_; exact HVW.out.below hb; rintro e w3 ⟨rfl, hb3⟩)
            go_roundw
            case rel =>
              refine ⟨k + 1, by omega, by go_num, fun j p hj hp => ?_, hb.trans (hb3.mono hb.size)⟩
              by_cases hjk : j = k
              · subst hjk
                rw [HO.out] at hp
                injection hp with hp
                rw [← hp]
                exact HAO.out
              · exact HAX.out j p (by omega) hp
            case measure => simp [intOf]; omega
        · obtain rfl : m = k := by omega
          have HF : Hid (isSgn ⟨s, ops⟩ = true) := isSgn_true ⟨HSO.out, by have := HM.out; simp only; omega, fun i o hi => (HALL.out i o (by have hil : i < ops.length := (List.getElem?_eq_some_iff.1 hi).1; have := HM.out; omega) hi).1, HDA.out, fun o ho => by
            obtain ⟨i, hi⟩ := List.mem_iff_getElem?.1 ho
            exact HAX.out i o (by have hil : i < ops.length := (List.getElem?_eq_some_iff.1 hi).1; have := HM.out; omega) hi⟩
          go_wp2
          go_ret
          exact ⟨ret_bool HF.out.symm, hbW.trans (hb.mono hbW.size)⟩
end Go.Proofs.Ytlhbdhdaecchoaa
