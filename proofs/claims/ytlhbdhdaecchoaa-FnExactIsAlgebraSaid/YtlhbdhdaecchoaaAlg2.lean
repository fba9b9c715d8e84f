/-
  Valid algebras: the reference's l22Power and IsAlgebra (walked).
-/
import Derived.Test.YtlhbdhdaecchoaaAlg
import Derived.Test.YtlhbdhdaecchoaaSgn2
set_option linter.unusedSimpArgs false
set_option linter.unusedVariables false
namespace Go.Proofs.Ytlhbdhdaecchoaa
open Go.RowKit Go.Sort

set_option maxRecDepth 100000 in
theorem specPower (z k : Nat) (hz : z ≤ 4) (hk : k ≤ 3) (w : World) : Calls Try.prog 26 #[.int .i64 z, .int .i64 k] w fun e w' => e = .returned (.int .i64 ((z ^ k : Nat) : Int)) ∧ w = w' := by
  go_enter Try.func26, Try.ntmps26
  go_wp2
  go_loop [5, 6] (fun n i => ∃ j : Nat, j ≤ k ∧ i = .int .i64 j ∧ n = .int .i64 ((z ^ j : Nat) : Int)) (fun _ i => k - (intOf i).toNat)
  case atStart => exact ⟨0, Nat.zero_le _, rfl, by simp⟩
  case round =>
    obtain ⟨j, hj, rfl, rfl⟩ := hrel
    by_cases hjk : j < k
    · have hp := pow_le64 hz (show j ≤ 3 by omega)
      have HS := Lib.hid (Nat.pow_succ z j)
      generalize z ^ j = p at *
      obtain ⟨m1, m2⟩ := wrap_mul hp hz
      go_wp2
      go_round
      case rel => exact ⟨j + 1, by omega, by go_num, by rw [HS.out]; first | rfl | (simp only [Int.natCast_mul]; done) | simp [Int.natCast_mul]⟩
      case measure => simp [intOf]; omega
    · obtain rfl : k = j := by omega
      go_wp2
      go_ret
      exact ⟨rfl, rfl⟩

set_option maxHeartbeats 20000000 in
set_option maxRecDepth 100000 in
theorem specIsAlgebra : algC 8 := by
  intro g a S vs us w hokg hoka hvg hva
  obtain ⟨s, ops⟩ := g
  have hvg0 := hvg
  obtain ⟨g0, g1, g2, rfl, f0, f1, f2⟩ := repVals_Signature hvg
  obtain ⟨Ag0, cg0, rfl, _, _⟩ := f0.shape
  obtain ⟨Ag1, cg1, rfl, _, _⟩ := f1.shape
  obtain ⟨Ag2, cg2, rfl, hcg2, hmg2⟩ := f2.shape
  obtain ⟨z, tabs⟩ := a
  simp only [encAlg] at hva
  obtain ⟨v1, rfl, e1⟩ := repVals_Algebra hva
  obtain ⟨At, capt, rfl, hct, hmt⟩ := e1.shape
  have HOKG := Lib.hid hokg
  have HOKA := Lib.hid hoka
  have HVG := Lib.hid hvg0
  have F2 := Lib.hid f2
  have E1 := Lib.hid e1
  have hz64 : I64 z := hoka.1
  clear hvg hvg0 hva f0 f1 f2 e1 hokg hoka
  simp only at HVG F2 hcg2 hmg2
  simp only
  generalize s.names.length = n at *
  generalize s.subs.length = ls at *
  generalize hM : ops.length = m at *
  have HM := Lib.hid hM
  generalize hMT : tabs.length = mt at *
  have HMT := Lib.hid hMT
  clear hM hMT
  unfold maxLen at hmg2 hmt
  unfold I64 at hz64
  have HIS := Lib.hid (fun W h => specIsSignature ⟨s, ops⟩ S [.slice Ag0 n cg0, .slice Ag1 ls cg1, .slice Ag2 m cg2] W HOKG.out h)
  have HIN := Lib.hid (fun w => specIn z 1 4 w)
  go_enter Try.func8, Try.ntmps8
  go_wp2_with fail
  generalize hW : (w.alloc _).alloc _ = W0
  have hb0 : Below w.heap.size w W0 := by rw [← hW]; exact (by repeat' (first | exact Below.refl _ _ | refine below_drewN ?_ _ | refine Below.alloc ?_ (by first | exact Nat.le_refl _ | (simp; done) | (simp; omega)) _))
  have p0 : W0.cell? ⟨w.heap.size, 0, none⟩ = some (.slice Ag0 n cg0) := (by rw [← hW]; repeat' (first | (simp; done) | exact keepNew (by simp) rfl | refine keepA _ ?_))
  have p1 : W0.cell? ⟨w.heap.size, 1, none⟩ = some (.slice Ag1 ls cg1) := (by rw [← hW]; repeat' (first | (simp; done) | exact keepNew (by simp) rfl | refine keepA _ ?_))
  have p2 : W0.cell? ⟨w.heap.size, 2, none⟩ = some (.slice Ag2 m cg2) := (by rw [← hW]; repeat' (first | (simp; done) | exact keepNew (by simp) rfl | refine keepA _ ?_))
  have p3 : W0.cell? ⟨w.heap.size + 1, 0, none⟩ = some (.int .i64 z) := (by rw [← hW]; repeat' (first | (simp; done) | exact keepNew (by simp) rfl | refine keepA _ ?_))
  have p4 : W0.cell? ⟨w.heap.size + 1, 1, none⟩ = some (.slice At mt capt) := (by rw [← hW]; repeat' (first | (simp; done) | exact keepNew (by simp) rfl | refine keepA _ ?_))
  clear hW
  generalize w.heap.size + 1 = g3 at *
  by_cases hs : SgnOk ⟨s, ops⟩
  rotate_left
  · have HF : Hid (isAlg ⟨s, ops⟩ ⟨z, tabs⟩ = false) := isAlg_false fun h => hs h.sgn
    rw [isSgn_false hs] at HIS
    clear hs
    refine (HIS.out _ (HVG.out.below hb0)).mono ?_
    rintro e w2 ⟨rfl, hb2⟩
    go_wp2
    go_ret
    exact ⟨ret_bool HF.out.symm, hb0.trans (hb2.mono hb0.size)⟩
  rw [isSgn_true hs] at HIS
  have HSO := Lib.hid hs
  clear hs
  refine (HIS.out _ (HVG.out.below hb0)).mono ?_
  rintro e W ⟨rfl, hb2⟩
  have hbW : Below w.heap.size w W := hb0.trans (hb2.mono hb0.size)
  have r0 := keepB hb2 p0
  have r1 := keepB hb2 p1
  have r2 := keepB hb2 p2
  have r3 := keepB hb2 p3
  have r4 := keepB hb2 p4
  have F2W := Lib.hid (F2.out.below hbW)
  have E1W := Lib.hid (E1.out.below hbW)
  clear p0 p1 p2 p3 p4 F2 E1 HVG HIS hb0 hb2
  by_cases hz : 1 ≤ z ∧ z ≤ 4
  rotate_left
  · have HF : Hid (isAlg ⟨s, ops⟩ ⟨z, tabs⟩ = false) := isAlg_false fun h => hz ⟨h.lo, h.hi⟩
    rw [decide_eq_false hz] at HIN
    clear hz
    go_wp2_with (go_at_call 25; refine (HIN.out _).mono ?_; rintro e w4 ⟨rfl, rfl⟩)
    go_ret
    exact ⟨ret_bool HF.out.symm, hbW⟩
  rw [decide_eq_true hz] at HIN
  by_cases hmm : mt = m
  rotate_left
  · have HF : Hid (isAlg ⟨s, ops⟩ ⟨z, tabs⟩ = false) := isAlg_false fun h => hmm (by have := h.len; have := HM.out; have := HMT.out; simp only at *; omega)
    have n1 : (mt == m) = false := by simp [hmm]
    have n2 : ((mt : Int) == (m : Int)) = false := by simp; omega
    have n3 : ((mt : Int) != (m : Int)) = true := by simp; omega
    go_wp2_with (go_at_call 25; refine (HIN.out _).mono ?_; rintro e w4 ⟨rfl, rfl⟩)
    go_ret
    exact ⟨ret_bool HF.out.symm, hbW⟩
  obtain rfl : m = mt := hmm.symm
  have n1 : (m == m) = true := by simp
  obtain ⟨zn, rfl⟩ := Int.eq_ofNat_of_zero_le (show 0 ≤ z by omega)
  go_wp2_with (go_at_call 25; refine (HIN.out _).mono ?_; rintro e w4 ⟨rfl, rfl⟩)
  clear HIN n1
  go_loopw [5] (fun i wr => ∃ k : Nat, k ≤ m ∧ i = .int .i64 k ∧ (∀ (j : Nat) (o : Opr) (d : Dcl) (t : List Int), j < k → ops[j]? = some o → o.decls[0]? = some d → tabs[j]? = some t → TabOk zn d.args.length t) ∧ Below W.heap.size W wr) (fun i _ => m - (intOf i).toNat)
  case atStart => exact ⟨0, Nat.zero_le _, rfl, fun j o d t h => by omega, Below.refl _ _⟩
  case round =>
    obtain ⟨k, hk, rfl, hall, hb⟩ := hrel
    have HALL := Lib.hid hall
    clear hall
    have q2 := keepB hb r2
    have q3 := keepB hb r3
    have q4 := keepB hb r4
    by_cases hkn : k < m
    · obtain ⟨o, ho⟩ : ∃ o, ops[k]? = some o := ⟨_, List.getElem?_eq_getElem (by have := HM.out; omega)⟩
      obtain ⟨t, ht⟩ : ∃ t, tabs[k]? = some t := ⟨_, List.getElem?_eq_getElem (by have := HMT.out; omega)⟩
      obtain ⟨d, hd, hdd⟩ := (HSO.out.decls o (List.mem_of_getElem? ho)).first
      have har := (HSO.out.decls o (List.mem_of_getElem? ho)).ar d hd
      have HOO := Lib.hid (HOKG.out.2 o (List.mem_of_getElem? ho))
      have HTO := Lib.hid (HOKA.out.2 t (List.mem_of_getElem? ht))
      obtain ⟨b, off, vd, rfl, hbz, c0, c1, c2, c3, c4, rd⟩ := Rep.opAt HOKG.out.2 (F2W.out.below hb) ho
      obtain ⟨bt, ot, Ax, cx, rfl, hbt, x0, hx1, hx2, rt⟩ := Rep.intsAt HOKA.out.2 (E1W.out.below hb) ht
      have HO := Lib.hid ho
      have HT := Lib.hid ht
      have HD := Lib.hid hd
      obtain ⟨name, decls, ac, cm, un⟩ := o
      simp only at c0 c2 c3 c4 rd hd
      have hrv : RepVals wr S (encOpr ⟨name, decls, ac, cm, un⟩) [.string name, vd, .bool ac, .bool cm, .int .i64 un] := by simp only [encOpr, RepVals, Rep.lit_iff, and_true, true_and]; exact rd
      obtain ⟨Ad, capd, rfl, _, _⟩ := rd.shape
      have HRV := Lib.hid hrv
      have RT := Lib.hid rt
      clear ho ht hd hdd rd hrv rt
      generalize decls.length = ld at *
      have HCA : Hid (∀ dd os, Calls Try.prog 27 #[.agg #[.string name, .slice Ad ld capd, .bool ac, .bool cm, .int .i64 un]] (grow (redrawn wr dd) os) fun e w'' => e = .returned (.int .i64 d.args.length) ∧ ∃ p : Regrown, w'' = grow (redrawn wr p.d) p.os) := fun dd os =>
        Calls.regrown_of (specArity ⟨name, decls, ac, cm, un⟩ d S _ _ HOO.out (HRV.out.below (below_regrown wr dd os)) HD.out)
      have HCP : Hid (∀ dd os, Calls Try.prog 26 #[.int .i64 zn, .int .i64 d.args.length] (grow (redrawn wr dd) os) fun e w'' => e = .returned (.int .i64 ((zn ^ d.args.length : Nat) : Int)) ∧ ∃ p : Regrown, w'' = grow (redrawn wr p.d) p.os) := fun dd os =>
        Calls.regrown_of ((specPower zn d.args.length (by omega) har _).mono fun e w' h => ⟨h.1, by rw [← h.2]; exact Below.refl _ _⟩)
      have k2 := cell_regrown q2
      have k3 := cell_regrown q3
      have k4 := cell_regrown q4
      have y0 := cell_regrown c0
      have y1 := cell_regrown c1
      have y2 := cell_regrown c2
      have y3 := cell_regrown c3
      have y4 := cell_regrown c4
      have y5 := cell_regrown x0
      have hpw := pow_le64 (show zn ≤ 4 by omega) har
      have HLT := Lib.hid (rfl : t.length = t.length)
      generalize hLT : t.length = lt at *
      have HLT2 := Lib.hid hLT
      clear hLT HLT har
      have HDD := Lib.hid (rfl : d.args.length = d.args.length)
      generalize hDL : d.args.length = dl at *
      have HDL := Lib.hid hDL
      clear hDL HDD
      generalize hPW : zn ^ dl = pw at *
      have HPW := Lib.hid hPW
      clear hPW
      unfold maxLen at hx2
      by_cases hlen : lt = pw
      rotate_left
      · have HF : Hid (isAlg ⟨s, ops⟩ ⟨zn, tabs⟩ = false) := isAlg_false fun h => hlen (by have := (h.tab k _ d t HO.out HD.out HT.out).len; rw [HLT2.out, HDL.out] at this; simpa [HPW.out] using this)
        have n1 : (lt == pw) = false := by simp [hlen]
        have n2 : ((lt : Int) == (pw : Int)) = false := by simp; omega
        have n3 : ((lt : Int) != (pw : Int)) = true := by simp; omega
        go_wp2_with fail
        (refine wp_region_quiet_below (by kernel_rfl) (by kernel_rfl) ?_
         repeat (first | go_big_quiet_step (first | (go_at_call 27; exact HCA.out _ _) | (go_at_call 26; exact HCP.out _ _)) | quiet_step (first | (go_at_call 27; exact HCA.out _ _) | (go_at_call 26; exact HCP.out _ _)))
         refine wpQuiet_nil ?_
         intro _ hw'
         obtain ⟨⟨dq, osq⟩, hw''⟩ := hw'
         subst hw'')
        go_wp2
        go_ret
        exact ⟨ret_bool HF.out.symm, hbW.trans ((hb.trans ((below_regrown wr dq osq).mono hb.size)).mono hbW.size)⟩
      obtain rfl : lt = pw := hlen
      go_wp2_with fail
      (refine wp_region_quiet_below (by kernel_rfl) (by kernel_rfl) ?_
       repeat (first | go_big_quiet_step (first | (go_at_call 27; exact HCA.out _ _) | (go_at_call 26; exact HCP.out _ _)) | quiet_step (first | (go_at_call 27; exact HCA.out _ _) | (go_at_call 26; exact HCP.out _ _)))
       refine wpQuiet_nil ?_
       intro _ hw'
       obtain ⟨⟨dq, osq⟩, hw''⟩ := hw'
       subst hw'')
      have hb5 : Below W.heap.size W (grow (redrawn wr dq) osq) := hb.trans ((below_regrown wr dq osq).mono hb.size)
      have RT5 := Lib.hid (RT.out.below (below_regrown wr dq osq))
      have y6 := y5 dq osq
      clear k2 k3 k4 y0 y1 y2 y3 y4 y5 q2 q3 q4 c0 c1 c2 c3 c4 HCA HCP HRV hb hbz x0 hbt RT
      generalize grow (redrawn wr dq) osq = W5 at *
      go_wp2
      obtain ⟨wo, rfl⟩ : ∃ x : World, x = wr := ⟨_, rfl⟩
      go_loopw [6] (fun i wr => ∃ j : Nat, j ≤ lt ∧ i = .int .i64 j ∧ (∀ (i : Nat) (x : Int), i < j → t[i]? = some x → 0 ≤ x ∧ x < (zn : Int)) ∧ Below W5.heap.size W5 wr) (fun i _ => lt - (intOf i).toNat)
      case atStart => exact ⟨0, Nat.zero_le _, rfl, fun i x h => by omega, Below.refl _ _⟩
      case round =>
        obtain ⟨j, hj, rfl, hno, hbr⟩ := hrel
        have HNO := Lib.hid hno
        clear hno
        have hb6 : Below W.heap.size W wr := hb5.trans (hbr.mono hb5.size)
        have q3 := keepB hb6 r3
        have q4 := keepB hb6 r4
        have y7 := keepB hbr y6
        by_cases hjk : j < lt
        · obtain ⟨x, hx⟩ : ∃ x, t[j]? = some x := ⟨_, List.getElem?_eq_getElem (by have := HLT2.out; omega)⟩
          obtain ⟨bx, ox, rfl, hbx, cx0⟩ := Rep.int HTO.out (RT5.out.below hbr) hx
          have HX := Lib.hid hx
          clear hx
          have HCI := Lib.hid (fun w => specInR zn x w)
          by_cases hxr : 0 ≤ x ∧ x < (zn : Int)
          · rw [inR_true hxr] at HCI
            go_wp2_with fail
            have hwr : IntKind.i64.wrap ((zn : Int) - 1) = (zn : Int) - 1 := IntWalk.i64_in _ (by omega)
            go_quiet (first | (go_at_call 25; exact quietC (fun n => HCI.out _) _))
            clear hwr
            go_wp2
            go_roundw
            case rel =>
              refine ⟨j + 1, by omega, by go_num, fun i y hi hy => ?_, below_drewN hbr _⟩
              by_cases hij : i = j
              · subst hij
                rw [HX.out] at hy
                injection hy with hy
                rw [← hy]
                exact hxr
              · exact HNO.out i y (by omega) hy
            case measure => simp [intOf]; omega
          · have HF : Hid (isAlg ⟨s, ops⟩ ⟨zn, tabs⟩ = false) := isAlg_false fun h => hxr ((h.tab k _ d t HO.out HD.out HT.out).all x (List.mem_of_getElem? HX.out))
            rw [inR_false hxr] at HCI
            clear hxr
            go_wp2_with fail
            have hwr : IntKind.i64.wrap ((zn : Int) - 1) = (zn : Int) - 1 := IntWalk.i64_in _ (by omega)
            go_quiet (first | (go_at_call 25; exact quietC (fun n => HCI.out _) _))
            go_wp2
            go_ret
            exact ⟨ret_bool HF.out.symm, hbW.trans (below_drewN (hb6.mono hbW.size) _)⟩
        · obtain rfl : lt = j := by omega
          go_wp2
          go_roundw
          case rel =>
            refine ⟨k + 1, by omega, by go_num, fun j o' d' t' hj ho hd ht => ?_, hb6⟩
            by_cases hjk' : j = k
            · subst hjk'
              rw [HO.out] at ho
              injection ho with ho
              subst ho
              rw [HD.out] at hd
              injection hd with hd
              subst hd
              rw [HT.out] at ht
              injection ht with ht
              subst ht
              refine ⟨by rw [HLT2.out, HDL.out]; simp [HPW.out], fun x hx => ?_⟩
              obtain ⟨i, hi⟩ := List.mem_iff_getElem?.1 hx
              exact HNO.out i x (by have hil := (List.getElem?_eq_some_iff.1 hi).1; rw [HLT2.out] at hil; exact hil) hi
            · exact HALL.out j o' d' t' (by omega) ho hd ht
          case measure => simp [intOf]; omega
    · obtain rfl : m = k := by omega
      have HF : Hid (isAlg ⟨s, ops⟩ ⟨zn, tabs⟩ = true) := isAlg_true ⟨HSO.out, hz.1, hz.2, by have := HM.out; have := HMT.out; simp only; omega, fun i o d t ho hd ht => HALL.out i o d t (by have hil : i < ops.length := (List.getElem?_eq_some_iff.1 ho).1; have := HM.out; omega) ho hd ht⟩
      go_wp2
      go_ret
      exact ⟨ret_bool HF.out.symm, hbW.trans (hb.mono hbW.size)⟩
end Go.Proofs.Ytlhbdhdaecchoaa
