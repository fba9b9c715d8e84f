/-
  Whether an operator's declarations fit together: the reference's l4Decls (walked).
-/
import Derived.Test.YtlhbdhdaecchoaaDecls
set_option linter.unusedSimpArgs false
set_option linter.unusedVariables false
namespace Go.Proofs.Ytlhbdhdaecchoaa
open Go.RowKit Go.Sort

theorem specInR (n : Nat) (x : Int) (w : World) : Calls Try.prog 25 #[.int .i64 x, .int .i64 0, .int .i64 ((n : Int) - 1)] w fun e w' => e = .returned (.bool (inR n x)) ∧ w = w' :=
  (specIn x 0 ((n : Int) - 1) w).mono fun e w' ⟨h1, h2⟩ => ⟨by rw [h1]; refine ret_bool ?_; unfold inR; rw [Bool.eq_iff_iff]; simp; omega, h2⟩
set_option maxHeartbeats 4000000 in
set_option maxRecDepth 100000 in
theorem specDecls (g : Sgn) (o : Opr) (S : Nat → Prop) (vs us : List Value) (w : World) (hs : SortsOk g.sorts) (hokg : okSgn g) (hok : okOpr o) (hvg : RepVals w S (encSgn g) vs) (hv : RepVals w S (encOpr o) us) :
    Calls Try.prog 46 #[.agg vs.toArray, .agg us.toArray] w fun e w' => e = .returned (.bool (declsOk g.sorts o)) ∧ Below w.heap.size w w' := by
  obtain ⟨s, ops⟩ := g
  simp only at hs
  obtain ⟨n, hN⟩ : ∃ n, s.names.length = n := ⟨_, rfl⟩
  have hK := kinds_ok (SortsOk.subsIn hs.subs)
  have hn1 := hs.n1
  have h8 := hs.n8
  rw [hN] at hK hn1 h8
  obtain ⟨g0, g1, g2, rfl, f0, f1, f2⟩ := repVals_Signature hvg
  obtain ⟨Ag0, cg0, rfl, _, _⟩ := f0.shape
  obtain ⟨Ag1, cg1, rfl, _, _⟩ := f1.shape
  obtain ⟨Ag2, cg2, rfl, _, _⟩ := f2.shape
  have HSR : Hid (RepVals w S (encSrt s) [.slice Ag0 s.names.length cg0, .slice Ag1 s.subs.length cg1]) := by show RepVals _ _ _ _; simp only [encSrt, RepVals, and_true]; exact ⟨f0, f1⟩
  have HKI := Lib.hid (fun W h => specKinds s S [.slice Ag0 s.names.length cg0, .slice Ag1 s.subs.length cg1] W hokg.1 h hs.n1 hs.n8 hs.subs)
  obtain ⟨name, decls, ac, cm, un⟩ := o
  simp only [encOpr] at hv
  obtain ⟨v1, rfl, e1⟩ := repVals_Op hv
  obtain ⟨A1, cap1, rfl, hc1, hm1⟩ := e1.shape
  obtain ⟨ic, hci, _, hcs, _⟩ := info_parts info_Decl'
  have HOK := Lib.hid hok
  have E1 := Lib.hid e1
  have HK := Lib.hid hK
  have HN := Lib.hid hN
  rw [hN] at HSR HKI
  rw [hN]
  generalize s.subs.length = ms at *
  generalize ops.length = mo at *
  clear hv e1 hok hK hN hs hvg f0 f1 f2 hokg
  generalize hM : decls.length = m at *
  have HM := Lib.hid hM
  clear hM
  have HH := Lib.hid (fun (k : Int) (w : World) => specInR n k w)
  unfold maxLen at hm1
  by_cases hm0 : m = 0
  · subst hm0
    have HF : Hid (declsOk s ⟨name, decls, ac, cm, un⟩ = false) := declsOk_false fun h => by have := h.len1; have := HM.out; simp only at *; omega
    go_enter Try.func46, Try.ntmps46
    go_wp2
    go_ret
    exact ⟨ret_bool HF.out.symm, (belowA _ _).trans ((belowA _ _).mono (belowA _ _).size)⟩
  by_cases hm4 : 4 < m
  · have HF : Hid (declsOk s ⟨name, decls, ac, cm, un⟩ = false) := declsOk_false fun h => by have := h.len4; have := HM.out; simp only at *; omega
    go_enter Try.func46, Try.ntmps46
    go_wp2
    go_ret
    exact ⟨ret_bool HF.out.symm, (belowA _ _).trans ((belowA _ _).mono (belowA _ _).size)⟩
  obtain ⟨f, hf⟩ : ∃ f, decls[0]? = some f := ⟨_, List.getElem?_eq_getElem (by have := HM.out; omega)⟩
  obtain ⟨b1, o1, rfl, _, hz1, hrow⟩ := Rep.at okDclR HOK.out.2.1 E1.out hf
  have HFOK := Lib.hid (HOK.out.2.1 f (List.mem_of_getElem? hf))
  have HF0 := Lib.hid hf
  obtain ⟨fargs, fres⟩ := f
  simp only [encDcl, RepRow, and_true, fieldsOf, List.length_cons, List.length_nil, Nat.reduceAdd, Nat.zero_mul, Nat.add_zero, Rep.lit_iff] at hrow
  obtain ⟨⟨u0, c0, r0⟩, ⟨_, c1, rfl⟩⟩ := hrow
  obtain ⟨Af, capf, rfl, hcf, hmf⟩ := r0.shape
  have RF := Lib.hid r0
  clear hf r0
  unfold maxLen at hmf
  generalize hLF : fargs.length = lf at *
  have HLF := Lib.hid hLF
  clear hLF
  by_cases hl3 : 3 < lf
  · have HF : Hid (declsOk s ⟨name, decls, ac, cm, un⟩ = false) := declsOk_false fun h => by have := h.ar _ HF0.out; have := HLF.out; simp only at *; omega
    go_enter Try.func46, Try.ntmps46
    go_wp2
    go_ret
    exact ⟨ret_bool HF.out.symm, (belowA _ _).trans ((belowA _ _).mono (belowA _ _).size)⟩
  go_enter Try.func46, Try.ntmps46
  go_wp2_with fail
  generalize hW : (w.alloc _).alloc _ = W0
  have hb0 : Below w.heap.size w W0 := by rw [← hW]; exact ((Below.refl _ _).alloc (Nat.le_refl _) _).alloc (by simp) _
  have p3 : W0.cell? ⟨w.heap.size + 1, 1, none⟩ = some (.slice (some ⟨b1, o1, none⟩) m cap1) := (by rw [← hW]; repeat' (first | (simp; done) | exact keepNew (by simp) rfl | refine keepA _ ?_))
  have z1 : w.heap.size + 1 < W0.heap.size := by rw [← hW]; simp
  have c2 := keepB hb0 c0
  have c3 := keepB hb0 c1
  clear hW c0 c1
  generalize hg2 : w.heap.size + 1 = g3 at *
  clear hg2
  refine (HKI.out _ (HSR.out.below hb0)).mono ?_
  rintro e W1 ⟨vk, rfl, hI, hbk⟩
  obtain ⟨Ak, ck, rfl, hck, hmk, hA⟩ := hI.form
  have hkl : (casts (kinds s)).length = n := by rw [casts_len]; exact HK.out.1
  have hI' := hI.rep
  rw [hkl] at hI' hck
  rw [hkl]
  clear hkl hA
  unfold maxLen at hmk
  have VK1 := Lib.hid hI'
  clear hI hI'
  have p3' := keepB hbk p3
  have c0 := keepB hbk c2
  have c1 := keepB hbk c3
  go_wp2_with ((with_reducible refine atStore 69 (.tmp 6) (.tmp 35) rfl ?_); refine wpList_store_new rfl 69 _ _ rfl _ _ _ rfl _ rfl (by simp) [.slice Af lf capf, .int .i64 fres] rfl ic hci hcs rfl (by simp [Value.oneCell']) ?_)
  generalize hW : W1.alloc _ = W
  have hb1 : Below W1.heap.size W1 W := by rw [← hW]; exact belowA _ _
  have p4 : W.cell? ⟨W1.heap.size, 0, none⟩ = some (.slice Af lf capf) := (by rw [← hW]; repeat' (first | (simp; done) | exact keepNew (by simp) rfl | refine keepA _ ?_))
  have p5 : W.cell? ⟨W1.heap.size, 1, none⟩ = some (.int .i64 fres) := (by rw [← hW]; repeat' (first | (simp; done) | exact keepNew (by simp) rfl | refine keepA _ ?_))
  have p6 := keepB hb1 p3'
  have hbW : Below w.heap.size w W := (hb0.trans (hbk.mono hb0.size)).trans (hb1.mono (hb0.trans (hbk.mono hb0.size)).size)
  have V5 := Lib.hid (RF.out.below hbW)
  have VK := Lib.hid (VK1.out.below hb1)
  have V1 := Lib.hid (E1.out.below hbW)
  clear hW c0 c1 c2 c3 p3 p3' E1 RF VK1 hb1
  generalize W1.heap.size = g5 at *
  clear hb0 hbk z1 HKI HSR
  go_loopw [7] (fun i wr => ∃ k : Nat, k ≤ m ∧ i = .int .i64 k ∧ (∀ j d, j < k → decls[j]? = some d → DeclOk s ⟨fargs, fres⟩ d) ∧ Below W.heap.size W wr) (fun i _ => m - (intOf i).toNat)
  case atStart => exact ⟨0, Nat.zero_le _, rfl, fun j x h => by omega, Below.refl _ _⟩
  case round =>
    obtain ⟨k, hk, rfl, hall, hb⟩ := hrel
    have HALL := Lib.hid hall
    clear hall
    have q3 := keepB hb p6
    by_cases hkm' : k < m
    · obtain ⟨d, hd⟩ : ∃ d, decls[k]? = some d := ⟨_, List.getElem?_eq_getElem (by have := HM.out; omega)⟩
      obtain ⟨_, _, hA, _, hbz, hrow⟩ := Rep.at okDclR HOK.out.2.1 (V1.out.below hb) hd
      injection hA with hA
      injection hA with hA hA'
      subst hA hA'
      have HDOK := Lib.hid (HOK.out.2.1 d (List.mem_of_getElem? hd))
      have HD := Lib.hid hd
      clear hd
      obtain ⟨dargs, dres⟩ := d
      simp only [encDcl, RepRow, and_true, fieldsOf, List.length_cons, List.length_nil, Nat.reduceAdd, Rep.lit_iff] at hrow
      obtain ⟨⟨u0, c0, r0⟩, ⟨_, c1, rfl⟩⟩ := hrow
      obtain ⟨Ad, capd, rfl, hcd, hmd⟩ := r0.shape
      have RD := Lib.hid r0
      clear r0
      unfold maxLen at hmd
      generalize hLD : dargs.length = ld at *
      have HLD := Lib.hid hLD
      clear hLD
      have hone : ∀ u ∈ [Value.slice Ad ld capd, Value.int .i64 dres], u.oneCell' = true := by simp [Value.oneCell']
      have HONE := Lib.hid hone
      clear hone
      -- what is known of the first declaration
      have HFA : Hid (0 < k → DeclOk s ⟨fargs, fres⟩ ⟨fargs, fres⟩) := fun h => HALL.out 0 _ h HF0.out
      have HSM : Hid (k = 0 → fargs = dargs ∧ fres = dres) := fun h => by
        have h1 := HD.out
        rw [h, HF0.out] at h1
        injection h1 with h1
        injection h1 with h1 h2
        exact ⟨h1, h2⟩
      have q4 := keepB hb p4
      have q5 := keepB hb p5
      have z5 : g5 < wr.heap.size := World.block_lt_of_cell? _ _ q4
      have z3 : g3 < wr.heap.size := World.block_lt_of_cell? _ _ q3
      by_cases hc1 : ld = lf
      rotate_left
      · have HF : Hid (declsOk s ⟨name, decls, ac, cm, un⟩ = false) := declsOk_false fun h => hc1 (by have := (h.all _ HF0.out _ (List.mem_of_getElem? HD.out)).len; have := HLD.out; have := HLF.out; simp only at *; omega)
        have n1 : (ld == lf) = false := by simp [hc1]
        have n2 : ((ld : Int) == (lf : Int)) = false := by simp; omega
        have n3 : ((ld : Int) != (lf : Int)) = true := by simp; omega
        go_wp2_with ((with_reducible refine atStore 69 (.tmp 8) (.tmp 47) rfl ?_); refine wpList_store_new rfl 69 _ _ rfl _ _ _ rfl _ rfl (by simp) [.slice Ad ld capd, .int .i64 dres] rfl ic hci hcs rfl HONE.out ?_)
        go_ret
        exact ⟨ret_bool HF.out.symm, hbW.trans ((hb.trans ((belowA wr _).mono hb.size)).mono hbW.size)⟩
      obtain rfl : lf = ld := hc1.symm
      have n1 : (lf == lf) = true := by simp
      by_cases hc2 : 0 ≤ dres ∧ dres < n
      rotate_left
      · have HF : Hid (declsOk s ⟨name, decls, ac, cm, un⟩ = false) := declsOk_false fun h => hc2 (by have := (h.all _ HF0.out _ (List.mem_of_getElem? HD.out)).res; rw [HN.out] at this; exact this)
        have HCd := Lib.hid (fun w => HH.out dres w)
        rw [inR_false hc2] at HCd
        clear hc2
        go_wp2_with (first | (go_at_call 25; refine (HCd.out _).mono ?_; rintro e w3 ⟨rfl, rfl⟩) | ((with_reducible refine atStore 69 (.tmp 8) (.tmp 47) rfl ?_); refine wpList_store_new rfl 69 _ _ rfl _ _ _ rfl _ rfl (by simp) [.slice Ad lf capd, .int .i64 dres] rfl ic hci hcs rfl HONE.out ?_))
        go_ret
        exact ⟨ret_bool HF.out.symm, hbW.trans ((hb.trans ((belowA wr _).mono hb.size)).mono hbW.size)⟩
      have HCd := Lib.hid (fun w => HH.out dres w)
      rw [inR_true hc2] at HCd
      go_wp2_with (first | (go_at_call 25; refine (HCd.out _).mono ?_; rintro e w3 ⟨rfl, rfl⟩) | ((with_reducible refine atStore 69 (.tmp 8) (.tmp 47) rfl ?_); refine wpList_store_new rfl 69 _ _ rfl _ _ _ rfl _ rfl (by simp) [.slice Ad lf capd, .int .i64 dres] rfl ic hci hcs rfl HONE.out ?_))
      generalize hW9 : wr.alloc _ = W9
      have hb9 : Below wr.heap.size wr W9 := by rw [← hW9]; exact belowA _ _
      have y0 : W9.cell? ⟨wr.heap.size, 0, none⟩ = some (.slice Ad lf capd) := (by rw [← hW9]; repeat' (first | (simp; done) | exact keepNew (by simp) rfl | refine keepA _ ?_))
      have y1 : W9.cell? ⟨wr.heap.size, 1, none⟩ = some (.int .i64 dres) := (by rw [← hW9]; repeat' (first | (simp; done) | exact keepNew (by simp) rfl | refine keepA _ ?_))
      have hb5 : Below W.heap.size W W9 := hb.trans (hb9.mono hb.size)
      have RD2 := Lib.hid (RD.out.below hb9)
      clear hW9 c0 c1 RD q3 q4 q5 z5 z3 HCd
      generalize wr.heap.size = g9 at *
      clear hb9 hb
      obtain ⟨wo2, rfl⟩ : ∃ x : World, x = wr := ⟨_, rfl⟩
      go_loopw [9] (fun i wr => ∃ j : Nat, j ≤ lf ∧ i = .int .i64 j ∧ (∀ (i : Nat) (a b : Int), i < j → dargs[i]? = some a → fargs[i]? = some b → (0 ≤ a ∧ a < n) ∧ kd s a = kd s b) ∧ Below W9.heap.size W9 wr) (fun i _ => lf - (intOf i).toNat)
      case atStart => exact ⟨0, Nat.zero_le _, rfl, fun i a b h => by omega, Below.refl _ _⟩
      case round =>
        obtain ⟨j, hj, rfl, hall, hbr⟩ := hrel
        have HA2 := Lib.hid hall
        clear hall
        have hb6 : Below W.heap.size W wr := hb5.trans (hbr.mono hb5.size)
        have s0 := keepB hbr y0
        have s1 := keepB hbr y1
        have s4 := keepB hb6 p4
        have s5 := keepB hb6 p5
        by_cases hjn : j < lf
        · obtain ⟨x, hx⟩ : ∃ x, dargs[j]? = some x := ⟨_, List.getElem?_eq_getElem (by have := HLD.out; omega)⟩
          obtain ⟨y, hy⟩ : ∃ y, fargs[j]? = some y := ⟨_, List.getElem?_eq_getElem (by have := HLF.out; omega)⟩
          obtain ⟨bd, od, rfl, hbd, cx⟩ := Rep.int HDOK.out.1 (RD2.out.below hbr) hx
          obtain ⟨bf, of, rfl, hbf, cy⟩ := Rep.int HFOK.out.1 (V5.out.below hb6) hy
          have hyr : (0 ≤ x ∧ x < (n : Int)) → 0 ≤ y ∧ y < (n : Int) := fun h => by
            by_cases hk0 : k = 0
            · have h1 := (HSM.out hk0).1
              rw [h1, hx] at hy
              injection hy with hy
              rw [← hy]
              exact h
            · have := (HFA.out (by omega)).args y (List.mem_of_getElem? hy)
              rw [HN.out] at this
              exact this
          have HX := Lib.hid hx
          have HY := Lib.hid hy
          clear hx hy
          by_cases hxr : 0 ≤ x ∧ x < n
          rotate_left
          · have HF : Hid (declsOk s ⟨name, decls, ac, cm, un⟩ = false) := declsOk_false fun h => hxr (by have := (h.all _ HF0.out _ (List.mem_of_getElem? HD.out)).args x (List.mem_of_getElem? HX.out); rw [HN.out] at this; exact this)
            have HCd := Lib.hid (fun w => HH.out x w)
            rw [inR_false hxr] at HCd
            clear hxr hyr
            go_wp2_with fail
            have hwr : IntKind.i64.wrap ((n : Int) - 1) = (n : Int) - 1 := IntWalk.i64_in _ (by omega)
            go_quiet (first | (go_at_call 25; exact quietC (fun n => HCd.out _) _))
            go_wp2
            go_ret
            exact ⟨ret_bool HF.out.symm, hbW.trans (below_drewN (hb6.mono hbW.size) _)⟩
          have hyr2 := hyr hxr
          clear hyr
          have HCd := Lib.hid (fun w => HH.out x w)
          rw [inR_true hxr] at HCd
          obtain ⟨xn, rfl⟩ := Int.eq_ofNat_of_zero_le hxr.1
          obtain ⟨yn, rfl⟩ := Int.eq_ofNat_of_zero_le hyr2.1
          obtain ⟨bk, ok, rfl, _, kc1⟩ := kd_cell (by rw [HN.out]; exact HK.out) (by rw [HN.out]; exact h8) (VK.out.below hb6) (k := xn) (by rw [HN.out]; omega)
          obtain ⟨_, _, hA, _, kc2⟩ := kd_cell (by rw [HN.out]; exact HK.out) (by rw [HN.out]; exact h8) (VK.out.below hb6) (k := yn) (by rw [HN.out]; omega)
          injection hA with hA
          injection hA with hA hA'
          subst hA hA'
          by_cases hc3 : kd s xn = kd s yn
          rotate_left
          · have HF : Hid (declsOk s ⟨name, decls, ac, cm, un⟩ = false) := declsOk_false fun h => hc3 ((h.all _ HF0.out _ (List.mem_of_getElem? HD.out)).kargs j _ _ HX.out HY.out)
            generalize kd s xn = kx at *
            generalize kd s yn = kz at *
            have n1 : (kx == kz) = false := by simp [hc3]
            have n2 : ((kx : Int) == (kz : Int)) = false := by simp; omega
            have n3 : ((kx : Int) != (kz : Int)) = true := by simp; omega
            go_wp2_with fail
            have hwr : IntKind.i64.wrap ((n : Int) - 1) = (n : Int) - 1 := IntWalk.i64_in _ (by omega)
            go_quiet (first | (go_at_call 25; exact quietC (fun n => HCd.out _) _))
            go_wp2
            go_ret
            exact ⟨ret_bool HF.out.symm, hbW.trans (below_drewN (hb6.mono hbW.size) _)⟩
          have HC4 := Lib.hid hc3
          rw [hc3] at kc1
          generalize kd s yn = kz at kc1 kc2
          clear hc3
          go_wp2_with fail
          have hwr : IntKind.i64.wrap ((n : Int) - 1) = (n : Int) - 1 := IntWalk.i64_in _ (by omega)
          go_quiet (first | (go_at_call 25; exact quietC (fun n => HCd.out _) _))
          clear hwr
          go_wp2
          go_roundw
          case rel =>
            refine ⟨j + 1, by omega, by go_num, fun i a b hi ha hb' => ?_, below_drewN hbr _⟩
            by_cases hij : i = j
            · subst hij
              rw [HX.out] at ha
              rw [HY.out] at hb'
              injection ha with ha
              injection hb' with hb'
              rw [← ha, ← hb']
              exact ⟨hxr, HC4.out⟩
            · exact HA2.out i a b (by omega) ha hb'
          case measure => simp [intOf]; omega
        · obtain rfl : lf = j := by omega
          have hfr : 0 ≤ fres ∧ fres < (n : Int) := by
            by_cases hk0 : k = 0
            · rw [(HSM.out hk0).2]
              exact hc2
            · have := (HFA.out (by omega)).res
              rw [HN.out] at this
              exact this
          obtain ⟨dn, rfl⟩ := Int.eq_ofNat_of_zero_le hc2.1
          obtain ⟨fn, rfl⟩ := Int.eq_ofNat_of_zero_le hfr.1
          obtain ⟨bk, ok, rfl, _, kc1⟩ := kd_cell (by rw [HN.out]; exact HK.out) (by rw [HN.out]; exact h8) (VK.out.below hb6) (k := dn) (by rw [HN.out]; omega)
          obtain ⟨_, _, hA, _, kc2⟩ := kd_cell (by rw [HN.out]; exact HK.out) (by rw [HN.out]; exact h8) (VK.out.below hb6) (k := fn) (by rw [HN.out]; omega)
          injection hA with hA
          injection hA with hA hA'
          subst hA hA'
          by_cases hc3 : kd s dn = kd s fn
          rotate_left
          · have HF : Hid (declsOk s ⟨name, decls, ac, cm, un⟩ = false) := declsOk_false fun h => hc3 (h.all _ HF0.out _ (List.mem_of_getElem? HD.out)).kres
            generalize kd s dn = kx at *
            generalize kd s fn = kz at *
            have n1 : (kx == kz) = false := by simp [hc3]
            have n2 : ((kx : Int) == (kz : Int)) = false := by simp; omega
            have n3 : ((kx : Int) != (kz : Int)) = true := by simp; omega
            go_wp2_with fail
            go_quiet (fail)
            go_wp2
            go_ret
            exact ⟨ret_bool HF.out.symm, hbW.trans (below_drewN (hb6.mono hbW.size) _)⟩
          have HC3 := Lib.hid hc3
          rw [hc3] at kc1
          generalize kd s fn = ky at kc1 kc2
          clear hc3
          have HDO : Hid (DeclOk s ⟨fargs, fn⟩ ⟨dargs, dn⟩) := by
            refine ⟨by have := HLD.out; have := HLF.out; simp only; omega, by rw [HN.out]; exact hc2, fun x hx => ?_, HC3.out, fun i a b ha hb' => ?_⟩
            · rw [HN.out]
              obtain ⟨i, hi⟩ := List.mem_iff_getElem?.1 hx
              have hil : i < dargs.length := (List.getElem?_eq_some_iff.1 hi).1
              have hil2 := HLD.out
              have hil3 := HLF.out
              exact (HA2.out i x fargs[i] (by omega) hi (List.getElem?_eq_getElem (by omega))).1
            · have hil : i < fargs.length := (List.getElem?_eq_some_iff.1 hb').1
              have hil3 := HLF.out
              exact (HA2.out i a b (by omega) ha hb').2
          go_wp2_with fail
          go_quiet (fail)
          go_wp2
          go_roundw
          case rel =>
            refine ⟨k + 1, by omega, by go_num, fun i d hi hd => ?_, below_drewN hb6 _⟩
            by_cases hik : i = k
            · subst hik
              rw [HD.out] at hd
              injection hd with hd
              rw [← hd]
              exact HDO.out
            · exact HALL.out i d (by omega) hd
          case measure => simp [intOf]; omega
    · obtain rfl : m = k := by omega
      have HF : Hid (declsOk s ⟨name, decls, ac, cm, un⟩ = true) := declsOk_true (by
        have hm' := HM.out
        have hl' := HLF.out
        refine ⟨by simp only; omega, by simp only; omega, fun f hf => ?_, fun f hf d hd => ?_⟩
        · rw [HF0.out] at hf
          injection hf with hf
          subst hf
          simp only
          omega
        · rw [HF0.out] at hf
          injection hf with hf
          subst hf
          obtain ⟨i, hi⟩ := List.mem_iff_getElem?.1 hd
          exact HALL.out i d (by have hil : i < decls.length := (List.getElem?_eq_some_iff.1 hi).1; omega) hi)
      go_wp2
      go_ret
      exact ⟨ret_bool HF.out.symm, hbW.trans (hb.mono hbW.size)⟩
end Go.Proofs.Ytlhbdhdaecchoaa
