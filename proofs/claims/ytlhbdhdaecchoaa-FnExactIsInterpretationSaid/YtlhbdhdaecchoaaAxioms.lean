/-
  Whether an operator may have its axioms: the program's axiomsOK (walked).
-/
import Derived.Test.YtlhbdhdaecchoaaDecls
set_option linter.unusedSimpArgs false
set_option linter.unusedVariables false
namespace Go.Proofs.Ytlhbdhdaecchoaa
open Go.RowKit Go.Sort

structure AxOk (g : Sgn) (o : Opr) : Prop where
  lo : 0 ≤ o.unit
  hi : o.unit ≤ g.ops.length
  two : (o.assoc = true ∨ o.comm = true ∨ o.unit ≠ 0) → ∀ d, o.decls[0]? = some d → d.args.length = 2 ∧ ∀ a b, d.args[0]? = some a → d.args[1]? = some b → kd g.sorts a = kd g.sorts b ∧ ((o.assoc = true ∨ o.unit ≠ 0) → kd g.sorts a = kd g.sorts d.res) ∧
    (o.unit ≠ 0 → ∀ (p : Opr) (u : Dcl), g.ops[o.unit.toNat - 1]? = some p → p.decls[0]? = some u → u.args.length = 0 ∧ kd g.sorts u.res = kd g.sorts d.res)
open Classical in
noncomputable def axOk (g : Sgn) (o : Opr) : Bool := decide (AxOk g o)
theorem axOk_true {g : Sgn} {o : Opr} (h : AxOk g o) : axOk g o = true := by simp [axOk, h]
theorem axOk_false {g : Sgn} {o : Opr} (h : ¬ AxOk g o) : axOk g o = false := by simp [axOk, h]
theorem axOk_iff {g : Sgn} {o : Opr} : axOk g o = true ↔ AxOk g o := by simp [axOk]
theorem DeclsOk.first {s : Srt} {o : Opr} (h : DeclsOk s o) : ∃ d, o.decls[0]? = some d ∧ DeclOk s d d := by
  have h1 := h.len1
  exact ⟨o.decls[0], List.getElem?_eq_getElem (by omega), h.all _ (List.getElem?_eq_getElem (by omega)) _ (List.getElem_mem _)⟩
theorem two_of {l : List Int} (h : l.length = 2) : ∃ a b, l = [a, b] := len2 h

set_option maxHeartbeats 20000000 in
set_option maxRecDepth 100000 in
theorem implAxiomsOK (g : Sgn) (o : Opr) (S : Nat → Prop) (Aa Ak : Option Addr) (n ca ck : Nat) (vb : Value) (vs us : List Value) (w : World) (hN : g.sorts.names.length = n) (h8 : n ≤ 8) (hK : KOk n (kinds g.sorts)) (hokg : okSgn g) (hok : okOpr o) (hvg : RepVals w S (encSgn g) vs) (hv : RepVals w S (encOpr o) us)
    (hD : DeclsOk g.sorts o) (hall : ∀ p ∈ g.ops, DeclsOk g.sorts p) (hb1 : vb.oneCell' = true) (hk : Rep w S (.sl ((casts (kinds g.sorts)).map encInt)) (.slice Ak n ck)) :
    Calls Try.prog 55 #[.agg #[.slice Aa n ca, vb, .slice Ak n ck], .agg vs.toArray, .agg us.toArray] w fun e w' => e = .returned (.bool (axOk g o)) ∧ Below w.heap.size w w' := by
  obtain ⟨s, ops⟩ := g
  simp only at hN hK hD hall hk
  obtain ⟨g0, g1, g2, rfl, f0, f1, f2⟩ := repVals_Signature hvg
  obtain ⟨Ag0, cg0, rfl, _, _⟩ := f0.shape
  obtain ⟨Ag1, cg1, rfl, _, _⟩ := f1.shape
  obtain ⟨Ag2, cg2, rfl, hcg2, hmg2⟩ := f2.shape
  obtain ⟨name, decls, ac, cm, un⟩ := o
  simp only [encOpr] at hv
  obtain ⟨v1, rfl, e1⟩ := repVals_Op hv
  obtain ⟨A1, cap1, rfl, hc1, hm1⟩ := e1.shape
  obtain ⟨ic, hci, _, hcs, _⟩ := info_parts info_Decl'
  obtain ⟨d, hd, hdd⟩ := hD.first
  simp only at hd
  obtain ⟨b1, o1, rfl, _, hz1, hrow⟩ := Rep.at okDclR hok.2.1 e1 hd
  have HDOK := Lib.hid (hok.2.1 d (List.mem_of_getElem? hd))
  obtain ⟨dargs, dres⟩ := d
  simp only [encDcl, RepRow, and_true, fieldsOf, List.length_cons, List.length_nil, Nat.reduceAdd, Nat.zero_mul, Nat.add_zero, Rep.lit_iff] at hrow
  obtain ⟨⟨u0, c0, r0⟩, ⟨_, c1, rfl⟩⟩ := hrow
  obtain ⟨Ad, capd, rfl, hcd, hmd⟩ := r0.shape
  have hun : I64 un := hok.2.2
  have HD0 := Lib.hid hd
  have HDD := Lib.hid hdd
  have HALL := Lib.hid hall
  have HN := Lib.hid hN
  have HK := Lib.hid hK
  have HKR := Lib.hid hk
  have RD := Lib.hid r0
  have F2 := Lib.hid f2
  have HOKG := Lib.hid hokg
  have hml : 1 ≤ decls.length := hD.len1
  clear hv hvg e1 hok hd hdd hall hN hK hk r0 f0 f1 f2 hokg hD
  have hkm : ck ≤ maxLen := by
    obtain ⟨_, _, h, _, h2⟩ := HKR.out.shape
    injection h with _ _ h
    rw [h]
    exact h2
  unfold maxLen at hkm hm1 hmd hmg2
  unfold I64 at hun
  generalize s.names.length = ln
  generalize s.subs.length = ls
  generalize hM : ops.length = m at *
  have HM := Lib.hid hM
  generalize hML : decls.length = md at *
  generalize hLD : dargs.length = ld at *
  have HLD := Lib.hid hLD
  clear hM hML hLD
  have hz2 : b1 < w.heap.size + 1 := by omega
  have hz3 : b1 < w.heap.size + 1 + 1 := by omega
  have hz4 : b1 < w.heap.size + 1 + 1 + 1 := by omega
  by_cases u0 : un < 0
  · have HF : Hid (axOk ⟨s, ops⟩ ⟨name, decls, ac, cm, un⟩ = false) := axOk_false fun h => by have := h.lo; simp only at this; omega
    go_enter Try.func55, Try.ntmps55
    go_wp2
    go_ret
    exact ⟨ret_bool HF.out.symm, ((((Below.refl _ _).alloc (Nat.le_refl _) _).alloc (by simp) _).alloc (by simp; omega) _)⟩
  by_cases u1 : (m : Int) < un
  · have HF : Hid (axOk ⟨s, ops⟩ ⟨name, decls, ac, cm, un⟩ = false) := axOk_false fun h => by have := h.hi; have := HM.out; simp only at *; omega
    go_enter Try.func55, Try.ntmps55
    go_wp2
    go_ret
    exact ⟨ret_bool HF.out.symm, ((((Below.refl _ _).alloc (Nat.le_refl _) _).alloc (by simp) _).alloc (by simp; omega) _)⟩
  by_cases u2 : ac = false ∧ cm = false ∧ un = 0
  · obtain ⟨rfl, rfl, rfl⟩ := u2
    have HF : Hid (axOk ⟨s, ops⟩ ⟨name, decls, false, false, 0⟩ = true) := axOk_true ⟨by simp, by simp, fun h => by simp at h⟩
    go_enter Try.func55, Try.ntmps55
    go_wp2
    go_ret
    exact ⟨ret_bool HF.out.symm, ((((Below.refl _ _).alloc (Nat.le_refl _) _).alloc (by simp) _).alloc (by simp; omega) _)⟩
  have HU2 : Hid (ac = true ∨ cm = true ∨ un ≠ 0) := by
    show _ ∨ _
    cases ac <;> cases cm <;> simp at u2 ⊢ <;> omega
  by_cases u3 : ld = 2
  rotate_left
  · have HF : Hid (axOk ⟨s, ops⟩ ⟨name, decls, ac, cm, un⟩ = false) := axOk_false fun h => u3 (by have := (h.two HU2.out _ HD0.out).1; have := HLD.out; simp only at *; omega)
    have n1 : (ld == 2) = false := by simp [u3]
    have n2 : ((ld : Int) == 2) = false := by simp; omega
    have n3 : ((ld : Int) != 2) = true := by simp; omega
    cases ac <;> cases cm
    all_goals
      (try simp only [Bool.false_eq_true, false_and, true_and, not_false_eq_true, and_false, false_or, true_or] at u2)
      go_enter Try.func55, Try.ntmps55
      go_wp2_with ((with_reducible refine atStore 69 (.tmp 7) (.tmp 36) rfl ?_); refine wpList_store_new rfl 69 _ _ rfl _ _ _ rfl _ rfl (by simp) [.slice Ad ld capd, .int .i64 dres] rfl ic hci hcs rfl (by simp [Value.oneCell']) ?_)
      go_quiet (fail)
      go_wp2
      go_ret
      exact ⟨ret_bool HF.out.symm, below_drewN (((((Below.refl _ _).alloc (Nat.le_refl _) _).alloc (by simp) _).alloc (by simp; omega) _).alloc (by simp; omega) _) _⟩
  subst u3
  obtain ⟨a, b, rfl⟩ := two_of HLD.out
  obtain ⟨ba, oa, rfl, hza, ca0⟩ := Rep.int HDOK.out.1 RD.out (k := 0) (x := a) rfl
  obtain ⟨_, _, hA, _, ca1⟩ := Rep.int HDOK.out.1 RD.out (k := 1) (x := b) rfl
  injection hA with hA
  injection hA with hA hA'
  subst hA hA'
  simp only [Nat.add_zero] at ca0
  have ha := HDD.out.args a (by simp)
  have hb := HDD.out.args b (by simp)
  have hr := HDD.out.res
  simp only at hr
  rw [HN.out] at ha hb hr
  obtain ⟨a, rfl⟩ := Int.eq_ofNat_of_zero_le ha.1
  obtain ⟨b, rfl⟩ := Int.eq_ofNat_of_zero_le hb.1
  obtain ⟨r, rfl⟩ := Int.eq_ofNat_of_zero_le hr.1
  obtain ⟨bk, ok, rfl, hzk, ka⟩ := kd_cell (by rw [HN.out]; exact HK.out) (by rw [HN.out]; exact h8) HKR.out (k := a) (by rw [HN.out]; omega)
  obtain ⟨_, _, hA, _, kb⟩ := kd_cell (by rw [HN.out]; exact HK.out) (by rw [HN.out]; exact h8) HKR.out (k := b) (by rw [HN.out]; omega)
  injection hA with hA
  injection hA with hA hA'
  subst hA hA'
  obtain ⟨_, _, hA, _, kr⟩ := kd_cell (by rw [HN.out]; exact HK.out) (by rw [HN.out]; exact h8) HKR.out (k := r) (by rw [HN.out]; omega)
  injection hA with hA
  injection hA with hA hA'
  subst hA hA'
  have hza2 : ba < w.heap.size + 1 := by omega
  have hza3 : ba < w.heap.size + 1 + 1 := by omega
  have hza4 : ba < w.heap.size + 1 + 1 + 1 := by omega
  have hzk2 : bk < w.heap.size + 1 := by omega
  have hzk3 : bk < w.heap.size + 1 + 1 := by omega
  have hzk4 : bk < w.heap.size + 1 + 1 + 1 := by omega
  clear HDD
  generalize hka : kd s a = ka' at *
  generalize hkb : kd s b = kb' at *
  generalize hkr : kd s r = kr' at *
  have HKA := Lib.hid hka
  have HKB := Lib.hid hkb
  have HKC := Lib.hid hkr
  clear hka hkb hkr
  by_cases u4 : ka' = kb'
  rotate_left
  · have HF : Hid (axOk ⟨s, ops⟩ ⟨name, decls, ac, cm, un⟩ = false) := axOk_false fun h => u4 (by have := ((h.two HU2.out _ HD0.out).2 _ _ rfl rfl).1; simp only [HKA.out, HKB.out] at this; exact this)
    have n1 : (ka' == kb') = false := by simp [u4]
    have n2 : ((ka' : Int) == (kb' : Int)) = false := by simp; omega
    have n3 : ((ka' : Int) != (kb' : Int)) = true := by simp; omega
    cases ac <;> cases cm
    all_goals
      (try simp only [Bool.false_eq_true, false_and, true_and, not_false_eq_true, and_false, false_or, true_or] at u2)
      go_enter Try.func55, Try.ntmps55
      go_wp2_with ((with_reducible refine atStore 69 (.tmp 7) (.tmp 36) rfl ?_); refine wpList_store_new rfl 69 _ _ rfl _ _ _ rfl _ rfl (by simp) [.slice (some ⟨ba, oa, none⟩) 2 capd, .int .i64 r] rfl ic hci hcs rfl (by simp [Value.oneCell']) ?_)
      go_quiet (fail)
      go_wp2
      go_ret
      exact ⟨ret_bool HF.out.symm, below_drewN (((((Below.refl _ _).alloc (Nat.le_refl _) _).alloc (by simp) _).alloc (by simp; omega) _).alloc (by simp; omega) _) _⟩
  subst u4
  by_cases u5 : (ac = true ∨ un ≠ 0) ∧ ka' ≠ kr'
  · have HF : Hid (axOk ⟨s, ops⟩ ⟨name, decls, ac, cm, un⟩ = false) := axOk_false fun h => u5.2 (by have := ((h.two HU2.out _ HD0.out).2 _ _ rfl rfl).2.1 u5.1; simp only [HKA.out, HKC.out] at this; exact this)
    obtain ⟨u6, u7⟩ := u5
    have n1 : (ka' == kr') = false := by simp [u7]
    have n2 : ((ka' : Int) == (kr' : Int)) = false := by simp; omega
    have n3 : ((ka' : Int) != (kr' : Int)) = true := by simp; omega
    cases ac <;> cases cm
    all_goals
      (try simp only [Bool.false_eq_true, false_and, true_and, not_false_eq_true, and_false, false_or, true_or, ne_eq] at u2 u6)
      (try have m1 : (un == 0) = false := by simp [u6])
      (try have m2 : (un != 0) = true := by simp [u6])
      go_enter Try.func55, Try.ntmps55
      go_wp2_with ((with_reducible refine atStore 69 (.tmp 7) (.tmp 36) rfl ?_); refine wpList_store_new rfl 69 _ _ rfl _ _ _ rfl _ rfl (by simp) [.slice (some ⟨ba, oa, none⟩) 2 capd, .int .i64 r] rfl ic hci hcs rfl (by simp [Value.oneCell']) ?_)
      go_quiet (fail)
      go_wp2
      go_quiet (fail)
      go_wp2
      go_ret
      first | exact ⟨ret_bool HF.out.symm, below_drewN (((((Below.refl _ _).alloc (Nat.le_refl _) _).alloc (by simp) _).alloc (by simp; omega) _).alloc (by simp; omega) _) _⟩ | exact ⟨ret_bool HF.out.symm, below_drewN (below_drewN (((((Below.refl _ _).alloc (Nat.le_refl _) _).alloc (by simp) _).alloc (by simp; omega) _).alloc (by simp; omega) _) _) _⟩
  have HU5 : Hid ((ac = true ∨ un ≠ 0) → ka' = kr') := fun h => Decidable.byContradiction fun h' => u5 ⟨h, h'⟩
  by_cases u6 : un = 0
  · subst u6
    have HF : Hid (axOk ⟨s, ops⟩ ⟨name, decls, ac, cm, 0⟩ = true) := axOk_true ⟨by simp, by simp, fun _ d hd => by
      have hd' : decls[0]? = some d := hd
      rw [HD0.out] at hd'
      injection hd' with hd'
      subst hd'
      refine ⟨rfl, fun x y hx hy => ?_⟩
      have hx : (a : Int) = x := by simpa using hx
      have hy : (b : Int) = y := by simpa using hy
      subst hx hy
      exact ⟨by rw [HKA.out, HKB.out], fun h => by show kd s a = kd s r; rw [HKA.out, HKC.out]; exact HU5.out h, fun h => absurd rfl h⟩⟩
    cases ac <;> cases cm
    · simp at u2
    all_goals
      have HQ := HU5
      (try (have u7 := HQ.out (Or.inl rfl)))
      (try subst u7)
      clear u5
      go_enter Try.func55, Try.ntmps55
      go_wp2_with ((with_reducible refine atStore 69 (.tmp 7) (.tmp 36) rfl ?_); refine wpList_store_new rfl 69 _ _ rfl _ _ _ rfl _ rfl (by simp) [.slice (some ⟨ba, oa, none⟩) 2 capd, .int .i64 r] rfl ic hci hcs rfl (by simp [Value.oneCell']) ?_)
      go_quiet (fail)
      go_wp2
      go_quiet (fail)
      go_wp2
      go_ret
      first | exact ⟨ret_bool HF.out.symm, below_drewN (((((Below.refl _ _).alloc (Nat.le_refl _) _).alloc (by simp) _).alloc (by simp; omega) _).alloc (by simp; omega) _) _⟩ | exact ⟨ret_bool HF.out.symm, below_drewN (below_drewN (((((Below.refl _ _).alloc (Nat.le_refl _) _).alloc (by simp) _).alloc (by simp; omega) _).alloc (by simp; omega) _) _) _⟩
  have u7 : ka' = kr' := HU5.out (.inr u6)
  subst u7
  obtain ⟨q, hq⟩ : ∃ q : Nat, un = (q : Int) + 1 := ⟨(un - 1).toNat, by omega⟩
  subst hq
  obtain ⟨p, hp⟩ : ∃ p, ops[q]? = some p := ⟨_, List.getElem?_eq_getElem (by have := HM.out; omega)⟩
  obtain ⟨bo, oo, rfl, _, hzo, hrow⟩ := Rep.at okOprR HOKG.out.2 F2.out hp
  obtain ⟨u, hu, huu⟩ := (HALL.out p (List.mem_of_getElem? hp)).first
  have HPOK := Lib.hid (HOKG.out.2 p (List.mem_of_getElem? hp))
  have HP := Lib.hid hp
  have HUU := Lib.hid hu
  obtain ⟨pname, pdecls, pac, pcm, pun⟩ := p
  simp only [encOpr, RepRow, and_true, fieldsOf, List.length_cons, List.length_nil, Nat.reduceAdd, Rep.lit_iff] at hrow
  obtain ⟨⟨_, d0, rfl⟩, ⟨vd, d1, rd⟩, ⟨_, d2, rfl⟩, ⟨_, d3, rfl⟩, ⟨_, d4, rfl⟩⟩ := hrow
  obtain ⟨Au, capu, rfl, hcu, hmu⟩ := rd.shape
  simp only at hu huu
  obtain ⟨bu, ou, rfl, _, hzu, hrow⟩ := Rep.at okDclR HPOK.out.2.1 rd hu
  obtain ⟨uargs, ures⟩ := u
  simp only [encDcl, RepRow, and_true, fieldsOf, List.length_cons, List.length_nil, Nat.reduceAdd, Nat.zero_mul, Nat.add_zero, Rep.lit_iff] at hrow
  obtain ⟨⟨x0, x1, x2⟩, ⟨_, x3, rfl⟩⟩ := hrow
  obtain ⟨Av, capv, rfl, hcv, hmv⟩ := x2.shape
  have hur := huu.res
  simp only at hur
  rw [HN.out] at hur
  obtain ⟨ur, rfl⟩ := Int.eq_ofNat_of_zero_le hur.1
  obtain ⟨_, _, hA, _, ku⟩ := kd_cell (by rw [HN.out]; exact HK.out) (by rw [HN.out]; exact h8) HKR.out (k := ur) (by rw [HN.out]; omega)
  injection hA with hA
  injection hA with hA hA'
  subst hA hA'
  have hpl : 1 ≤ pdecls.length := (List.getElem?_eq_some_iff.1 hu).1
  have hzo2 : bo < w.heap.size + 1 := by omega
  have hzo3 : bo < w.heap.size + 1 + 1 := by omega
  have hzo4 : bo < w.heap.size + 1 + 1 + 1 := by omega
  have hzu2 : bu < w.heap.size + 1 := by omega
  have hzu3 : bu < w.heap.size + 1 + 1 := by omega
  have hzu4 : bu < w.heap.size + 1 + 1 + 1 := by omega
  have hzk5 : bk < w.heap.size + 1 + 1 + 1 + 1 := by omega
  unfold maxLen at hmu hmv
  clear hp hu huu x2 rd d0 d2 d3 d4
  generalize hku : kd s ur = ku' at *
  have HKU := Lib.hid hku
  generalize hLU : uargs.length = lu at *
  have HLU := Lib.hid hLU
  generalize pdecls.length = pl at *
  clear hku hLU u5
  have HIF : Hid (axOk ⟨s, ops⟩ ⟨name, decls, ac, cm, (q : Int) + 1⟩ = (lu == 0 && ku' == ka')) := by
    show _ = _
    by_cases hh : lu = 0 ∧ ku' = ka'
    · rw [axOk_true]
      · simp [hh.1, hh.2]
      · refine ⟨by simp; omega, by simp; have := HM.out; omega, fun _ d hd => ?_⟩
        have hd' : decls[0]? = some d := hd
        rw [HD0.out] at hd'
        injection hd' with hd'
        subst hd'
        refine ⟨rfl, fun x y hx hy => ?_⟩
        have hx : (a : Int) = x := by simpa using hx
        have hy : (b : Int) = y := by simpa using hy
        subst hx hy
        refine ⟨by rw [HKA.out, HKB.out], fun h => by show kd s a = kd s r; rw [HKA.out, HKC.out], fun _ p u hp hu => ?_⟩
        have hp' : ops[q]? = some p := by
          have : ops[((q : Int) + 1).toNat - 1]? = some p := hp
          rwa [show ((q : Int) + 1).toNat - 1 = q by omega] at this
        rw [HP.out] at hp'
        injection hp' with hp'
        subst hp'
        rw [HUU.out] at hu
        injection hu with hu
        subst hu
        exact ⟨by show uargs.length = 0; rw [HLU.out]; exact hh.1, by show kd s ur = kd s r; rw [HKU.out, HKC.out]; exact hh.2⟩
    · rw [axOk_false]
      · symm
        rw [Bool.eq_false_iff]
        intro h
        simp only [Bool.and_eq_true, beq_iff_eq] at h
        exact hh h
      · intro h
        have := ((h.two HU2.out _ HD0.out).2 _ _ rfl rfl).2.2 (by simp; omega) _ _ (by rw [show ((q : Int) + 1).toNat - 1 = q by omega]; exact HP.out) HUU.out
        simp only [HKU.out, HKC.out, HLU.out] at this
        exact hh this
  have hq0 : ((q : Int) + 1 == 0) = false := by simp; omega
  have hq1 : ((q : Int) + 1 != 0) = true := by simp; omega
  by_cases u8 : lu = 0
  rotate_left
  · have n1 : (lu == 0) = false := by simp [u8]
    have n2 : ((lu : Int) == 0) = false := by simp; omega
    have n3 : ((lu : Int) != 0) = true := by simp; omega
    rw [n1, Bool.false_and] at HIF
    clear u2
    cases ac
    · cases cm
      · go_enter Try.func55, Try.ntmps55
        go_wp2_with ((with_reducible refine atStore 69 (.tmp 7) (.tmp 36) rfl ?_); refine wpList_store_new rfl 69 _ _ rfl _ _ _ rfl _ rfl (by simp) [.slice (some ⟨ba, oa, none⟩) 2 capd, .int .i64 r] rfl ic hci hcs rfl (by simp [Value.oneCell']) ?_)
        go_quiet (fail)
        go_wp2
        go_quiet (fail)
        go_wp2_with ((with_reducible refine atStore 69 (.tmp 8) (.tmp 96) rfl ?_); refine wpList_store_newN rfl 69 _ _ rfl _ _ _ _ rfl _ rfl (by simp) [.slice Av lu capv, .int .i64 ur] rfl ic hci hcs rfl (by simp [Value.oneCell']) ?_)
        go_quiet (fail)
        go_wp2
        go_ret
        exact ⟨ret_bool HIF.out.symm, (by repeat' (first | exact Below.refl _ _ | refine below_drewN ?_ _ | refine Below.alloc ?_ (by first | exact Nat.le_refl _ | (simp; done) | (simp; omega)) _))⟩
      · go_enter Try.func55, Try.ntmps55
        go_wp2_with ((with_reducible refine atStore 69 (.tmp 7) (.tmp 36) rfl ?_); refine wpList_store_new rfl 69 _ _ rfl _ _ _ rfl _ rfl (by simp) [.slice (some ⟨ba, oa, none⟩) 2 capd, .int .i64 r] rfl ic hci hcs rfl (by simp [Value.oneCell']) ?_)
        go_quiet (fail)
        go_wp2
        go_quiet (fail)
        go_wp2_with ((with_reducible refine atStore 69 (.tmp 8) (.tmp 96) rfl ?_); refine wpList_store_newN rfl 69 _ _ rfl _ _ _ _ rfl _ rfl (by simp) [.slice Av lu capv, .int .i64 ur] rfl ic hci hcs rfl (by simp [Value.oneCell']) ?_)
        go_quiet (fail)
        go_wp2
        go_ret
        exact ⟨ret_bool HIF.out.symm, (by repeat' (first | exact Below.refl _ _ | refine below_drewN ?_ _ | refine Below.alloc ?_ (by first | exact Nat.le_refl _ | (simp; done) | (simp; omega)) _))⟩
    · go_enter Try.func55, Try.ntmps55
      go_wp2_with ((with_reducible refine atStore 69 (.tmp 7) (.tmp 36) rfl ?_); refine wpList_store_new rfl 69 _ _ rfl _ _ _ rfl _ rfl (by simp) [.slice (some ⟨ba, oa, none⟩) 2 capd, .int .i64 r] rfl ic hci hcs rfl (by simp [Value.oneCell']) ?_)
      go_quiet (fail)
      go_wp2
      go_quiet (fail)
      go_wp2_with ((with_reducible refine atStore 69 (.tmp 8) (.tmp 96) rfl ?_); refine wpList_store_newN rfl 69 _ _ rfl _ _ _ _ rfl _ rfl (by simp) [.slice Av lu capv, .int .i64 ur] rfl ic hci hcs rfl (by simp [Value.oneCell']) ?_)
      go_quiet (fail)
      go_wp2
      go_ret
      exact ⟨ret_bool HIF.out.symm, (by repeat' (first | exact Below.refl _ _ | refine below_drewN ?_ _ | refine Below.alloc ?_ (by first | exact Nat.le_refl _ | (simp; done) | (simp; omega)) _))⟩
  subst u8
  by_cases u9 : ku' = ka'
  rotate_left
  · have n1 : (ku' == ka') = false := by simp [u9]
    have n2 : ((ku' : Int) == (ka' : Int)) = false := by simp; omega
    have n3 : ((ku' : Int) != (ka' : Int)) = true := by simp; omega
    rw [n1, Bool.and_false] at HIF
    clear u2
    cases ac
    · cases cm
      · go_enter Try.func55, Try.ntmps55
        go_wp2_with ((with_reducible refine atStore 69 (.tmp 7) (.tmp 36) rfl ?_); refine wpList_store_new rfl 69 _ _ rfl _ _ _ rfl _ rfl (by simp) [.slice (some ⟨ba, oa, none⟩) 2 capd, .int .i64 r] rfl ic hci hcs rfl (by simp [Value.oneCell']) ?_)
        go_quiet (fail)
        go_wp2
        go_quiet (fail)
        go_wp2_with ((with_reducible refine atStore 69 (.tmp 8) (.tmp 96) rfl ?_); refine wpList_store_newN rfl 69 _ _ rfl _ _ _ _ rfl _ rfl (by simp) [.slice Av 0 capv, .int .i64 ur] rfl ic hci hcs rfl (by simp [Value.oneCell']) ?_)
        go_quiet (fail)
        go_wp2
        go_ret
        exact ⟨ret_bool HIF.out.symm, (by repeat' (first | exact Below.refl _ _ | refine below_drewN ?_ _ | refine Below.alloc ?_ (by first | exact Nat.le_refl _ | (simp; done) | (simp; omega)) _))⟩
      · go_enter Try.func55, Try.ntmps55
        go_wp2_with ((with_reducible refine atStore 69 (.tmp 7) (.tmp 36) rfl ?_); refine wpList_store_new rfl 69 _ _ rfl _ _ _ rfl _ rfl (by simp) [.slice (some ⟨ba, oa, none⟩) 2 capd, .int .i64 r] rfl ic hci hcs rfl (by simp [Value.oneCell']) ?_)
        go_quiet (fail)
        go_wp2
        go_quiet (fail)
        go_wp2_with ((with_reducible refine atStore 69 (.tmp 8) (.tmp 96) rfl ?_); refine wpList_store_newN rfl 69 _ _ rfl _ _ _ _ rfl _ rfl (by simp) [.slice Av 0 capv, .int .i64 ur] rfl ic hci hcs rfl (by simp [Value.oneCell']) ?_)
        go_quiet (fail)
        go_wp2
        go_ret
        exact ⟨ret_bool HIF.out.symm, (by repeat' (first | exact Below.refl _ _ | refine below_drewN ?_ _ | refine Below.alloc ?_ (by first | exact Nat.le_refl _ | (simp; done) | (simp; omega)) _))⟩
    · go_enter Try.func55, Try.ntmps55
      go_wp2_with ((with_reducible refine atStore 69 (.tmp 7) (.tmp 36) rfl ?_); refine wpList_store_new rfl 69 _ _ rfl _ _ _ rfl _ rfl (by simp) [.slice (some ⟨ba, oa, none⟩) 2 capd, .int .i64 r] rfl ic hci hcs rfl (by simp [Value.oneCell']) ?_)
      go_quiet (fail)
      go_wp2
      go_quiet (fail)
      go_wp2_with ((with_reducible refine atStore 69 (.tmp 8) (.tmp 96) rfl ?_); refine wpList_store_newN rfl 69 _ _ rfl _ _ _ _ rfl _ rfl (by simp) [.slice Av 0 capv, .int .i64 ur] rfl ic hci hcs rfl (by simp [Value.oneCell']) ?_)
      go_quiet (fail)
      go_wp2
      go_ret
      exact ⟨ret_bool HIF.out.symm, (by repeat' (first | exact Below.refl _ _ | refine below_drewN ?_ _ | refine Below.alloc ?_ (by first | exact Nat.le_refl _ | (simp; done) | (simp; omega)) _))⟩
  subst u9
  rw [beq_self_eq_true, beq_self_eq_true, Bool.and_true] at HIF
  clear u2
  cases ac
  · cases cm
    · go_enter Try.func55, Try.ntmps55
      go_wp2_with ((with_reducible refine atStore 69 (.tmp 7) (.tmp 36) rfl ?_); refine wpList_store_new rfl 69 _ _ rfl _ _ _ rfl _ rfl (by simp) [.slice (some ⟨ba, oa, none⟩) 2 capd, .int .i64 r] rfl ic hci hcs rfl (by simp [Value.oneCell']) ?_)
      go_quiet (fail)
      go_wp2
      go_quiet (fail)
      go_wp2_with ((with_reducible refine atStore 69 (.tmp 8) (.tmp 96) rfl ?_); refine wpList_store_newN rfl 69 _ _ rfl _ _ _ _ rfl _ rfl (by simp) [.slice Av 0 capv, .int .i64 ur] rfl ic hci hcs rfl (by simp [Value.oneCell']) ?_)
      go_quiet (fail)
      go_wp2
      go_ret
      exact ⟨ret_bool HIF.out.symm, (by repeat' (first | exact Below.refl _ _ | refine below_drewN ?_ _ | refine Below.alloc ?_ (by first | exact Nat.le_refl _ | (simp; done) | (simp; omega)) _))⟩
    · go_enter Try.func55, Try.ntmps55
      go_wp2_with ((with_reducible refine atStore 69 (.tmp 7) (.tmp 36) rfl ?_); refine wpList_store_new rfl 69 _ _ rfl _ _ _ rfl _ rfl (by simp) [.slice (some ⟨ba, oa, none⟩) 2 capd, .int .i64 r] rfl ic hci hcs rfl (by simp [Value.oneCell']) ?_)
      go_quiet (fail)
      go_wp2
      go_quiet (fail)
      go_wp2_with ((with_reducible refine atStore 69 (.tmp 8) (.tmp 96) rfl ?_); refine wpList_store_newN rfl 69 _ _ rfl _ _ _ _ rfl _ rfl (by simp) [.slice Av 0 capv, .int .i64 ur] rfl ic hci hcs rfl (by simp [Value.oneCell']) ?_)
      go_quiet (fail)
      go_wp2
      go_ret
      exact ⟨ret_bool HIF.out.symm, (by repeat' (first | exact Below.refl _ _ | refine below_drewN ?_ _ | refine Below.alloc ?_ (by first | exact Nat.le_refl _ | (simp; done) | (simp; omega)) _))⟩
  · go_enter Try.func55, Try.ntmps55
    go_wp2_with ((with_reducible refine atStore 69 (.tmp 7) (.tmp 36) rfl ?_); refine wpList_store_new rfl 69 _ _ rfl _ _ _ rfl _ rfl (by simp) [.slice (some ⟨ba, oa, none⟩) 2 capd, .int .i64 r] rfl ic hci hcs rfl (by simp [Value.oneCell']) ?_)
    go_quiet (fail)
    go_wp2
    go_quiet (fail)
    go_wp2_with ((with_reducible refine atStore 69 (.tmp 8) (.tmp 96) rfl ?_); refine wpList_store_newN rfl 69 _ _ rfl _ _ _ _ rfl _ rfl (by simp) [.slice Av 0 capv, .int .i64 ur] rfl ic hci hcs rfl (by simp [Value.oneCell']) ?_)
    go_quiet (fail)
    go_wp2
    go_ret
    exact ⟨ret_bool HIF.out.symm, (by repeat' (first | exact Below.refl _ _ | refine below_drewN ?_ _ | refine Below.alloc ?_ (by first | exact Nat.le_refl _ | (simp; done) | (simp; omega)) _))⟩
end Go.Proofs.Ytlhbdhdaecchoaa
