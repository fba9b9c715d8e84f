/-
  Whether an operator may have its axioms: the reference's l4Arity and l4Axioms (walked).
-/
import Derived.Test.YtlhbdhdaecchoaaAxioms
import Derived.Test.YtlhbdhdaecchoaaDecls2
set_option linter.unusedSimpArgs false
set_option linter.unusedVariables false
namespace Go.Proofs.Ytlhbdhdaecchoaa
open Go.RowKit Go.Sort

set_option maxRecDepth 100000 in
theorem specArity (o : Opr) (d : Dcl) (S : Nat → Prop) (us : List Value) (w : World) (hok : okOpr o) (hv : RepVals w S (encOpr o) us) (hd : o.decls[0]? = some d) :
    Calls Try.prog 27 #[.agg us.toArray] w fun e w' => e = .returned (.int .i64 d.args.length) ∧ Below w.heap.size w w' := by
  obtain ⟨name, decls, ac, cm, un⟩ := o
  simp only [encOpr] at hv
  simp only at hd
  obtain ⟨v1, rfl, e1⟩ := repVals_Op hv
  obtain ⟨A1, cap1, rfl, hc1, hm1⟩ := e1.shape
  obtain ⟨b1, o1, rfl, _, hz1, hrow⟩ := Rep.at okDclR hok.2.1 e1 hd
  obtain ⟨dargs, dres⟩ := d
  simp only [encDcl, RepRow, and_true, fieldsOf, List.length_cons, List.length_nil, Nat.reduceAdd, Nat.zero_mul, Nat.add_zero, Rep.lit_iff] at hrow
  obtain ⟨⟨u0, c0, r0⟩, ⟨_, c1, rfl⟩⟩ := hrow
  obtain ⟨Ad, capd, rfl, hcd, hmd⟩ := r0.shape
  have hl : 0 < decls.length := (List.getElem?_eq_some_iff.1 hd).1
  clear hv e1 r0 hd hok
  unfold maxLen at hm1 hmd
  simp only
  generalize decls.length = m at *
  generalize dargs.length = ld at *
  go_enter Try.func27, Try.ntmps27
  go_wp2
  go_ret
  exact ⟨rfl, belowA _ _⟩

theorem info_OpR : (Try.prog.info? 64).map (fun i => (i.zero, i.size, i.bytes)) = some (some (.agg #[.string ⟨#[]⟩, .slice none 0 0, .bool false, .bool false, .int .i64 0]), 5, 56) := by kernel_rfl
set_option maxHeartbeats 20000000 in
set_option maxRecDepth 100000 in
theorem specAxioms (g : Sgn) (o : Opr) (k : Nat) (S : Nat → Prop) (vs : List Value) (w : World) (hs : SortsOk g.sorts) (hokg : okSgn g) (hvg : RepVals w S (encSgn g) vs) (ho : g.ops[k]? = some o) (hall : ∀ p ∈ g.ops, DeclsOk g.sorts p) :
    Calls Try.prog 47 #[.agg vs.toArray, .int .i64 k] w fun e w' => e = .returned (.bool (axOk g o)) ∧ Below w.heap.size w w' := by
  obtain ⟨s, ops⟩ := g
  simp only at ho hall hs
  obtain ⟨n, hN⟩ : ∃ n, s.names.length = n := ⟨_, rfl⟩
  have hK := kinds_ok (SortsOk.subsIn hs.subs)
  have h8 := hs.n8
  rw [hN] at hK h8
  obtain ⟨g0, g1, g2, rfl, f0, f1, f2⟩ := repVals_Signature hvg
  obtain ⟨Ag0, cg0, rfl, _, _⟩ := f0.shape
  obtain ⟨Ag1, cg1, rfl, _, _⟩ := f1.shape
  obtain ⟨Ag2, cg2, rfl, hcg2, hmg2⟩ := f2.shape
  have HSR : Hid (RepVals w S (encSrt s) [.slice Ag0 s.names.length cg0, .slice Ag1 s.subs.length cg1]) := by show RepVals _ _ _ _; simp only [encSrt, RepVals, and_true]; exact ⟨f0, f1⟩
  have HKI := Lib.hid (fun W h => specKinds s S [.slice Ag0 s.names.length cg0, .slice Ag1 s.subs.length cg1] W hokg.1 h hs.n1 hs.n8 hs.subs)
  obtain ⟨ic, hci, _, hcs, _⟩ := info_parts info_Decl'
  obtain ⟨ip, hpi, _, hps, _⟩ := info_parts info_OpR
  have hko : k < ops.length := (List.getElem?_eq_some_iff.1 ho).1
  obtain ⟨bo, oo, rfl, _, hzo, hrow⟩ := Rep.at okOprR hokg.2 f2 ho
  have hok := hokg.2 o (List.mem_of_getElem? ho)
  obtain ⟨d, hd, hdd⟩ := (hall o (List.mem_of_getElem? ho)).first
  have HO := Lib.hid ho
  obtain ⟨name, decls, ac, cm, un⟩ := o
  simp only [encOpr, RepRow, and_true, fieldsOf, List.length_cons, List.length_nil, Nat.reduceAdd, Rep.lit_iff] at hrow
  obtain ⟨⟨_, d0, rfl⟩, ⟨vd, d1, rd⟩, ⟨_, d2, rfl⟩, ⟨_, d3, rfl⟩, ⟨_, d4, rfl⟩⟩ := hrow
  obtain ⟨A1, cap1, rfl, hc1, hm1⟩ := rd.shape
  simp only at hd hdd
  have hrv : RepVals w S (encOpr ⟨name, decls, ac, cm, un⟩) [.string name, .slice A1 decls.length cap1, .bool ac, .bool cm, .int .i64 un] := by simp only [encOpr, RepVals, Rep.lit_iff, and_true, true_and]; exact rd
  have HAR := Lib.hid (fun W h => specArity ⟨name, decls, ac, cm, un⟩ d S [.string name, .slice A1 decls.length cap1, .bool ac, .bool cm, .int .i64 un] W hok h hd)
  obtain ⟨b1, o1, rfl, _, hz1, hrow⟩ := Rep.at okDclR hok.2.1 rd hd
  have HDOK := Lib.hid (hok.2.1 d (List.mem_of_getElem? hd))
  obtain ⟨dargs, dres⟩ := d
  simp only [encDcl, RepRow, and_true, fieldsOf, List.length_cons, List.length_nil, Nat.reduceAdd, Nat.zero_mul, Nat.add_zero, Rep.lit_iff] at hrow
  obtain ⟨⟨u0, c0, r0⟩, ⟨_, c1, rfl⟩⟩ := hrow
  obtain ⟨Ad, capd, rfl, hcd, hmd⟩ := r0.shape
  have hun : I64 un := hok.2.2
  have HD0 := Lib.hid hd
  have HDD := Lib.hid hdd
  have HALL := Lib.hid hall
  have HN := Lib.hid hN
  have HK := Lib.hid hK
  have RD := Lib.hid r0
  have F2 := Lib.hid f2
  have HOKG := Lib.hid hokg
  have HRV := Lib.hid hrv
  have hml : 0 < decls.length := (List.getElem?_eq_some_iff.1 hd).1
  clear hvg rd hok hd hdd hall hK r0 f0 f1 f2 hokg hs ho hrv
  unfold maxLen at hm1 hmd hmg2
  unfold I64 at hun
  rw [hN] at HSR HKI
  simp only
  rw [hN]
  clear hN
  generalize s.subs.length = ls at *
  simp only at hcg2 hmg2 HAR HRV F2
  generalize hM : ops.length = m at *
  have HM := Lib.hid hM
  generalize decls.length = md at *
  generalize hLD : dargs.length = ld at *
  have HLD := Lib.hid hLD
  clear hM hLD
  go_enter Try.func47, Try.ntmps47
  go_upto_region 2 with ((with_reducible refine atStore 64 (.tmp 5) (.tmp 16) rfl ?_); refine wpList_store_new rfl 64 _ _ rfl _ _ _ rfl _ rfl (by simp) [.string name, .slice (some ⟨b1, o1, none⟩) md cap1, .bool ac, .bool cm, .int .i64 un] rfl ip hpi hps rfl (by simp [Value.oneCell']) ?_)
  generalize hW : (w.alloc _).alloc _ = W1
  have hb1 : Below w.heap.size w W1 := by rw [← hW]; exact (by repeat' (first | exact Below.refl _ _ | refine below_drewN ?_ _ | refine Below.alloc ?_ (by first | exact Nat.le_refl _ | (simp; done) | (simp; omega)) _))
  have p0 : W1.cell? ⟨w.heap.size, 0, none⟩ = some (.slice Ag0 n cg0) := (by rw [← hW]; repeat' (first | (simp; done) | exact keepNew (by simp) rfl | refine keepA _ ?_))
  have p1 : W1.cell? ⟨w.heap.size, 1, none⟩ = some (.slice Ag1 ls cg1) := (by rw [← hW]; repeat' (first | (simp; done) | exact keepNew (by simp) rfl | refine keepA _ ?_))
  have p2 : W1.cell? ⟨w.heap.size, 2, none⟩ = some (.slice (some ⟨bo, oo, none⟩) m cg2) := (by rw [← hW]; repeat' (first | (simp; done) | exact keepNew (by simp) rfl | refine keepA _ ?_))
  have s0 : W1.cell? ⟨w.heap.size + 1, 0, none⟩ = some (.string name) := (by rw [← hW]; repeat' (first | (simp; done) | exact keepNew (by simp) rfl | refine keepA _ ?_))
  have s1 : W1.cell? ⟨w.heap.size + 1, 1, none⟩ = some (.slice (some ⟨b1, o1, none⟩) md cap1) := (by rw [← hW]; repeat' (first | (simp; done) | exact keepNew (by simp) rfl | refine keepA _ ?_))
  have s2 : W1.cell? ⟨w.heap.size + 1, 2, none⟩ = some (.bool ac) := (by rw [← hW]; repeat' (first | (simp; done) | exact keepNew (by simp) rfl | refine keepA _ ?_))
  have s3 : W1.cell? ⟨w.heap.size + 1, 3, none⟩ = some (.bool cm) := (by rw [← hW]; repeat' (first | (simp; done) | exact keepNew (by simp) rfl | refine keepA _ ?_))
  have s4 : W1.cell? ⟨w.heap.size + 1, 4, none⟩ = some (.int .i64 un) := (by rw [← hW]; repeat' (first | (simp; done) | exact keepNew (by simp) rfl | refine keepA _ ?_))
  clear hW d0 d1 d2 d3 d4
  generalize w.heap.size + 1 = g5 at *
  by_cases u2 : ac = false ∧ cm = false ∧ un = 0
  · obtain ⟨rfl, rfl, rfl⟩ := u2
    have HF : Hid (axOk ⟨s, ops⟩ ⟨name, decls, false, false, 0⟩ = true) := axOk_true ⟨by simp, by simp, fun h => by simp at h⟩
    go_wp2
    go_ret
    exact ⟨ret_bool HF.out.symm, hb1⟩
  have HU2 : Hid (ac = true ∨ cm = true ∨ un ≠ 0) := by
    show _ ∨ _
    cases ac <;> cases cm <;> simp at u2 ⊢ <;> omega
  simp only [Act.put]
  go_cut [29] (fun v wx => v = .bool false ∧ W1 = wx)
  case first =>
    cases ac
    · cases cm
      · have n1 : (un == 0) = false := by simpa using u2
        clear u2
        go_wp2
        all_goals (go_meet; exact ⟨rfl, rfl⟩)
      · clear u2
        go_wp2
        all_goals (go_meet; exact ⟨rfl, rfl⟩)
    · clear u2
      go_wp2
      all_goals (go_meet; exact ⟨rfl, rfl⟩)
  case rest =>
    obtain ⟨rfl, rfl⟩ := hcut
    clear u2
    have HAR1 := Lib.hid (HAR.out _ (HRV.out.below hb1))
    have HIN := Lib.hid (fun w => specIn un 0 m w)
    by_cases u3 : ld = 2
    rotate_left
    · have HF : Hid (axOk ⟨s, ops⟩ ⟨name, decls, ac, cm, un⟩ = false) := axOk_false fun h => u3 (by have := (h.two HU2.out _ HD0.out).1; have := HLD.out; simp only at *; omega)
      have n1 : (ld == 2) = false := by simp [u3]
      have n2 : ((ld : Int) == 2) = false := by simp; omega
      have n3 : ((ld : Int) != 2) = true := by simp; omega
      go_wp2_with (go_at_call 27; refine HAR1.out.mono ?_; rintro e w3 ⟨rfl, hb3⟩)
      go_ret
      exact ⟨ret_bool HF.out.symm, hb1.trans (hb3.mono hb1.size)⟩
    subst u3
    by_cases u4 : 0 ≤ un ∧ un ≤ m
    rotate_left
    · have HF : Hid (axOk ⟨s, ops⟩ ⟨name, decls, ac, cm, un⟩ = false) := axOk_false fun h => u4 (by have h1 := h.lo; have h2 := h.hi; have := HM.out; simp only at *; omega)
      rw [decide_eq_false u4] at HIN
      clear u4
      go_wp2_with fail
      refine HAR1.out.mono ?_
      rintro e w3 ⟨rfl, hb3⟩
      have t2 := keepB hb3 p2
      have t4 := keepB hb3 s4
      go_wp2_with (go_at_call 25; refine (HIN.out _).mono ?_; rintro e w4 ⟨rfl, rfl⟩)
      go_ret
      exact ⟨ret_bool HF.out.symm, hb1.trans (hb3.mono hb1.size)⟩
    rw [decide_eq_true u4] at HIN
    go_wp2_with fail
    refine HAR1.out.mono ?_
    rintro e w3 ⟨rfl, hb3⟩
    have t0 := keepB hb3 p0
    have t1 := keepB hb3 p1
    have t2 := keepB hb3 p2
    have t4 := keepB hb3 s4
    go_wp2_with (go_at_call 25; refine (HIN.out _).mono ?_; rintro e w4 ⟨rfl, rfl⟩)
    have hb13 := hb1.trans (hb3.mono hb1.size)
    refine (HKI.out _ (HSR.out.below hb13)).mono ?_
    rintro e W2 ⟨vk, rfl, hI, hbk⟩
    obtain ⟨Ak, ck, rfl, hck, hmk, hA⟩ := hI.form
    have hkl : (casts (kinds s)).length = n := by rw [casts_len]; exact HK.out.1
    have hI' := hI.rep
    rw [hkl] at hI' hck
    rw [hkl]
    clear hkl hA
    unfold maxLen at hmk
    have VK1 := Lib.hid hI'
    clear hI hI' t0 t1 t2 t4
    have hb2 : Below W1.heap.size W1 W2 := hb3.trans (hbk.mono hb3.size)
    have hbw := hb1.trans (hb2.mono hb1.size)
    have t1 := keepB hb2 s1
    have e0 := keepB hbw c0
    have e1 := keepB hbw c1
    go_wp2_with ((with_reducible refine atStore 69 (.tmp 7) (.tmp 48) rfl ?_); refine wpList_store_new rfl 69 _ _ rfl _ _ _ rfl _ rfl (by simp) [.slice Ad 2 capd, .int .i64 dres] rfl ic hci hcs rfl (by simp [Value.oneCell']) ?_)
    generalize hW : W2.alloc _ = W
    have hb4 : Below W2.heap.size W2 W := by rw [← hW]; exact belowA _ _
    have x0 : W.cell? ⟨W2.heap.size, 0, none⟩ = some (.slice Ad 2 capd) := (by rw [← hW]; repeat' (first | (simp; done) | exact keepNew (by simp) rfl | refine keepA _ ?_))
    have x1 : W.cell? ⟨W2.heap.size, 1, none⟩ = some (.int .i64 dres) := (by rw [← hW]; repeat' (first | (simp; done) | exact keepNew (by simp) rfl | refine keepA _ ?_))
    have hb1W : Below W1.heap.size W1 W := hb2.trans (hb4.mono hb2.size)
    have hbW : Below w.heap.size w W := hb1.trans (hb1W.mono hb1.size)
    have VK := Lib.hid (VK1.out.below hb4)
    clear hW t1 e0 e1 VK1
    generalize W2.heap.size = g7 at *
    have t1 := keepB hb1W s1
    have t2 := keepB hb1W s2
    have t4 := keepB hb1W s4
    have t5 := keepB hb1W p2
    clear hb2 hb4 hbk hbw hb13 hb3
    obtain ⟨a, b, rfl⟩ := two_of HLD.out
    obtain ⟨ba, oa, rfl, hza, ca0⟩ := Rep.int HDOK.out.1 (RD.out.below hbW) (k := 0) (x := a) rfl
    obtain ⟨_, _, hA, _, ca1⟩ := Rep.int HDOK.out.1 (RD.out.below hbW) (k := 1) (x := b) rfl
    injection hA with hA
    injection hA with hA hA'
    subst hA hA'
    simp only [Nat.add_zero] at ca0
    have ha := HDD.out.args a (by simp)
    have hb := HDD.out.args b (by simp)
    have hr := HDD.out.res
    simp only at hr
    rw [HN.out] at ha hb hr
    obtain ⟨a, rfl⟩ := Int.eq_ofNat_of_zero_le ha.1
    obtain ⟨b, rfl⟩ := Int.eq_ofNat_of_zero_le hb.1
    obtain ⟨r, rfl⟩ := Int.eq_ofNat_of_zero_le hr.1
    obtain ⟨bk, ok, rfl, hzk, ka⟩ := kd_cell (by rw [HN.out]; exact HK.out) (by rw [HN.out]; exact h8) VK.out (k := a) (by rw [HN.out]; omega)
    obtain ⟨_, _, hA, _, kb⟩ := kd_cell (by rw [HN.out]; exact HK.out) (by rw [HN.out]; exact h8) VK.out (k := b) (by rw [HN.out]; omega)
    injection hA with hA
    injection hA with hA hA'
    subst hA hA'
    obtain ⟨_, _, hA, _, kr⟩ := kd_cell (by rw [HN.out]; exact HK.out) (by rw [HN.out]; exact h8) VK.out (k := r) (by rw [HN.out]; omega)
    injection hA with hA
    injection hA with hA hA'
    subst hA hA'
    clear HDD
    generalize hka : kd s a = ka' at *
    generalize hkb : kd s b = kb' at *
    generalize hkr : kd s r = kr' at *
    have HKA := Lib.hid hka
    have HKB := Lib.hid hkb
    have HKC := Lib.hid hkr
    clear hka hkb hkr
    go_quiet (fail)
    have VKq := Lib.hid (VK.out.below (belowN W nq))
    have hb1q := below_drewN hb1W nq
    have hbWq := below_drewN hbW nq
    have HF2 := Lib.hid (F2.out.below hbWq)
    replace x0 := keepN (n := nq) x0
    replace x1 := keepN (n := nq) x1
    replace t1 := keepN (n := nq) t1
    replace t2 := keepN (n := nq) t2
    replace t4 := keepN (n := nq) t4
    replace t5 := keepN (n := nq) t5
    clear ka kb kr ca0 ca1 VK hb1W hbW hza hzk
    generalize W.drewN nq = Wq at *
    by_cases u5 : ka' = kb'
    rotate_left
    · have HF : Hid (axOk ⟨s, ops⟩ ⟨name, decls, ac, cm, un⟩ = false) := axOk_false fun h => u5 (by have := ((h.two HU2.out _ HD0.out).2 _ _ rfl rfl).1; simp only [HKA.out, HKB.out] at this; exact this)
      have n1 : (ka' == kb') = false := by simp [u5]
      have n2 : ((ka' : Int) == (kb' : Int)) = false := by simp; omega
      have n3 : ((ka' : Int) != (kb' : Int)) = true := by simp; omega
      go_wp2
      go_ret
      exact ⟨ret_bool HF.out.symm, hbWq⟩
    subst u5
    by_cases u6 : (ac = true ∨ un ≠ 0) ∧ ka' ≠ kr'
    · have HF : Hid (axOk ⟨s, ops⟩ ⟨name, decls, ac, cm, un⟩ = false) := axOk_false fun h => u6.2 (by have := ((h.two HU2.out _ HD0.out).2 _ _ rfl rfl).2.1 u6.1; simp only [HKA.out, HKC.out] at this; exact this)
      obtain ⟨u7, u8⟩ := u6
      have n1 : (ka' == kr') = false := by simp [u8]
      have n2 : ((ka' : Int) == (kr' : Int)) = false := by simp; omega
      have n3 : ((ka' : Int) != (kr' : Int)) = true := by simp; omega
      cases ac
      · have u9 : 0 < un := by simp at u7; omega
        clear u7
        go_wp2
        go_ret
        exact ⟨ret_bool HF.out.symm, hbWq⟩
      · clear u7
        go_wp2
        go_ret
        exact ⟨ret_bool HF.out.symm, hbWq⟩
    have HU5 : Hid ((ac = true ∨ un ≠ 0) → ka' = kr') := fun h => Decidable.byContradiction fun h' => u6 ⟨h, h'⟩
    clear u6
    by_cases u7 : un = 0
    · subst u7
      have HF : Hid (axOk ⟨s, ops⟩ ⟨name, decls, ac, cm, 0⟩ = true) := axOk_true ⟨by simp, by simp, fun _ d hd => by
        have hd' : decls[0]? = some d := hd
        rw [HD0.out] at hd'
        injection hd' with hd'
        subst hd'
        refine ⟨rfl, fun x y hx hy => ?_⟩
        have hx : (a : Int) = x := by simpa using hx
        have hy : (b : Int) = y := by simpa using hy
        subst hx hy
        exact ⟨by rw [HKA.out, HKB.out], fun h => by show kd s a = kd s r; rw [HKA.out, HKC.out]; exact HU5.out h, fun h => absurd rfl h⟩⟩
      cases ac
      · go_wp2
        go_ret
        exact ⟨ret_bool HF.out.symm, hbWq⟩
      · have u8 := HU5.out (Or.inl rfl)
        subst u8
        go_wp2
        go_ret
        exact ⟨ret_bool HF.out.symm, hbWq⟩
    have u8 : ka' = kr' := HU5.out (.inr u7)
    subst u8
    obtain ⟨q, hq⟩ : ∃ q : Nat, un = (q : Int) + 1 := ⟨(un - 1).toNat, by omega⟩
    subst hq
    obtain ⟨p, hp⟩ : ∃ p, ops[q]? = some p := ⟨_, List.getElem?_eq_getElem (by have := HM.out; omega)⟩
    obtain ⟨_, _, hA, _, hzo2, hrow⟩ := Rep.at okOprR HOKG.out.2 HF2.out hp
    injection hA with hA
    injection hA with hA hA'
    subst hA hA'
    obtain ⟨u, hu, huu⟩ := (HALL.out p (List.mem_of_getElem? hp)).first
    have HPOK := Lib.hid (HOKG.out.2 p (List.mem_of_getElem? hp))
    have HP := Lib.hid hp
    have HUU := Lib.hid hu
    obtain ⟨pname, pdecls, pac, pcm, pun⟩ := p
    simp only [encOpr, RepRow, and_true, fieldsOf, List.length_cons, List.length_nil, Nat.reduceAdd, Rep.lit_iff] at hrow
    obtain ⟨⟨_, d0, rfl⟩, ⟨vd, d1, rd⟩, ⟨_, d2, rfl⟩, ⟨_, d3, rfl⟩, ⟨_, d4, rfl⟩⟩ := hrow
    obtain ⟨Au, capu, rfl, hcu, hmu⟩ := rd.shape
    simp only at hu huu
    have hrvp : RepVals Wq S (encOpr ⟨pname, pdecls, pac, pcm, pun⟩) [.string pname, .slice Au pdecls.length capu, .bool pac, .bool pcm, .int .i64 pun] := by simp only [encOpr, RepVals, Rep.lit_iff, and_true, true_and]; exact rd
    have HRP := Lib.hid hrvp
    have HARP := Lib.hid (fun W h => specArity ⟨pname, pdecls, pac, pcm, pun⟩ u S [.string pname, .slice Au pdecls.length capu, .bool pac, .bool pcm, .int .i64 pun] W HPOK.out h hu)
    obtain ⟨bu, ou, rfl, _, hzu, hrow⟩ := Rep.at okDclR HPOK.out.2.1 rd hu
    obtain ⟨uargs, ures⟩ := u
    simp only [encDcl, RepRow, and_true, fieldsOf, List.length_cons, List.length_nil, Nat.reduceAdd, Nat.zero_mul, Nat.add_zero, Rep.lit_iff] at hrow
    obtain ⟨⟨x5, x6, x7⟩, ⟨_, x8, rfl⟩⟩ := hrow
    obtain ⟨Av, capv, rfl, hcv, hmv⟩ := x7.shape
    have hur := huu.res
    simp only at hur
    rw [HN.out] at hur
    obtain ⟨ur, rfl⟩ := Int.eq_ofNat_of_zero_le hur.1
    have hpl : 0 < pdecls.length := (List.getElem?_eq_some_iff.1 hu).1
    unfold maxLen at hmu hmv
    clear hp hu huu x7 rd hrvp
    simp only at HARP
    generalize hku : kd s ur = ku' at *
    have HKU := Lib.hid hku
    generalize hLU : uargs.length = lu at *
    have HLU := Lib.hid hLU
    generalize pdecls.length = pl at *
    clear hku hLU
    have HIF : Hid (axOk ⟨s, ops⟩ ⟨name, decls, ac, cm, (q : Int) + 1⟩ = (lu == 0 && ku' == ka')) := by
      show _ = _
      by_cases hh : lu = 0 ∧ ku' = ka'
      · rw [axOk_true]
        · simp [hh.1, hh.2]
        · refine ⟨by simp; omega, by simp; have := HM.out; omega, fun _ d hd => ?_⟩
          have hd' : decls[0]? = some d := hd
          rw [HD0.out] at hd'
          injection hd' with hd'
          subst hd'
          refine ⟨rfl, fun x y hx hy => ?_⟩
          have hx : (a : Int) = x := by simpa using hx
          have hy : (b : Int) = y := by simpa using hy
          subst hx hy
          refine ⟨by rw [HKA.out, HKB.out], fun h => by show kd s a = kd s r; rw [HKA.out, HKC.out], fun _ p u hp hu => ?_⟩
          have hp' : ops[q]? = some p := by
            have : ops[((q : Int) + 1).toNat - 1]? = some p := hp
            rwa [show ((q : Int) + 1).toNat - 1 = q by omega] at this
          rw [HP.out] at hp'
          injection hp' with hp'
          subst hp'
          rw [HUU.out] at hu
          injection hu with hu
          subst hu
          exact ⟨by show uargs.length = 0; rw [HLU.out]; exact hh.1, by show kd s ur = kd s r; rw [HKU.out, HKC.out]; exact hh.2⟩
      · rw [axOk_false]
        · symm
          rw [Bool.eq_false_iff]
          intro h
          simp only [Bool.and_eq_true, beq_iff_eq] at h
          exact hh h
        · intro h
          have := ((h.two HU2.out _ HD0.out).2 _ _ rfl rfl).2.2 (by simp; omega) _ _ (by rw [show ((q : Int) + 1).toNat - 1 = q by omega]; exact HP.out) HUU.out
          simp only [HKU.out, HKC.out, HLU.out] at this
          exact hh this
    have hq0 : ((q : Int) + 1 == 0) = false := by simp; omega
    have hq1 : (0 : Int) < (q : Int) + 1 := by omega
    clear u7
    go_upto_region 14 with ((with_reducible refine atStore 64 (.tmp 11) (.tmp 94) rfl ?_); refine wpList_store_new rfl 64 _ _ rfl _ _ _ rfl _ rfl (by simp) [.string pname, .slice (some ⟨bu, ou, none⟩) pl capu, .bool pac, .bool pcm, .int .i64 pun] rfl ip hpi hps rfl (by simp [Value.oneCell']) ?_)
    all_goals
      simp only [Act.put]
      generalize hW : Wq.alloc _ = W11
      have hb11 : Below Wq.heap.size Wq W11 := by rw [← hW]; exact belowA _ _
      have y0 : W11.cell? ⟨Wq.heap.size, 0, none⟩ = some (.string pname) := (by rw [← hW]; repeat' (first | (simp; done) | exact keepNew (by simp) rfl | refine keepA _ ?_))
      have y1 : W11.cell? ⟨Wq.heap.size, 1, none⟩ = some (.slice (some ⟨bu, ou, none⟩) pl capu) := (by rw [← hW]; repeat' (first | (simp; done) | exact keepNew (by simp) rfl | refine keepA _ ?_))
      have y2 : W11.cell? ⟨Wq.heap.size, 2, none⟩ = some (.bool pac) := (by rw [← hW]; repeat' (first | (simp; done) | exact keepNew (by simp) rfl | refine keepA _ ?_))
      have y3 : W11.cell? ⟨Wq.heap.size, 3, none⟩ = some (.bool pcm) := (by rw [← hW]; repeat' (first | (simp; done) | exact keepNew (by simp) rfl | refine keepA _ ?_))
      have y4 : W11.cell? ⟨Wq.heap.size, 4, none⟩ = some (.int .i64 pun) := (by rw [← hW]; repeat' (first | (simp; done) | exact keepNew (by simp) rfl | refine keepA _ ?_))
      clear hW
      go_wp2_with fail
      refine (HARP.out _ (HRP.out.below hb11)).mono ?_
      rintro e W12 ⟨rfl, hb12⟩
      have hb112 := hb11.trans (hb12.mono hb11.size)
      have z1 := keepB hb12 y1
      have z6 := keepB hb112 x6
      have z8 := keepB hb112 x8
      obtain ⟨_, _, hA, _, ku⟩ := kd_cell (by rw [HN.out]; exact HK.out) (by rw [HN.out]; exact h8) (VKq.out.below hb112) (k := ur) (by rw [HN.out]; omega)
      injection hA with hA
      injection hA with hA hA'
      subst hA hA'
      rw [HKU.out] at ku
      have hbend := hbWq.trans (hb112.mono hbWq.size)
      by_cases v1 : lu = 0
      · subst v1
        by_cases v2 : ku' = ka'
        · subst v2
          rw [beq_self_eq_true, beq_self_eq_true, Bool.and_true] at HIF
          go_wp2
          go_ret
          exact ⟨ret_bool HIF.out.symm, hbend⟩
        · have n1 : (ku' == ka') = false := by simp [v2]
          have n2 : ((ku' : Int) == (ka' : Int)) = false := by simp; omega
          have n3 : ((ku' : Int) != (ka' : Int)) = true := by simp; omega
          rw [n1, Bool.and_false] at HIF
          go_wp2
          go_ret
          exact ⟨ret_bool HIF.out.symm, hbend⟩
      · have n1 : (lu == 0) = false := by simp [v1]
        have n2 : ((lu : Int) == 0) = false := by simp; omega
        have n3 : ((lu : Int) != 0) = true := by simp; omega
        rw [n1, Bool.false_and] at HIF
        go_wp2
        go_ret
        exact ⟨ret_bool HIF.out.symm, hbend⟩
end Go.Proofs.Ytlhbdhdaecchoaa
