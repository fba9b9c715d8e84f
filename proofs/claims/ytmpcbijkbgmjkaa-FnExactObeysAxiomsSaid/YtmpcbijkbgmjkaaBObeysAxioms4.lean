/-
  FnExactObeysAxioms returns true for every signature and algebra, and turns nothing: proved without conditions.
-/
import Derived.Test.YtmpcbijkbgmjkaaBObeysAxioms0
import Derived.Test.YtmpcbijkbgmjkaaBObeysAxioms1
import Derived.Test.YtmpcbijkbgmjkaaBObeysAxioms2
import Derived.Test.YtmpcbijkbgmjkaaBObeysAxioms3
set_option linter.unusedSimpArgs false
set_option linter.unusedVariables false
namespace Go.Proofs.Ytmpcbijkbgmjkaa
open Go.RowKit Go.Sort

set_option maxRecDepth 100000 in
theorem specArity (o : Opr) (d : Dcl) (S : Nat → Prop) (us : List Value) (w : World) (hok : okOpr o) (hv : RepVals w S (encOpr o) us) (hd : o.decls[0]? = some d) :
    Calls Try.prog 78 #[.agg us.toArray] w fun e w' => e = .returned (.int .i64 d.args.length) ∧ Below w.heap.size w w' := by
  obtain ⟨name, decls, ac, cm, un⟩ := o
  simp only [encOpr] at hv
  simp only at hd
  obtain ⟨v1, rfl, e1⟩ := repVals_Op hv
  obtain ⟨A1, cap1, rfl, hc1, hm1⟩ := e1.shape
  obtain ⟨b1, o1, rfl, _, hz1, hrow⟩ := Rep.at okDclR hok.2.1 e1 hd
  obtain ⟨dargs, dres⟩ := d
  simp only [encDcl, RepRow, and_true, fieldsOf, List.length_cons, List.length_nil, Nat.reduceAdd, Nat.zero_mul, Nat.add_zero, Rep.lit_iff] at hrow
  obtain ⟨⟨u0, c0, r0⟩, ⟨_, c1, rfl⟩⟩ := hrow
  obtain ⟨Ad, capd, rfl, hcd, hmd⟩ := r0.shape
  have hl : 0 < decls.length := (List.getElem?_eq_some_iff.1 hd).1
  clear hv e1 r0 hd hok
  unfold maxLen at hm1 hmd
  simp only
  generalize decls.length = m at *
  generalize dargs.length = ld at *
  go_enter Try.func78, Try.ntmps78
  go_wp2
  go_ret
  exact ⟨rfl, belowA _ _⟩

theorem info_OpR : (Try.prog.info? 93).map (fun i => (i.zero, i.size, i.bytes)) = some (some (.agg #[.string ⟨#[]⟩, .slice none 0 0, .bool false, .bool false, .int .i64 0]), 5, 56) := by kernel_rfl
set_option maxHeartbeats 20000000 in
set_option maxRecDepth 100000 in
theorem specAxioms (g : Sgn) (o : Opr) (k : Nat) (S : Nat → Prop) (vs : List Value) (w : World) (hs : SortsOk g.sorts) (hokg : okSgn g) (hvg : RepVals w S (encSgn g) vs) (ho : g.ops[k]? = some o) (hall : ∀ p ∈ g.ops, DeclsOk g.sorts p) :
    Calls Try.prog 118 #[.agg vs.toArray, .int .i64 k] w fun e w' => e = .returned (.bool (axOk g o)) ∧ Below w.heap.size w w' := by
  obtain ⟨s, ops⟩ := g
  simp only at ho hall hs
  obtain ⟨n, hN⟩ : ∃ n, s.names.length = n := ⟨_, rfl⟩
  have hK := kinds_ok (SortsOk.subsIn hs.subs)
  have h8 := hs.n8
  rw [hN] at hK h8
  obtain ⟨g0, g1, g2, rfl, f0, f1, f2⟩ := repVals_Signature hvg
  obtain ⟨Ag0, cg0, rfl, _, _⟩ := f0.shape
  obtain ⟨Ag1, cg1, rfl, _, _⟩ := f1.shape
  obtain ⟨Ag2, cg2, rfl, hcg2, hmg2⟩ := f2.shape
  have HSR : Hid (RepVals w S (encSrt s) [.slice Ag0 s.names.length cg0, .slice Ag1 s.subs.length cg1]) := by show RepVals _ _ _ _; simp only [encSrt, RepVals, and_true]; exact ⟨f0, f1⟩
  have HKI := Lib.hid (fun W h => specKinds s S [.slice Ag0 s.names.length cg0, .slice Ag1 s.subs.length cg1] W hokg.1 h hs.n1 hs.n8 hs.subs)
  obtain ⟨ic, hci, _, hcs, _⟩ := info_parts info_Decl'
  obtain ⟨ip, hpi, _, hps, _⟩ := info_parts info_OpR
  have hko : k < ops.length := (List.getElem?_eq_some_iff.1 ho).1
  obtain ⟨bo, oo, rfl, _, hzo, hrow⟩ := Rep.at okOprR hokg.2 f2 ho
  have hok := hokg.2 o (List.mem_of_getElem? ho)
  obtain ⟨d, hd, hdd⟩ := (hall o (List.mem_of_getElem? ho)).first
  have HO := Lib.hid ho
  obtain ⟨name, decls, ac, cm, un⟩ := o
  simp only [encOpr, RepRow, and_true, fieldsOf, List.length_cons, List.length_nil, Nat.reduceAdd, Rep.lit_iff] at hrow
  obtain ⟨⟨_, d0, rfl⟩, ⟨vd, d1, rd⟩, ⟨_, d2, rfl⟩, ⟨_, d3, rfl⟩, ⟨_, d4, rfl⟩⟩ := hrow
  obtain ⟨A1, cap1, rfl, hc1, hm1⟩ := rd.shape
  simp only at hd hdd
  have hrv : RepVals w S (encOpr ⟨name, decls, ac, cm, un⟩) [.string name, .slice A1 decls.length cap1, .bool ac, .bool cm, .int .i64 un] := by simp only [encOpr, RepVals, Rep.lit_iff, and_true, true_and]; exact rd
  have HAR := Lib.hid (fun W h => specArity ⟨name, decls, ac, cm, un⟩ d S [.string name, .slice A1 decls.length cap1, .bool ac, .bool cm, .int .i64 un] W hok h hd)
  obtain ⟨b1, o1, rfl, _, hz1, hrow⟩ := Rep.at okDclR hok.2.1 rd hd
  have HDOK := Lib.hid (hok.2.1 d (List.mem_of_getElem? hd))
  obtain ⟨dargs, dres⟩ := d
  simp only [encDcl, RepRow, and_true, fieldsOf, List.length_cons, List.length_nil, Nat.reduceAdd, Nat.zero_mul, Nat.add_zero, Rep.lit_iff] at hrow
  obtain ⟨⟨u0, c0, r0⟩, ⟨_, c1, rfl⟩⟩ := hrow
  obtain ⟨Ad, capd, rfl, hcd, hmd⟩ := r0.shape
  have hun : I64 un := hok.2.2
  have HD0 := Lib.hid hd
  have HDD := Lib.hid hdd
  have HALL := Lib.hid hall
  have HN := Lib.hid hN
  have HK := Lib.hid hK
  have RD := Lib.hid r0
  have F2 := Lib.hid f2
  have HOKG := Lib.hid hokg
  have HRV := Lib.hid hrv
  have hml : 0 < decls.length := (List.getElem?_eq_some_iff.1 hd).1
  clear hvg rd hok hd hdd hall hK r0 f0 f1 f2 hokg hs ho hrv
  unfold maxLen at hm1 hmd hmg2
  unfold I64 at hun
  rw [hN] at HSR HKI
  simp only
  rw [hN]
  clear hN
  generalize s.subs.length = ls at *
  simp only at hcg2 hmg2 HAR HRV F2
  generalize hM : ops.length = m at *
  have HM := Lib.hid hM
  generalize decls.length = md at *
  generalize hLD : dargs.length = ld at *
  have HLD := Lib.hid hLD
  clear hM hLD
  go_enter Try.func118, Try.ntmps118
  go_upto_region 2 with ((with_reducible refine atStore 93 (.tmp 5) (.tmp 16) rfl ?_); refine wpList_store_new rfl 93 _ _ rfl _ _ _ rfl _ rfl (by simp) [.string name, .slice (some ⟨b1, o1, none⟩) md cap1, .bool ac, .bool cm, .int .i64 un] rfl ip hpi hps rfl (by simp [Value.oneCell']) ?_)
  generalize hW : (w.alloc _).alloc _ = W1
  have hb1 : Below w.heap.size w W1 := by rw [← hW]; exact (by repeat' (first | exact Below.refl _ _ | refine below_drewN ?_ _ | refine Below.alloc ?_ (by first | exact Nat.le_refl _ | (simp; done) | (simp; omega)) _))
  have p0 : W1.cell? ⟨w.heap.size, 0, none⟩ = some (.slice Ag0 n cg0) := (by rw [← hW]; repeat' (first | (simp; done) | exact keepNew (by simp) rfl | refine keepA _ ?_))
  have p1 : W1.cell? ⟨w.heap.size, 1, none⟩ = some (.slice Ag1 ls cg1) := (by rw [← hW]; repeat' (first | (simp; done) | exact keepNew (by simp) rfl | refine keepA _ ?_))
  have p2 : W1.cell? ⟨w.heap.size, 2, none⟩ = some (.slice (some ⟨bo, oo, none⟩) m cg2) := (by rw [← hW]; repeat' (first | (simp; done) | exact keepNew (by simp) rfl | refine keepA _ ?_))
  have s0 : W1.cell? ⟨w.heap.size + 1, 0, none⟩ = some (.string name) := (by rw [← hW]; repeat' (first | (simp; done) | exact keepNew (by simp) rfl | refine keepA _ ?_))
  have s1 : W1.cell? ⟨w.heap.size + 1, 1, none⟩ = some (.slice (some ⟨b1, o1, none⟩) md cap1) := (by rw [← hW]; repeat' (first | (simp; done) | exact keepNew (by simp) rfl | refine keepA _ ?_))
  have s2 : W1.cell? ⟨w.heap.size + 1, 2, none⟩ = some (.bool ac) := (by rw [← hW]; repeat' (first | (simp; done) | exact keepNew (by simp) rfl | refine keepA _ ?_))
  have s3 : W1.cell? ⟨w.heap.size + 1, 3, none⟩ = some (.bool cm) := (by rw [← hW]; repeat' (first | (simp; done) | exact keepNew (by simp) rfl | refine keepA _ ?_))
  have s4 : W1.cell? ⟨w.heap.size + 1, 4, none⟩ = some (.int .i64 un) := (by rw [← hW]; repeat' (first | (simp; done) | exact keepNew (by simp) rfl | refine keepA _ ?_))
  clear hW d0 d1 d2 d3 d4
  generalize w.heap.size + 1 = g5 at *
  by_cases u2 : ac = false ∧ cm = false ∧ un = 0
  · obtain ⟨rfl, rfl, rfl⟩ := u2
    have HF : Hid (axOk ⟨s, ops⟩ ⟨name, decls, false, false, 0⟩ = true) := axOk_true ⟨by simp, by simp, fun h => by simp at h⟩
    go_wp2
    go_ret
    exact ⟨ret_bool HF.out.symm, hb1⟩
  have HU2 : Hid (ac = true ∨ cm = true ∨ un ≠ 0) := by
    show _ ∨ _
    cases ac <;> cases cm <;> simp at u2 ⊢ <;> omega
  simp only [Act.put]
  go_cut [29] (fun v wx => v = .bool false ∧ W1 = wx)
  case first =>
    cases ac
    · cases cm
      · have n1 : (un == 0) = false := by simpa using u2
        clear u2
        go_wp2
        all_goals (go_meet; exact ⟨rfl, rfl⟩)
      · clear u2
        go_wp2
        all_goals (go_meet; exact ⟨rfl, rfl⟩)
    · clear u2
      go_wp2
      all_goals (go_meet; exact ⟨rfl, rfl⟩)
  case rest =>
    obtain ⟨rfl, rfl⟩ := hcut
    clear u2
    have HAR1 := Lib.hid (HAR.out _ (HRV.out.below hb1))
    have HIN := Lib.hid (fun w => specIn un 0 m w)
    by_cases u3 : ld = 2
    rotate_left
    · have HF : Hid (axOk ⟨s, ops⟩ ⟨name, decls, ac, cm, un⟩ = false) := axOk_false fun h => u3 (by have := (h.two HU2.out _ HD0.out).1; have := HLD.out; simp only at *; omega)
      have n1 : (ld == 2) = false := by simp [u3]
      have n2 : ((ld : Int) == 2) = false := by simp; omega
      have n3 : ((ld : Int) != 2) = true := by simp; omega
      go_wp2_with (go_at_call 78; refine HAR1.out.mono ?_; rintro e w3 ⟨rfl, hb3⟩)
      go_ret
      exact ⟨ret_bool HF.out.symm, hb1.trans (hb3.mono hb1.size)⟩
    subst u3
    by_cases u4 : 0 ≤ un ∧ un ≤ m
    rotate_left
    · have HF : Hid (axOk ⟨s, ops⟩ ⟨name, decls, ac, cm, un⟩ = false) := axOk_false fun h => u4 (by have h1 := h.lo; have h2 := h.hi; have := HM.out; simp only at *; omega)
      rw [decide_eq_false u4] at HIN
      clear u4
      go_wp2_with fail
      refine HAR1.out.mono ?_
      rintro e w3 ⟨rfl, hb3⟩
      have t2 := keepB hb3 p2
      have t4 := keepB hb3 s4
      go_wp2_with (go_at_call 69; refine (HIN.out _).mono ?_; rintro e w4 ⟨rfl, rfl⟩)
      go_ret
      exact ⟨ret_bool HF.out.symm, hb1.trans (hb3.mono hb1.size)⟩
    rw [decide_eq_true u4] at HIN
    go_wp2_with fail
    refine HAR1.out.mono ?_
    rintro e w3 ⟨rfl, hb3⟩
    have t0 := keepB hb3 p0
    have t1 := keepB hb3 p1
    have t2 := keepB hb3 p2
    have t4 := keepB hb3 s4
    go_wp2_with (go_at_call 69; refine (HIN.out _).mono ?_; rintro e w4 ⟨rfl, rfl⟩)
    have hb13 := hb1.trans (hb3.mono hb1.size)
    refine (HKI.out _ (HSR.out.below hb13)).mono ?_
    rintro e W2 ⟨vk, rfl, hI, hbk⟩
    obtain ⟨Ak, ck, rfl, hck, hmk, hA⟩ := hI.form
    have hkl : (casts (kinds s)).length = n := by rw [casts_len]; exact HK.out.1
    have hI' := hI.rep
    rw [hkl] at hI' hck
    rw [hkl]
    clear hkl hA
    unfold maxLen at hmk
    have VK1 := Lib.hid hI'
    clear hI hI' t0 t1 t2 t4
    have hb2 : Below W1.heap.size W1 W2 := hb3.trans (hbk.mono hb3.size)
    have hbw := hb1.trans (hb2.mono hb1.size)
    have t1 := keepB hb2 s1
    have e0 := keepB hbw c0
    have e1 := keepB hbw c1
    go_wp2_with ((with_reducible refine atStore 125 (.tmp 7) (.tmp 48) rfl ?_); refine wpList_store_new rfl 125 _ _ rfl _ _ _ rfl _ rfl (by simp) [.slice Ad 2 capd, .int .i64 dres] rfl ic hci hcs rfl (by simp [Value.oneCell']) ?_)
    generalize hW : W2.alloc _ = W
    have hb4 : Below W2.heap.size W2 W := by rw [← hW]; exact belowA _ _
    have x0 : W.cell? ⟨W2.heap.size, 0, none⟩ = some (.slice Ad 2 capd) := (by rw [← hW]; repeat' (first | (simp; done) | exact keepNew (by simp) rfl | refine keepA _ ?_))
    have x1 : W.cell? ⟨W2.heap.size, 1, none⟩ = some (.int .i64 dres) := (by rw [← hW]; repeat' (first | (simp; done) | exact keepNew (by simp) rfl | refine keepA _ ?_))
    have hb1W : Below W1.heap.size W1 W := hb2.trans (hb4.mono hb2.size)
    have hbW : Below w.heap.size w W := hb1.trans (hb1W.mono hb1.size)
    have VK := Lib.hid (VK1.out.below hb4)
    clear hW t1 e0 e1 VK1
    generalize W2.heap.size = g7 at *
    have t1 := keepB hb1W s1
    have t2 := keepB hb1W s2
    have t4 := keepB hb1W s4
    have t5 := keepB hb1W p2
    clear hb2 hb4 hbk hbw hb13 hb3
    obtain ⟨a, b, rfl⟩ := two_of HLD.out
    obtain ⟨ba, oa, rfl, hza, ca0⟩ := Rep.int HDOK.out.1 (RD.out.below hbW) (k := 0) (x := a) rfl
    obtain ⟨_, _, hA, _, ca1⟩ := Rep.int HDOK.out.1 (RD.out.below hbW) (k := 1) (x := b) rfl
    injection hA with hA
    injection hA with hA hA'
    subst hA hA'
    simp only [Nat.add_zero] at ca0
    have ha := HDD.out.args a (by simp)
    have hb := HDD.out.args b (by simp)
    have hr := HDD.out.res
    simp only at hr
    rw [HN.out] at ha hb hr
    obtain ⟨a, rfl⟩ := Int.eq_ofNat_of_zero_le ha.1
    obtain ⟨b, rfl⟩ := Int.eq_ofNat_of_zero_le hb.1
    obtain ⟨r, rfl⟩ := Int.eq_ofNat_of_zero_le hr.1
    obtain ⟨bk, ok, rfl, hzk, ka⟩ := kd_cell (by rw [HN.out]; exact HK.out) (by rw [HN.out]; exact h8) VK.out (k := a) (by rw [HN.out]; omega)
    obtain ⟨_, _, hA, _, kb⟩ := kd_cell (by rw [HN.out]; exact HK.out) (by rw [HN.out]; exact h8) VK.out (k := b) (by rw [HN.out]; omega)
    injection hA with hA
    injection hA with hA hA'
    subst hA hA'
    obtain ⟨_, _, hA, _, kr⟩ := kd_cell (by rw [HN.out]; exact HK.out) (by rw [HN.out]; exact h8) VK.out (k := r) (by rw [HN.out]; omega)
    injection hA with hA
    injection hA with hA hA'
    subst hA hA'
    clear HDD
    generalize hka : kd s a = ka' at *
    generalize hkb : kd s b = kb' at *
    generalize hkr : kd s r = kr' at *
    have HKA := Lib.hid hka
    have HKB := Lib.hid hkb
    have HKC := Lib.hid hkr
    clear hka hkb hkr
    go_quiet (fail)
    have VKq := Lib.hid (VK.out.below (belowN W nq))
    have hb1q := below_drewN hb1W nq
    have hbWq := below_drewN hbW nq
    have HF2 := Lib.hid (F2.out.below hbWq)
    replace x0 := keepN (n := nq) x0
    replace x1 := keepN (n := nq) x1
    replace t1 := keepN (n := nq) t1
    replace t2 := keepN (n := nq) t2
    replace t4 := keepN (n := nq) t4
    replace t5 := keepN (n := nq) t5
    clear ka kb kr ca0 ca1 VK hb1W hbW hza hzk
    generalize W.drewN nq = Wq at *
    by_cases u5 : ka' = kb'
    rotate_left
    · have HF : Hid (axOk ⟨s, ops⟩ ⟨name, decls, ac, cm, un⟩ = false) := axOk_false fun h => u5 (by have := ((h.two HU2.out _ HD0.out).2 _ _ rfl rfl).1; simp only [HKA.out, HKB.out] at this; exact this)
      have n1 : (ka' == kb') = false := by simp [u5]
      have n2 : ((ka' : Int) == (kb' : Int)) = false := by simp; omega
      have n3 : ((ka' : Int) != (kb' : Int)) = true := by simp; omega
      go_wp2
      go_ret
      exact ⟨ret_bool HF.out.symm, hbWq⟩
    subst u5
    by_cases u6 : (ac = true ∨ un ≠ 0) ∧ ka' ≠ kr'
    · have HF : Hid (axOk ⟨s, ops⟩ ⟨name, decls, ac, cm, un⟩ = false) := axOk_false fun h => u6.2 (by have := ((h.two HU2.out _ HD0.out).2 _ _ rfl rfl).2.1 u6.1; simp only [HKA.out, HKC.out] at this; exact this)
      obtain ⟨u7, u8⟩ := u6
      have n1 : (ka' == kr') = false := by simp [u8]
      have n2 : ((ka' : Int) == (kr' : Int)) = false := by simp; omega
      have n3 : ((ka' : Int) != (kr' : Int)) = true := by simp; omega
      cases ac
      · have u9 : 0 < un := by simp at u7; omega
        clear u7
        go_wp2
        go_ret
        exact ⟨ret_bool HF.out.symm, hbWq⟩
      · clear u7
        go_wp2
        go_ret
        exact ⟨ret_bool HF.out.symm, hbWq⟩
    have HU5 : Hid ((ac = true ∨ un ≠ 0) → ka' = kr') := fun h => Decidable.byContradiction fun h' => u6 ⟨h, h'⟩
    clear u6
    by_cases u7 : un = 0
    · subst u7
      have HF : Hid (axOk ⟨s, ops⟩ ⟨name, decls, ac, cm, 0⟩ = true) := axOk_true ⟨by simp, by simp, fun _ d hd => by
        have hd' : decls[0]? = some d := hd
        rw [HD0.out] at hd'
        injection hd' with hd'
        subst hd'
        refine ⟨rfl, fun x y hx hy => ?_⟩
        have hx : (a : Int) = x := by simpa using hx
        have hy : (b : Int) = y := by simpa using hy
        subst hx hy
        exact ⟨by rw [HKA.out, HKB.out], fun h => by show kd s a = kd s r; rw [HKA.out, HKC.out]; exact HU5.out h, fun h => absurd rfl h⟩⟩
      cases ac
      · go_wp2
        go_ret
        exact ⟨ret_bool HF.out.symm, hbWq⟩
      · have u8 := HU5.out (Or.inl rfl)
        subst u8
        go_wp2
        go_ret
        exact ⟨ret_bool HF.out.symm, hbWq⟩
    have u8 : ka' = kr' := HU5.out (.inr u7)
    subst u8
    obtain ⟨q, hq⟩ : ∃ q : Nat, un = (q : Int) + 1 := ⟨(un - 1).toNat, by omega⟩
    subst hq
    obtain ⟨p, hp⟩ : ∃ p, ops[q]? = some p := ⟨_, List.getElem?_eq_getElem (by have := HM.out; omega)⟩
    obtain ⟨_, _, hA, _, hzo2, hrow⟩ := Rep.at okOprR HOKG.out.2 HF2.out hp
    injection hA with hA
    injection hA with hA hA'
    subst hA hA'
    obtain ⟨u, hu, huu⟩ := (HALL.out p (List.mem_of_getElem? hp)).first
    have HPOK := Lib.hid (HOKG.out.2 p (List.mem_of_getElem? hp))
    have HP := Lib.hid hp
    have HUU := Lib.hid hu
    obtain ⟨pname, pdecls, pac, pcm, pun⟩ := p
    simp only [encOpr, RepRow, and_true, fieldsOf, List.length_cons, List.length_nil, Nat.reduceAdd, Rep.lit_iff] at hrow
    obtain ⟨⟨_, d0, rfl⟩, ⟨vd, d1, rd⟩, ⟨_, d2, rfl⟩, ⟨_, d3, rfl⟩, ⟨_, d4, rfl⟩⟩ := hrow
    obtain ⟨Au, capu, rfl, hcu, hmu⟩ := rd.shape
    simp only at hu huu
    have hrvp : RepVals Wq S (encOpr ⟨pname, pdecls, pac, pcm, pun⟩) [.string pname, .slice Au pdecls.length capu, .bool pac, .bool pcm, .int .i64 pun] := by simp only [encOpr, RepVals, Rep.lit_iff, and_true, true_and]; exact rd
    have HRP := Lib.hid hrvp
    have HARP := Lib.hid (fun W h => specArity ⟨pname, pdecls, pac, pcm, pun⟩ u S [.string pname, .slice Au pdecls.length capu, .bool pac, .bool pcm, .int .i64 pun] W HPOK.out h hu)
    obtain ⟨bu, ou, rfl, _, hzu, hrow⟩ := Rep.at okDclR HPOK.out.2.1 rd hu
    obtain ⟨uargs, ures⟩ := u
    simp only [encDcl, RepRow, and_true, fieldsOf, List.length_cons, List.length_nil, Nat.reduceAdd, Nat.zero_mul, Nat.add_zero, Rep.lit_iff] at hrow
    obtain ⟨⟨x5, x6, x7⟩, ⟨_, x8, rfl⟩⟩ := hrow
    obtain ⟨Av, capv, rfl, hcv, hmv⟩ := x7.shape
    have hur := huu.res
    simp only at hur
    rw [HN.out] at hur
    obtain ⟨ur, rfl⟩ := Int.eq_ofNat_of_zero_le hur.1
    have hpl : 0 < pdecls.length := (List.getElem?_eq_some_iff.1 hu).1
    unfold maxLen at hmu hmv
    clear hp hu huu x7 rd hrvp
    simp only at HARP
    generalize hku : kd s ur = ku' at *
    have HKU := Lib.hid hku
    generalize hLU : uargs.length = lu at *
    have HLU := Lib.hid hLU
    generalize pdecls.length = pl at *
    clear hku hLU
    have HIF : Hid (axOk ⟨s, ops⟩ ⟨name, decls, ac, cm, (q : Int) + 1⟩ = (lu == 0 && ku' == ka')) := by
      show _ = _
      by_cases hh : lu = 0 ∧ ku' = ka'
      · rw [axOk_true]
        · simp [hh.1, hh.2]
        · refine ⟨by simp; omega, by simp; have := HM.out; omega, fun _ d hd => ?_⟩
          have hd' : decls[0]? = some d := hd
          rw [HD0.out] at hd'
          injection hd' with hd'
          subst hd'
          refine ⟨rfl, fun x y hx hy => ?_⟩
          have hx : (a : Int) = x := by simpa using hx
          have hy : (b : Int) = y := by simpa using hy
          subst hx hy
          refine ⟨by rw [HKA.out, HKB.out], fun h => by show kd s a = kd s r; rw [HKA.out, HKC.out], fun _ p u hp hu => ?_⟩
          have hp' : ops[q]? = some p := by
            have : ops[((q : Int) + 1).toNat - 1]? = some p := hp
            rwa [show ((q : Int) + 1).toNat - 1 = q by omega] at this
          rw [HP.out] at hp'
          injection hp' with hp'
          subst hp'
          rw [HUU.out] at hu
          injection hu with hu
          subst hu
          exact ⟨by show uargs.length = 0; rw [HLU.out]; exact hh.1, by show kd s ur = kd s r; rw [HKU.out, HKC.out]; exact hh.2⟩
      · rw [axOk_false]
        · symm
          rw [Bool.eq_false_iff]
          intro h
          simp only [Bool.and_eq_true, beq_iff_eq] at h
          exact hh h
        · intro h
          have := ((h.two HU2.out _ HD0.out).2 _ _ rfl rfl).2.2 (by simp; omega) _ _ (by rw [show ((q : Int) + 1).toNat - 1 = q by omega]; exact HP.out) HUU.out
          simp only [HKU.out, HKC.out, HLU.out] at this
          exact hh this
    have hq0 : ((q : Int) + 1 == 0) = false := by simp; omega
    have hq1 : (0 : Int) < (q : Int) + 1 := by omega
    clear u7
    go_upto_region 14 with ((with_reducible refine atStore 93 (.tmp 11) (.tmp 94) rfl ?_); refine wpList_store_new rfl 93 _ _ rfl _ _ _ rfl _ rfl (by simp) [.string pname, .slice (some ⟨bu, ou, none⟩) pl capu, .bool pac, .bool pcm, .int .i64 pun] rfl ip hpi hps rfl (by simp [Value.oneCell']) ?_)
    all_goals
      simp only [Act.put]
      generalize hW : Wq.alloc _ = W11
      have hb11 : Below Wq.heap.size Wq W11 := by rw [← hW]; exact belowA _ _
      have y0 : W11.cell? ⟨Wq.heap.size, 0, none⟩ = some (.string pname) := (by rw [← hW]; repeat' (first | (simp; done) | exact keepNew (by simp) rfl | refine keepA _ ?_))
      have y1 : W11.cell? ⟨Wq.heap.size, 1, none⟩ = some (.slice (some ⟨bu, ou, none⟩) pl capu) := (by rw [← hW]; repeat' (first | (simp; done) | exact keepNew (by simp) rfl | refine keepA _ ?_))
      have y2 : W11.cell? ⟨Wq.heap.size, 2, none⟩ = some (.bool pac) := (by rw [← hW]; repeat' (first | (simp; done) | exact keepNew (by simp) rfl | refine keepA _ ?_))
      have y3 : W11.cell? ⟨Wq.heap.size, 3, none⟩ = some (.bool pcm) := (by rw [← hW]; repeat' (first | (simp; done) | exact keepNew (by simp) rfl | refine keepA _ ?_))
      have y4 : W11.cell? ⟨Wq.heap.size, 4, none⟩ = some (.int .i64 pun) := (by rw [← hW]; repeat' (first | (simp; done) | exact keepNew (by simp) rfl | refine keepA _ ?_))
      clear hW
      go_wp2_with fail
      refine (HARP.out _ (HRP.out.below hb11)).mono ?_
      rintro e W12 ⟨rfl, hb12⟩
      have hb112 := hb11.trans (hb12.mono hb11.size)
      have z1 := keepB hb12 y1
      have z6 := keepB hb112 x6
      have z8 := keepB hb112 x8
      obtain ⟨_, _, hA, _, ku⟩ := kd_cell (by rw [HN.out]; exact HK.out) (by rw [HN.out]; exact h8) (VKq.out.below hb112) (k := ur) (by rw [HN.out]; omega)
      injection hA with hA
      injection hA with hA hA'
      subst hA hA'
      rw [HKU.out] at ku
      have hbend := hbWq.trans (hb112.mono hbWq.size)
      by_cases v1 : lu = 0
      · subst v1
        by_cases v2 : ku' = ka'
        · subst v2
          rw [beq_self_eq_true, beq_self_eq_true, Bool.and_true] at HIF
          go_wp2
          go_ret
          exact ⟨ret_bool HIF.out.symm, hbend⟩
        · have n1 : (ku' == ka') = false := by simp [v2]
          have n2 : ((ku' : Int) == (ka' : Int)) = false := by simp; omega
          have n3 : ((ku' : Int) != (ka' : Int)) = true := by simp; omega
          rw [n1, Bool.and_false] at HIF
          go_wp2
          go_ret
          exact ⟨ret_bool HIF.out.symm, hbend⟩
      · have n1 : (lu == 0) = false := by simp [v1]
        have n2 : ((lu : Int) == 0) = false := by simp; omega
        have n3 : ((lu : Int) != 0) = true := by simp; omega
        rw [n1, Bool.false_and] at HIF
        go_wp2
        go_ret
        exact ⟨ret_bool HIF.out.symm, hbend⟩
end Go.Proofs.Ytmpcbijkbgmjkaa

namespace Go.Proofs.Ytmpcbijkbgmjkaa
open Go.RowKit Go.Sort

theorem hasStr_snoc (l : List ByteArray) (t s : ByteArray) : hasStr (l ++ [t]) s = (hasStr l s || (s.toList == t.toList)) := by simp [hasStr, List.any_append]
set_option maxHeartbeats 20000000 in
set_option maxRecDepth 100000 in
theorem specIsSignature : sgnC 76 := by
  intro g S us w hok hv
  obtain ⟨s, ops⟩ := g
  have hv0 := hv
  obtain ⟨g0, g1, g2, rfl, f0, f1, f2⟩ := repVals_Signature hv
  obtain ⟨Ag0, cg0, rfl, _, _⟩ := f0.shape
  obtain ⟨Ag1, cg1, rfl, _, _⟩ := f1.shape
  obtain ⟨Ag2, cg2, rfl, hcg2, hmg2⟩ := f2.shape
  have HSR : Hid (RepVals w S (encSrt s) [.slice Ag0 s.names.length cg0, .slice Ag1 s.subs.length cg1]) := by show RepVals _ _ _ _; simp only [encSrt, RepVals, and_true]; exact ⟨f0, f1⟩
  have HOK := Lib.hid hok
  have HV := Lib.hid hv0
  have F2 := Lib.hid f2
  clear hv hv0 f0 f1 f2 hok
  simp only at HSR HV F2 hcg2 hmg2
  simp only
  generalize hln : s.names.length = n at *
  generalize s.subs.length = ls at *
  have HLN := Lib.hid hln
  clear hln
  generalize hM : ops.length = m at *
  have HM := Lib.hid hM
  clear hM
  unfold maxLen at hmg2
  have HIS := Lib.hid (fun W h => specIsSorts s S [.slice Ag0 n cg0, .slice Ag1 ls cg1] W HOK.out.1 h)
  by_cases hs : SortsOk s
  rotate_left
  · have HF : Hid (isSgn ⟨s, ops⟩ = false) := isSgn_false fun h => hs h.sorts
    rw [isSorts_false hs] at HIS
    clear hs
    go_enter Try.func76, Try.ntmps76
    go_wp2_with fail
    refine (HIS.out _ (HSR.out.below (belowA _ _))).mono ?_
    rintro e w2 ⟨rfl, hb2⟩
    go_wp2
    go_ret
    exact ⟨ret_bool HF.out.symm, (belowA _ _).trans (hb2.mono (belowA _ _).size)⟩
  rw [isSorts_true hs] at HIS
  have HSO := Lib.hid hs
  clear hs
  go_enter Try.func76, Try.ntmps76
  go_wp2_with fail
  generalize hW : w.alloc _ = W0
  have hb0 : Below w.heap.size w W0 := by rw [← hW]; exact belowA _ _
  have p0 : W0.cell? ⟨w.heap.size, 0, none⟩ = some (.slice Ag0 n cg0) := (by rw [← hW]; repeat' (first | (simp; done) | exact keepNew (by simp) rfl | refine keepA _ ?_))
  have p1 : W0.cell? ⟨w.heap.size, 1, none⟩ = some (.slice Ag1 ls cg1) := (by rw [← hW]; repeat' (first | (simp; done) | exact keepNew (by simp) rfl | refine keepA _ ?_))
  have p2 : W0.cell? ⟨w.heap.size, 2, none⟩ = some (.slice Ag2 m cg2) := (by rw [← hW]; repeat' (first | (simp; done) | exact keepNew (by simp) rfl | refine keepA _ ?_))
  clear hW
  refine (HIS.out _ (HSR.out.below hb0)).mono ?_
  rintro e W ⟨rfl, hb2⟩
  have hbW : Below w.heap.size w W := hb0.trans (hb2.mono hb0.size)
  have r0 := keepB hb2 p0
  have r1 := keepB hb2 p1
  have r2 := keepB hb2 p2
  have F2W := Lib.hid (F2.out.below hbW)
  have HVW := Lib.hid (HV.out.below hbW)
  clear p0 p1 p2 F2 HV HSR HIS hb0 hb2
  by_cases h14 : 14 < m
  · have HF : Hid (isSgn ⟨s, ops⟩ = false) := isSgn_false fun h => by have := h.len; have := HM.out; simp only at *; omega
    go_wp2
    go_ret
    exact ⟨ret_bool HF.out.symm, hbW⟩
  go_wp2
  go_loopw [3] (fun i wr => ∃ k : Nat, k ≤ m ∧ i = .int .i64 k ∧ (∀ (j : Nat) (o : Opr), j < k → ops[j]? = some o → (isName o.name = true ∧ hasStr (opNames (ops.take j)) o.name = false) ∧ DeclsOk s o) ∧ Below W.heap.size W wr) (fun i _ => m - (intOf i).toNat)
  case atStart => exact ⟨0, Nat.zero_le _, rfl, fun j o h => by omega, Below.refl _ _⟩
  case round =>
    obtain ⟨k, hk, rfl, hall, hb⟩ := hrel
    have HALL := Lib.hid hall
    clear hall
    have q0 := keepB hb r0
    have q1 := keepB hb r1
    have q2 := keepB hb r2
    by_cases hkn : k < m
    · obtain ⟨o, ho⟩ : ∃ o, ops[k]? = some o := ⟨_, List.getElem?_eq_getElem (by have := HM.out; omega)⟩
      have HOO := Lib.hid (HOK.out.2 o (List.mem_of_getElem? ho))
      obtain ⟨b, off, vd, rfl, hbz, c0, c1, c2, c3, c4, rd⟩ := Rep.opAt HOK.out.2 (F2W.out.below hb) ho
      have HO := Lib.hid ho
      obtain ⟨name, decls, ac, cm, un⟩ := o
      simp only at c0 c2 c3 c4 rd
      have hrv : RepVals wr S (encOpr ⟨name, decls, ac, cm, un⟩) [.string name, vd, .bool ac, .bool cm, .int .i64 un] := by simp only [encOpr, RepVals, Rep.lit_iff, and_true, true_and]; exact rd
      obtain ⟨Ad, capd, rfl, _, _⟩ := rd.shape
      have HRV := Lib.hid hrv
      clear ho rd hrv
      generalize decls.length = ld at *
      have k0 := cell_regrown q0
      have k1 := cell_regrown q1
      have k2 := cell_regrown q2
      have y0 := cell_regrown c0
      have y1 := cell_regrown c1
      have y2 := cell_regrown c2
      have y3 := cell_regrown c3
      have y4 := cell_regrown c4
      have HNM := Lib.hid (fun w => specIsName name HOO.out.1 w)
      cases hin : isName name
      · have HF : Hid (isSgn ⟨s, ops⟩ = false) := isSgn_false fun h => by have := (h.names k _ HO.out).1; rw [hin] at this; cases this
        rw [hin] at HNM
        clear hin
        have HCn : Hid (∀ d os, Calls Try.prog 116 #[.string name] (grow (redrawn wr d) os) fun e w'' => e = .returned (.bool false) ∧ ∃ p : Regrown, w'' = grow (redrawn wr p.d) p.os) := fun d os => Calls.regrown_of ((HNM.out _).mono fun e w' h => ⟨h.1, by rw [← h.2]; exact Below.refl _ _⟩)
        go_wp2_with fail
        (refine wp_region_quiet_below (by kernel_rfl) (by kernel_rfl) ?_
         repeat (first | go_big_quiet_step (first | (go_at_call 116; exact HCn.out _ _)) | quiet_step (first | (go_at_call 116; exact HCn.out _ _)))
         refine wpQuiet_nil ?_
         intro _ hw'
         obtain ⟨⟨dq, osq⟩, hw''⟩ := hw'
         subst hw'')
        go_wp2
        go_ret
        exact ⟨ret_bool HF.out.symm, hbW.trans ((hb.trans ((below_regrown wr dq osq).mono hb.size)).mono hbW.size)⟩
      rw [hin] at HNM
      have HIN := Lib.hid hin
      clear hin
      have HCn : Hid (∀ d os, Calls Try.prog 116 #[.string name] (grow (redrawn wr d) os) fun e w'' => e = .returned (.bool true) ∧ ∃ p : Regrown, w'' = grow (redrawn wr p.d) p.os) := fun d os => Calls.regrown_of ((HNM.out _).mono fun e w' h => ⟨h.1, by rw [← h.2]; exact Below.refl _ _⟩)
      have HCd : Hid (∀ d os, Calls Try.prog 117 #[.agg #[.slice Ag0 n cg0, .slice Ag1 ls cg1, .slice (some ⟨b, off, none⟩) m cg2], .agg #[.string name, .slice Ad ld capd, .bool ac, .bool cm, .int .i64 un]] (grow (redrawn wr d) os) fun e w'' => e = .returned (.bool (declsOk s ⟨name, decls, ac, cm, un⟩)) ∧ ∃ p : Regrown, w'' = grow (redrawn wr p.d) p.os) := fun d os =>
        Calls.regrown_of (specDecls ⟨s, ops⟩ ⟨name, decls, ac, cm, un⟩ S [.slice Ag0 n cg0, .slice Ag1 ls cg1, .slice (some ⟨b, off, none⟩) m cg2] [.string name, .slice Ad ld capd, .bool ac, .bool cm, .int .i64 un] _ HSO.out HOK.out HOO.out ((HVW.out.below hb).below (below_regrown wr d os)) (HRV.out.below (below_regrown wr d os)))
      cases hde : declsOk s ⟨name, decls, ac, cm, un⟩
      · have HF : Hid (isSgn ⟨s, ops⟩ = false) := isSgn_false fun h => by have := declsOk_true (h.decls _ (List.mem_of_getElem? HO.out)); simp only at this; rw [hde] at this; cases this
        rw [hde] at HCd
        clear hde
        go_wp2_with fail
        (refine wp_region_quiet_below (by kernel_rfl) (by kernel_rfl) ?_
         repeat (first | go_big_quiet_step (first | (go_at_call 116; exact HCn.out _ _) | (go_at_call 117; exact HCd.out _ _)) | quiet_step (first | (go_at_call 116; exact HCn.out _ _) | (go_at_call 117; exact HCd.out _ _)))
         refine wpQuiet_nil ?_
         intro _ hw'
         obtain ⟨⟨dq, osq⟩, hw''⟩ := hw'
         subst hw'')
        go_wp2
        go_ret
        exact ⟨ret_bool HF.out.symm, hbW.trans ((hb.trans ((below_regrown wr dq osq).mono hb.size)).mono hbW.size)⟩
      rw [hde] at HCd
      have HDE := Lib.hid (declsOk_iff.1 hde)
      clear hde
      go_wp2_with fail
      (refine wp_region_quiet_below (by kernel_rfl) (by kernel_rfl) ?_
       repeat (first | go_big_quiet_step (first | (go_at_call 116; exact HCn.out _ _) | (go_at_call 117; exact HCd.out _ _)) | quiet_step (first | (go_at_call 116; exact HCn.out _ _) | (go_at_call 117; exact HCd.out _ _)))
       refine wpQuiet_nil ?_
       intro _ hw'
       obtain ⟨⟨dq, osq⟩, hw''⟩ := hw'
       subst hw'')
      have hb5 : Below W.heap.size W (grow (redrawn wr dq) osq) := hb.trans ((below_regrown wr dq osq).mono hb.size)
      clear k0 k1 k2 y0 y1 y2 y3 y4 q0 q1 q2 c0 c1 c2 c3 c4 HCn HCd HRV hb hbz
      generalize grow (redrawn wr dq) osq = W5 at *
      go_wp2
      obtain ⟨wo, rfl⟩ : ∃ x : World, x = wr := ⟨_, rfl⟩
      go_loopw [4] (fun i wr => ∃ j : Nat, j ≤ k ∧ i = .int .i64 j ∧ hasStr (opNames (ops.take j)) name = false ∧ Below W5.heap.size W5 wr) (fun i _ => k - (intOf i).toNat)
      case atStart => exact ⟨0, Nat.zero_le _, rfl, by simp [opNames, hasStr], Below.refl _ _⟩
      case round =>
        obtain ⟨j, hj, rfl, hno, hbr⟩ := hrel
        have HNO := Lib.hid hno
        clear hno
        have hb6 : Below W.heap.size W wr := hb5.trans (hbr.mono hb5.size)
        by_cases hjk : j < k
        · obtain ⟨p, hp⟩ : ∃ p, ops[j]? = some p := ⟨_, List.getElem?_eq_getElem (by have := HM.out; omega)⟩
          obtain ⟨_, _, _, hA, hbz, d0, _⟩ := Rep.opAt HOK.out.2 (F2W.out.below hb6) hp
          injection hA with hA
          injection hA with hA hA'
          subst hA hA'
          obtain ⟨_, _, _, hA, hbz, c0, _⟩ := Rep.opAt HOK.out.2 (F2W.out.below hb6) HO.out
          injection hA with hA
          injection hA with hA hA'
          subst hA hA'
          simp only at c0
          have q2 := keepB hb6 r2
          have HP := Lib.hid (opNames_snoc hp)
          clear hp
          generalize p.name = pn at *
          cases he : (name.toList == pn.toList)
          · have e1 : (pn.toList == name.toList) = false := by rw [← he]; exact BEq.comm
            have HE := Lib.hid he
            clear he
            go_wp2_with fail
            go_quiet (fail)
            go_wp2
            go_roundw
            case rel => exact ⟨j + 1, by omega, by go_num, by rw [HP.out, hasStr_snoc, HNO.out, HE.out]; rfl, below_drewN hbr _⟩
            case measure => simp [intOf]; omega
          · have e1 : (pn.toList == name.toList) = true := by rw [← he]; exact BEq.comm
            have HF : Hid (isSgn ⟨s, ops⟩ = false) := isSgn_false fun h => by
              have h1 := (h.names k _ HO.out).2
              have h2 : hasStr (opNames (ops.take (j + 1))) name = true := by rw [HP.out, hasStr_snoc, he]; simp
              have h3 : hasStr (opNames (ops.take k)) name = true := by
                unfold hasStr at h2 ⊢
                obtain ⟨t, ht, hte⟩ := List.any_eq_true.1 h2
                refine List.any_eq_true.2 ⟨t, ?_, hte⟩
                obtain ⟨q, hq, rfl⟩ := List.mem_map.1 ht
                refine List.mem_map.2 ⟨q, ?_, rfl⟩
                have : ops.take (j + 1) = (ops.take k).take (j + 1) := by rw [List.take_take]; congr 1; omega
                rw [this] at hq
                exact List.mem_of_mem_take hq
              simp only at h1
              rw [h1] at h3
              cases h3
            clear he
            go_wp2_with fail
            go_quiet (fail)
            go_wp2
            go_ret
            exact ⟨ret_bool HF.out.symm, hbW.trans (below_drewN (hb6.mono hbW.size) _)⟩
        · obtain rfl : k = j := by omega
          go_wp2
          go_roundw
          case rel =>
            refine ⟨k + 1, by omega, by go_num, fun j o hj ho => ?_, hb6⟩
            by_cases hjk' : j = k
            · subst hjk'
              rw [HO.out] at ho
              injection ho with ho
              rw [← ho]
              exact ⟨⟨HIN.out, HNO.out⟩, HDE.out⟩
            · exact HALL.out j o (by omega) ho
          case measure => simp [intOf]; omega
    · obtain rfl : m = k := by omega
      have HDA : Hid (∀ o ∈ ops, DeclsOk s o) := fun o ho => by
        obtain ⟨i, hi⟩ := List.mem_iff_getElem?.1 ho
        exact (HALL.out i o (by have hil : i < ops.length := (List.getElem?_eq_some_iff.1 hi).1; have := HM.out; omega) hi).2
      go_wp2
      clear q0 q1 q2
      have hb4 := hb
      clear hb
      obtain ⟨wo, rfl⟩ : ∃ x : World, x = wr := ⟨_, rfl⟩
      go_loopw [5] (fun i wr => ∃ k : Nat, k ≤ m ∧ i = .int .i64 k ∧ (∀ (j : Nat) (o : Opr), j < k → ops[j]? = some o → AxOk ⟨s, ops⟩ o) ∧ Below W.heap.size W wr) (fun i _ => m - (intOf i).toNat)
      case atStart => exact ⟨0, Nat.zero_le _, rfl, fun j o h => by omega, hb4⟩
      case round =>
        obtain ⟨k, hk, rfl, hall, hb⟩ := hrel
        have HAX := Lib.hid hall
        clear hall
        have q0 := keepB hb r0
        have q1 := keepB hb r1
        have q2 := keepB hb r2
        by_cases hkn' : k < m
        · obtain ⟨o, ho⟩ : ∃ o, ops[k]? = some o := ⟨_, List.getElem?_eq_getElem (by have := HM.out; omega)⟩
          have HO := Lib.hid ho
          have HCA := Lib.hid (fun W h => specAxioms ⟨s, ops⟩ o k S [.slice Ag0 n cg0, .slice Ag1 ls cg1, .slice Ag2 m cg2] W HSO.out HOK.out h ho HDA.out)
          clear ho
          cases hax : axOk ⟨s, ops⟩ o
          · have HF : Hid (isSgn ⟨s, ops⟩ = false) := isSgn_false fun h => by have := axOk_true (h.axs o (List.mem_of_getElem? HO.out)); rw [hax] at this; cases this
            rw [hax] at HCA
            clear hax
            go_wp2_with (go_at_call 118; refine (HCA.out _ ?_).mono ?_; exact HVW.out.below hb; rintro e w3 ⟨rfl, hb3⟩)
            go_ret
            exact ⟨ret_bool HF.out.symm, hbW.trans ((hb.trans (hb3.mono hb.size)).mono hbW.size)⟩
          · have HAO := Lib.hid (axOk_iff.1 hax)
            rw [hax] at HCA
            clear hax
            go_wp2_with (go_at_call 118; refine (HCA.out _ ?_).mono ?_; exact HVW.out.below hb; rintro e w3 ⟨rfl, hb3⟩)
            go_roundw
            case rel =>
              refine ⟨k + 1, by omega, by go_num, fun j p hj hp => ?_, hb.trans (hb3.mono hb.size)⟩
              by_cases hjk : j = k
              · subst hjk
                rw [HO.out] at hp
                injection hp with hp
                rw [← hp]
                exact HAO.out
              · exact HAX.out j p (by omega) hp
            case measure => simp [intOf]; omega
        · obtain rfl : m = k := by omega
          have HF : Hid (isSgn ⟨s, ops⟩ = true) := isSgn_true ⟨HSO.out, by have := HM.out; simp only; omega, fun i o hi => (HALL.out i o (by have hil : i < ops.length := (List.getElem?_eq_some_iff.1 hi).1; have := HM.out; omega) hi).1, HDA.out, fun o ho => by
            obtain ⟨i, hi⟩ := List.mem_iff_getElem?.1 ho
            exact HAX.out i o (by have hil : i < ops.length := (List.getElem?_eq_some_iff.1 hi).1; have := HM.out; omega) hi⟩
          go_wp2
          go_ret
          exact ⟨ret_bool HF.out.symm, hbW.trans (hb.mono hbW.size)⟩
end Go.Proofs.Ytmpcbijkbgmjkaa

namespace Go.Proofs.Ytmpcbijkbgmjkaa
open Go.RowKit Go.Sort

set_option maxRecDepth 100000 in
theorem specPower (z k : Nat) (hz : z ≤ 4) (hk : k ≤ 3) (w : World) : Calls Try.prog 77 #[.int .i64 z, .int .i64 k] w fun e w' => e = .returned (.int .i64 ((z ^ k : Nat) : Int)) ∧ w = w' := by
  go_enter Try.func77, Try.ntmps77
  go_wp2
  go_loop [5, 6] (fun n i => ∃ j : Nat, j ≤ k ∧ i = .int .i64 j ∧ n = .int .i64 ((z ^ j : Nat) : Int)) (fun _ i => k - (intOf i).toNat)
  case atStart => exact ⟨0, Nat.zero_le _, rfl, by simp⟩
  case round =>
    obtain ⟨j, hj, rfl, rfl⟩ := hrel
    by_cases hjk : j < k
    · have hp := pow_le64 hz (show j ≤ 3 by omega)
      have HS := Lib.hid (Nat.pow_succ z j)
      generalize z ^ j = p at *
      obtain ⟨m1, m2⟩ := wrap_mul hp hz
      go_wp2
      go_round
      case rel => exact ⟨j + 1, by omega, by go_num, by rw [HS.out]; first | rfl | (simp only [Int.natCast_mul]; done) | simp [Int.natCast_mul]⟩
      case measure => simp [intOf]; omega
    · obtain rfl : k = j := by omega
      go_wp2
      go_ret
      exact ⟨rfl, rfl⟩

set_option maxHeartbeats 20000000 in
set_option maxRecDepth 100000 in
theorem specIsAlgebra : algC 45 := by
  intro g a S vs us w hokg hoka hvg hva
  obtain ⟨s, ops⟩ := g
  have hvg0 := hvg
  obtain ⟨g0, g1, g2, rfl, f0, f1, f2⟩ := repVals_Signature hvg
  obtain ⟨Ag0, cg0, rfl, _, _⟩ := f0.shape
  obtain ⟨Ag1, cg1, rfl, _, _⟩ := f1.shape
  obtain ⟨Ag2, cg2, rfl, hcg2, hmg2⟩ := f2.shape
  obtain ⟨z, tabs⟩ := a
  simp only [encAlg] at hva
  obtain ⟨v1, rfl, e1⟩ := repVals_Algebra hva
  obtain ⟨At, capt, rfl, hct, hmt⟩ := e1.shape
  have HOKG := Lib.hid hokg
  have HOKA := Lib.hid hoka
  have HVG := Lib.hid hvg0
  have F2 := Lib.hid f2
  have E1 := Lib.hid e1
  have hz64 : I64 z := hoka.1
  clear hvg hvg0 hva f0 f1 f2 e1 hokg hoka
  simp only at HVG F2 hcg2 hmg2
  simp only
  generalize s.names.length = n at *
  generalize s.subs.length = ls at *
  generalize hM : ops.length = m at *
  have HM := Lib.hid hM
  generalize hMT : tabs.length = mt at *
  have HMT := Lib.hid hMT
  clear hM hMT
  unfold maxLen at hmg2 hmt
  unfold I64 at hz64
  have HIS := Lib.hid (fun W h => specIsSignature ⟨s, ops⟩ S [.slice Ag0 n cg0, .slice Ag1 ls cg1, .slice Ag2 m cg2] W HOKG.out h)
  have HIN := Lib.hid (fun w => specIn z 1 4 w)
  go_enter Try.func45, Try.ntmps45
  go_wp2_with fail
  generalize hW : (w.alloc _).alloc _ = W0
  have hb0 : Below w.heap.size w W0 := by rw [← hW]; exact (by repeat' (first | exact Below.refl _ _ | refine below_drewN ?_ _ | refine Below.alloc ?_ (by first | exact Nat.le_refl _ | (simp; done) | (simp; omega)) _))
  have p0 : W0.cell? ⟨w.heap.size, 0, none⟩ = some (.slice Ag0 n cg0) := (by rw [← hW]; repeat' (first | (simp; done) | exact keepNew (by simp) rfl | refine keepA _ ?_))
  have p1 : W0.cell? ⟨w.heap.size, 1, none⟩ = some (.slice Ag1 ls cg1) := (by rw [← hW]; repeat' (first | (simp; done) | exact keepNew (by simp) rfl | refine keepA _ ?_))
  have p2 : W0.cell? ⟨w.heap.size, 2, none⟩ = some (.slice Ag2 m cg2) := (by rw [← hW]; repeat' (first | (simp; done) | exact keepNew (by simp) rfl | refine keepA _ ?_))
  have p3 : W0.cell? ⟨w.heap.size + 1, 0, none⟩ = some (.int .i64 z) := (by rw [← hW]; repeat' (first | (simp; done) | exact keepNew (by simp) rfl | refine keepA _ ?_))
  have p4 : W0.cell? ⟨w.heap.size + 1, 1, none⟩ = some (.slice At mt capt) := (by rw [← hW]; repeat' (first | (simp; done) | exact keepNew (by simp) rfl | refine keepA _ ?_))
  clear hW
  generalize w.heap.size + 1 = g3 at *
  by_cases hs : SgnOk ⟨s, ops⟩
  rotate_left
  · have HF : Hid (isAlg ⟨s, ops⟩ ⟨z, tabs⟩ = false) := isAlg_false fun h => hs h.sgn
    rw [isSgn_false hs] at HIS
    clear hs
    refine (HIS.out _ (HVG.out.below hb0)).mono ?_
    rintro e w2 ⟨rfl, hb2⟩
    go_wp2
    go_ret
    exact ⟨ret_bool HF.out.symm, hb0.trans (hb2.mono hb0.size)⟩
  rw [isSgn_true hs] at HIS
  have HSO := Lib.hid hs
  clear hs
  refine (HIS.out _ (HVG.out.below hb0)).mono ?_
  rintro e W ⟨rfl, hb2⟩
  have hbW : Below w.heap.size w W := hb0.trans (hb2.mono hb0.size)
  have r0 := keepB hb2 p0
  have r1 := keepB hb2 p1
  have r2 := keepB hb2 p2
  have r3 := keepB hb2 p3
  have r4 := keepB hb2 p4
  have F2W := Lib.hid (F2.out.below hbW)
  have E1W := Lib.hid (E1.out.below hbW)
  clear p0 p1 p2 p3 p4 F2 E1 HVG HIS hb0 hb2
  by_cases hz : 1 ≤ z ∧ z ≤ 4
  rotate_left
  · have HF : Hid (isAlg ⟨s, ops⟩ ⟨z, tabs⟩ = false) := isAlg_false fun h => hz ⟨h.lo, h.hi⟩
    rw [decide_eq_false hz] at HIN
    clear hz
    go_wp2_with (go_at_call 69; refine (HIN.out _).mono ?_; rintro e w4 ⟨rfl, rfl⟩)
    go_ret
    exact ⟨ret_bool HF.out.symm, hbW⟩
  rw [decide_eq_true hz] at HIN
  by_cases hmm : mt = m
  rotate_left
  · have HF : Hid (isAlg ⟨s, ops⟩ ⟨z, tabs⟩ = false) := isAlg_false fun h => hmm (by have := h.len; have := HM.out; have := HMT.out; simp only at *; omega)
    have n1 : (mt == m) = false := by simp [hmm]
    have n2 : ((mt : Int) == (m : Int)) = false := by simp; omega
    have n3 : ((mt : Int) != (m : Int)) = true := by simp; omega
    go_wp2_with (go_at_call 69; refine (HIN.out _).mono ?_; rintro e w4 ⟨rfl, rfl⟩)
    go_ret
    exact ⟨ret_bool HF.out.symm, hbW⟩
  obtain rfl : m = mt := hmm.symm
  have n1 : (m == m) = true := by simp
  obtain ⟨zn, rfl⟩ := Int.eq_ofNat_of_zero_le (show 0 ≤ z by omega)
  go_wp2_with (go_at_call 69; refine (HIN.out _).mono ?_; rintro e w4 ⟨rfl, rfl⟩)
  clear HIN n1
  go_loopw [5] (fun i wr => ∃ k : Nat, k ≤ m ∧ i = .int .i64 k ∧ (∀ (j : Nat) (o : Opr) (d : Dcl) (t : List Int), j < k → ops[j]? = some o → o.decls[0]? = some d → tabs[j]? = some t → TabOk zn d.args.length t) ∧ Below W.heap.size W wr) (fun i _ => m - (intOf i).toNat)
  case atStart => exact ⟨0, Nat.zero_le _, rfl, fun j o d t h => by omega, Below.refl _ _⟩
  case round =>
    obtain ⟨k, hk, rfl, hall, hb⟩ := hrel
    have HALL := Lib.hid hall
    clear hall
    have q2 := keepB hb r2
    have q3 := keepB hb r3
    have q4 := keepB hb r4
    by_cases hkn : k < m
    · obtain ⟨o, ho⟩ : ∃ o, ops[k]? = some o := ⟨_, List.getElem?_eq_getElem (by have := HM.out; omega)⟩
      obtain ⟨t, ht⟩ : ∃ t, tabs[k]? = some t := ⟨_, List.getElem?_eq_getElem (by have := HMT.out; omega)⟩
      obtain ⟨d, hd, hdd⟩ := (HSO.out.decls o (List.mem_of_getElem? ho)).first
      have har := (HSO.out.decls o (List.mem_of_getElem? ho)).ar d hd
      have HOO := Lib.hid (HOKG.out.2 o (List.mem_of_getElem? ho))
      have HTO := Lib.hid (HOKA.out.2 t (List.mem_of_getElem? ht))
      obtain ⟨b, off, vd, rfl, hbz, c0, c1, c2, c3, c4, rd⟩ := Rep.opAt HOKG.out.2 (F2W.out.below hb) ho
      obtain ⟨bt, ot, Ax, cx, rfl, hbt, x0, hx1, hx2, rt⟩ := Rep.intsAt HOKA.out.2 (E1W.out.below hb) ht
      have HO := Lib.hid ho
      have HT := Lib.hid ht
      have HD := Lib.hid hd
      obtain ⟨name, decls, ac, cm, un⟩ := o
      simp only at c0 c2 c3 c4 rd hd
      have hrv : RepVals wr S (encOpr ⟨name, decls, ac, cm, un⟩) [.string name, vd, .bool ac, .bool cm, .int .i64 un] := by simp only [encOpr, RepVals, Rep.lit_iff, and_true, true_and]; exact rd
      obtain ⟨Ad, capd, rfl, _, _⟩ := rd.shape
      have HRV := Lib.hid hrv
      have RT := Lib.hid rt
      clear ho ht hd hdd rd hrv rt
      generalize decls.length = ld at *
      have HCA : Hid (∀ dd os, Calls Try.prog 78 #[.agg #[.string name, .slice Ad ld capd, .bool ac, .bool cm, .int .i64 un]] (grow (redrawn wr dd) os) fun e w'' => e = .returned (.int .i64 d.args.length) ∧ ∃ p : Regrown, w'' = grow (redrawn wr p.d) p.os) := fun dd os =>
        Calls.regrown_of (specArity ⟨name, decls, ac, cm, un⟩ d S _ _ HOO.out (HRV.out.below (below_regrown wr dd os)) HD.out)
      have HCP : Hid (∀ dd os, Calls Try.prog 77 #[.int .i64 zn, .int .i64 d.args.length] (grow (redrawn wr dd) os) fun e w'' => e = .returned (.int .i64 ((zn ^ d.args.length : Nat) : Int)) ∧ ∃ p : Regrown, w'' = grow (redrawn wr p.d) p.os) := fun dd os =>
        Calls.regrown_of ((specPower zn d.args.length (by omega) har _).mono fun e w' h => ⟨h.1, by rw [← h.2]; exact Below.refl _ _⟩)
      have k2 := cell_regrown q2
      have k3 := cell_regrown q3
      have k4 := cell_regrown q4
      have y0 := cell_regrown c0
      have y1 := cell_regrown c1
      have y2 := cell_regrown c2
      have y3 := cell_regrown c3
      have y4 := cell_regrown c4
      have y5 := cell_regrown x0
      have hpw := pow_le64 (show zn ≤ 4 by omega) har
      have HLT := Lib.hid (rfl : t.length = t.length)
      generalize hLT : t.length = lt at *
      have HLT2 := Lib.hid hLT
      clear hLT HLT har
      have HDD := Lib.hid (rfl : d.args.length = d.args.length)
      generalize hDL : d.args.length = dl at *
      have HDL := Lib.hid hDL
      clear hDL HDD
      generalize hPW : zn ^ dl = pw at *
      have HPW := Lib.hid hPW
      clear hPW
      unfold maxLen at hx2
      by_cases hlen : lt = pw
      rotate_left
      · have HF : Hid (isAlg ⟨s, ops⟩ ⟨zn, tabs⟩ = false) := isAlg_false fun h => hlen (by have := (h.tab k _ d t HO.out HD.out HT.out).len; rw [HLT2.out, HDL.out] at this; simpa [HPW.out] using this)
        have n1 : (lt == pw) = false := by simp [hlen]
        have n2 : ((lt : Int) == (pw : Int)) = false := by simp; omega
        have n3 : ((lt : Int) != (pw : Int)) = true := by simp; omega
        go_wp2_with fail
        (refine wp_region_quiet_below (by kernel_rfl) (by kernel_rfl) ?_
         repeat (first | go_big_quiet_step (first | (go_at_call 78; exact HCA.out _ _) | (go_at_call 77; exact HCP.out _ _)) | quiet_step (first | (go_at_call 78; exact HCA.out _ _) | (go_at_call 77; exact HCP.out _ _)))
         refine wpQuiet_nil ?_
         intro _ hw'
         obtain ⟨⟨dq, osq⟩, hw''⟩ := hw'
         subst hw'')
        go_wp2
        go_ret
        exact ⟨ret_bool HF.out.symm, hbW.trans ((hb.trans ((below_regrown wr dq osq).mono hb.size)).mono hbW.size)⟩
      obtain rfl : lt = pw := hlen
      go_wp2_with fail
      (refine wp_region_quiet_below (by kernel_rfl) (by kernel_rfl) ?_
       repeat (first | go_big_quiet_step (first | (go_at_call 78; exact HCA.out _ _) | (go_at_call 77; exact HCP.out _ _)) | quiet_step (first | (go_at_call 78; exact HCA.out _ _) | (go_at_call 77; exact HCP.out _ _)))
       refine wpQuiet_nil ?_
       intro _ hw'
       obtain ⟨⟨dq, osq⟩, hw''⟩ := hw'
       subst hw'')
      have hb5 : Below W.heap.size W (grow (redrawn wr dq) osq) := hb.trans ((below_regrown wr dq osq).mono hb.size)
      have RT5 := Lib.hid (RT.out.below (below_regrown wr dq osq))
      have y6 := y5 dq osq
      clear k2 k3 k4 y0 y1 y2 y3 y4 y5 q2 q3 q4 c0 c1 c2 c3 c4 HCA HCP HRV hb hbz x0 hbt RT
      generalize grow (redrawn wr dq) osq = W5 at *
      go_wp2
      obtain ⟨wo, rfl⟩ : ∃ x : World, x = wr := ⟨_, rfl⟩
      go_loopw [6] (fun i wr => ∃ j : Nat, j ≤ lt ∧ i = .int .i64 j ∧ (∀ (i : Nat) (x : Int), i < j → t[i]? = some x → 0 ≤ x ∧ x < (zn : Int)) ∧ Below W5.heap.size W5 wr) (fun i _ => lt - (intOf i).toNat)
      case atStart => exact ⟨0, Nat.zero_le _, rfl, fun i x h => by omega, Below.refl _ _⟩
      case round =>
        obtain ⟨j, hj, rfl, hno, hbr⟩ := hrel
        have HNO := Lib.hid hno
        clear hno
        have hb6 : Below W.heap.size W wr := hb5.trans (hbr.mono hb5.size)
        have q3 := keepB hb6 r3
        have q4 := keepB hb6 r4
        have y7 := keepB hbr y6
        by_cases hjk : j < lt
        · obtain ⟨x, hx⟩ : ∃ x, t[j]? = some x := ⟨_, List.getElem?_eq_getElem (by have := HLT2.out; omega)⟩
          obtain ⟨bx, ox, rfl, hbx, cx0⟩ := Rep.int HTO.out (RT5.out.below hbr) hx
          have HX := Lib.hid hx
          clear hx
          have HCI := Lib.hid (fun w => specInR zn x w)
          by_cases hxr : 0 ≤ x ∧ x < (zn : Int)
          · rw [inR_true hxr] at HCI
            go_wp2_with fail
            have hwr : IntKind.i64.wrap ((zn : Int) - 1) = (zn : Int) - 1 := IntWalk.i64_in _ (by omega)
            go_quiet (first | (go_at_call 69; exact quietC (fun n => HCI.out _) _))
            clear hwr
            go_wp2
            go_roundw
            case rel =>
              refine ⟨j + 1, by omega, by go_num, fun i y hi hy => ?_, below_drewN hbr _⟩
              by_cases hij : i = j
              · subst hij
                rw [HX.out] at hy
                injection hy with hy
                rw [← hy]
                exact hxr
              · exact HNO.out i y (by omega) hy
            case measure => simp [intOf]; omega
          · have HF : Hid (isAlg ⟨s, ops⟩ ⟨zn, tabs⟩ = false) := isAlg_false fun h => hxr ((h.tab k _ d t HO.out HD.out HT.out).all x (List.mem_of_getElem? HX.out))
            rw [inR_false hxr] at HCI
            clear hxr
            go_wp2_with fail
            have hwr : IntKind.i64.wrap ((zn : Int) - 1) = (zn : Int) - 1 := IntWalk.i64_in _ (by omega)
            go_quiet (first | (go_at_call 69; exact quietC (fun n => HCI.out _) _))
            go_wp2
            go_ret
            exact ⟨ret_bool HF.out.symm, hbW.trans (below_drewN (hb6.mono hbW.size) _)⟩
        · obtain rfl : lt = j := by omega
          go_wp2
          go_roundw
          case rel =>
            refine ⟨k + 1, by omega, by go_num, fun j o' d' t' hj ho hd ht => ?_, hb6⟩
            by_cases hjk' : j = k
            · subst hjk'
              rw [HO.out] at ho
              injection ho with ho
              subst ho
              rw [HD.out] at hd
              injection hd with hd
              subst hd
              rw [HT.out] at ht
              injection ht with ht
              subst ht
              refine ⟨by rw [HLT2.out, HDL.out]; simp [HPW.out], fun x hx => ?_⟩
              obtain ⟨i, hi⟩ := List.mem_iff_getElem?.1 hx
              exact HNO.out i x (by have hil := (List.getElem?_eq_some_iff.1 hi).1; rw [HLT2.out] at hil; exact hil) hi
            · exact HALL.out j o' d' t' (by omega) ho hd ht
          case measure => simp [intOf]; omega
    · obtain rfl : m = k := by omega
      have HF : Hid (isAlg ⟨s, ops⟩ ⟨zn, tabs⟩ = true) := isAlg_true ⟨HSO.out, hz.1, hz.2, by have := HM.out; have := HMT.out; simp only; omega, fun i o d t ho hd ht => HALL.out i o d t (by have hil : i < ops.length := (List.getElem?_eq_some_iff.1 ho).1; have := HM.out; omega) ho hd ht⟩
      go_wp2
      go_ret
      exact ⟨ret_bool HF.out.symm, hbW.trans (hb.mono hbW.size)⟩
end Go.Proofs.Ytmpcbijkbgmjkaa

namespace Go.Proofs.Ytmpcbijkbgmjkaa
open Go.RowKit

def headS : List Nat → List (Nat × A) → List (Nat × A)
  | _, [] => []
  | ds, (k, a) :: r => if ds.elem k then headS ds r else (k, a) :: headS (k :: ds) r
def headM : List Nat → List (Nat × Bk) → List (Nat × Bk)
  | _, [] => []
  | ds, (k, a) :: r => if ds.elem k then headM ds r else (k, a) :: headM (k :: ds) r
theorem weakS_of {s t : List (Nat × A)} (h : ∀ p ∈ t, gs s p.1 = p.2) : weakS s t := by
  induction t with
  | nil => exact trivial
  | cons p r ih => exact ⟨h p List.mem_cons_self, ih fun q hq => h q (List.mem_cons_of_mem _ hq)⟩
theorem weakM_of {s t : List (Nat × Bk)} (h : ∀ p ∈ t, gm s p.1 = some p.2) : weakM s t := by
  induction t with
  | nil => exact trivial
  | cons p r ih => exact ⟨h p List.mem_cons_self, ih fun q hq => h q (List.mem_cons_of_mem _ hq)⟩
theorem headS_mem : ∀ {s : List (Nat × A)} {ds : List Nat} {p : Nat × A}, p ∈ headS ds s → ds.elem p.1 = false ∧ gs s p.1 = p.2 := by
  intro s
  induction s with
  | nil => intro ds p h; cases h
  | cons q r ih =>
    intro ds p h
    obtain ⟨k, a⟩ := q
    simp only [headS] at h
    by_cases hk : ds.elem k = true
    · rw [if_pos hk] at h
      have := ih h
      refine ⟨this.1, ?_⟩
      rw [gs, if_neg ?_]
      · exact this.2
      · intro e; rw [e] at this; rw [hk] at this; cases this.1
    · rw [if_neg hk] at h
      rcases List.mem_cons.1 h with rfl | h
      · exact ⟨by simpa using hk, by simp [gs]⟩
      · have := ih h
        have h1 := this.1
        rw [List.elem_cons] at h1
        have hne : ¬ p.1 = k := by intro e; simp [e] at h1
        refine ⟨?_, ?_⟩
        · cases hb : (p.1 == k) with
          | true => rw [hb] at h1; cases h1
          | false => rw [hb] at h1; exact h1
        · rw [gs, if_neg hne]; exact this.2
theorem headM_mem : ∀ {s : List (Nat × Bk)} {ds : List Nat} {p : Nat × Bk}, p ∈ headM ds s → ds.elem p.1 = false ∧ gm s p.1 = some p.2 := by
  intro s
  induction s with
  | nil => intro ds p h; cases h
  | cons q r ih =>
    intro ds p h
    obtain ⟨k, a⟩ := q
    simp only [headM] at h
    by_cases hk : ds.elem k = true
    · rw [if_pos hk] at h
      have := ih h
      refine ⟨this.1, ?_⟩
      rw [gm, if_neg ?_]
      · exact this.2
      · intro e; rw [e] at this; rw [hk] at this; cases this.1
    · rw [if_neg hk] at h
      rcases List.mem_cons.1 h with rfl | h
      · exact ⟨by simpa using hk, by simp [gm]⟩
      · have := ih h
        have h1 := this.1
        rw [List.elem_cons] at h1
        have hne : ¬ p.1 = k := by intro e; simp [e] at h1
        refine ⟨?_, ?_⟩
        · cases hb : (p.1 == k) with
          | true => rw [hb] at h1; cases h1
          | false => rw [hb] at h1; exact h1
        · rw [gm, if_neg hne]; exact this.2
theorem weakS_append {s a b : List (Nat × A)} : weakS s (a ++ b) ↔ weakS s a ∧ weakS s b := by
  induction a with
  | nil => simp [weakS]
  | cons p r ih => simp [weakS, ih, and_assoc]
theorem weakM_append {s a b : List (Nat × Bk)} : weakM s (a ++ b) ↔ weakM s a ∧ weakM s b := by
  induction a with
  | nil => simp [weakM]
  | cons p r ih => simp [weakM, ih, and_assoc]
/-- A loop: at its head the slots are as ahead of it, but for those of ds, which are as us says. -/
theorem pwp_loopU {e : Env} {mask : Nat} {Q : PX → St → Prop} {c : Code} {s : List (Nat × A)} {m : List (Nat × Bk)} {ι : Type} (ds dm : List Nat) (us : ι → List (Nat × A)) (ms : ι → List (Nat × Bk)) (ok : ι → Prop) (μ : ι → Nat) (x0 : ι)
    {s0 : List (Nat × A)} {m0 : List (Nat × Bk)} (hs0 : headS ds s = s0) (hm0 : headM dm m = m0) {ss : ι → List (Nat × A)} {mm : ι → List (Nat × Bk)} (hss : ∀ x, us x ++ s0 = ss x) (hmm : ∀ x, ms x ++ m0 = mm x) (hs : weakS s (us x0)) (hm : weakM m (ms x0)) (h0 : ok x0)
    (hr : ∀ x, ok x → pwp e mask c ⟨ss x, mm x⟩ (fun p σ'' => match p with
      | .normal => ∃ y, ok y ∧ weakS σ''.s (ss y) ∧ weakM σ''.m (mm y) ∧ μ y < μ x
      | p => Q p σ'')) : pwp e mask (.loop c) ⟨s, m⟩ Q := by
  refine pwp_loop (fun x => ⟨ss x, mm x⟩) ok μ x0 h0 ?_ ?_ hr
  · show weakS s (ss x0)
    rw [← hss, weakS_append, ← hs0]
    exact ⟨hs, weakS_of fun p hp => (headS_mem hp).2⟩
  · show weakM m (mm x0)
    rw [← hmm, weakM_append, ← hm0]
    exact ⟨hm, weakM_of fun p hp => (headM_mem hp).2⟩
/-- What the first part of a code ends in, told by changes of the state ahead. -/
theorem pwp_toU {e : Env} {mask : Nat} {Q : PX → St → Prop} {a b : Code} {s : List (Nat × A)} {m : List (Nat × Bk)} {ι : Type} (ds dm : List Nat) (us : ι → List (Nat × A)) (ms : ι → List (Nat × Bk)) (R : ι → Prop)
    {s0 : List (Nat × A)} {m0 : List (Nat × Bk)} (hs0 : headS ds s = s0) (hm0 : headM dm m = m0) {ss : ι → List (Nat × A)} {mm : ι → List (Nat × Bk)} (hss : ∀ x, us x ++ s0 = ss x) (hmm : ∀ x, ms x ++ m0 = mm x)
    (h : pwp e mask a ⟨s, m⟩ (fun x σ' => match x with
      | .normal => ∃ y, R y ∧ weakS σ'.s (ss y) ∧ weakM σ'.m (mm y)
      | x => Q x σ')) (hb : ∀ x, R x → pwp e mask b ⟨ss x, mm x⟩ Q) : pwp e mask (.seq a b) ⟨s, m⟩ Q := by
  simp only [pwp]
  refine pwp_mono (fun p σ' hq => ?_) a _ h
  cases p with
  | normal =>
    obtain ⟨y, h1, h2, h3⟩ := hq
    exact ⟨⟨ss y, mm y⟩, ⟨fun t => gs_weakS h2, fun t x => gm_weakM h3⟩, hb y h1⟩
  | exit id => exact hq
  | ret => exact hq
end Go.Proofs.Ytmpcbijkbgmjkaa

namespace Go.Proofs.Ytmpcbijkbgmjkaa
open Go.RowKit

theorem okC.cell : ∀ {f : F} {c : C}, okC f c → okCell c = true
  | .int, .lit v, h => by obtain ⟨n, rfl, _⟩ := h; rfl
  | .str, .lit v, h => by obtain ⟨n, rfl, _⟩ := h; rfl
  | .bool, .lit v, h => by obtain ⟨n, rfl⟩ := h; rfl
  | .sl t, .sl rows, h => rfl
  | .int, .sl _, h => False.elim h
  | .str, .sl _, h => False.elim h
  | .bool, .sl _, h => False.elim h
  | .sl _, .lit _, h => False.elim h
  | f, .ptr _, h => by cases f <;> exact False.elim h
  | f, .fn _ _, h => by cases f <;> exact False.elim h
theorem okRow.cells : ∀ {fs : List F} {cs : List C}, okRow fs cs → cs.all okCell = true
  | [], [], _ => rfl
  | f :: fs, c :: cs, h => by
    simp only [okRow] at h
    rw [List.all_cons, h.1.cell, okRow.cells h.2]
    rfl
  | [], _ :: _, h => by simp [okRow] at h
  | _ :: _, [], h => by simp [okRow] at h
theorem okRow.take {fs : List F} {cs : List C} (h : okRow fs cs) {n : Nat} (hn : fs.length = n) : cs.length = n ∧ cs.take n = cs ∧ cs.drop n = [] := by
  have := h.len
  refine ⟨by omega, ?_, ?_⟩
  · rw [List.take_of_length_le (by omega)]
  · rw [List.drop_eq_nil_of_le (by omega)]
theorem RepVals.inside' {w : World} {S : Nat → Prop} : ∀ {cs : List C} {us : List Value}, RepVals w S cs us → RepVals w (fun b => b < w.heap.size) cs us
  | [], [], _ => by simp [RepVals]
  | c :: cs, u :: us, h => by
    simp only [RepVals] at h ⊢
    exact ⟨(Rep.inside c u h.1).mono (fun b hb => hb.2), RepVals.inside' h.2⟩
  | [], _ :: _, h => by simp [RepVals] at h
  | _ :: _, [], h => by simp [RepVals] at h
theorem drop0 {α : Type} (l : List α) : l.drop 0 = l := rfl
end Go.Proofs.Ytmpcbijkbgmjkaa

namespace Go.Proofs.Ytmpcbijkbgmjkaa
open Go.RowKit

theorem con_szSignature {row : List C} (hok : okRow (sigF) row) {left : Int} (h0 : 0 ≤ left) (h1 : left ≤ 1048576) : Con e0 17 [.agg row, .one (.lit (.int .i64 left))] [.one (.lit (.int .i64 (sub left (bulkRow row))))] := by
  refine con_below e0_ok (by kernel_rfl) fun w S vs h => ?_
  match vs, h with
  | [v, u], h =>
    obtain ⟨⟨us, rfl, hu⟩, h2, _⟩ := h
    have h2 : u = .int .i64 left := by simpa [DRel, Rep] using h2
    subst h2
    exact (szSignature_any row S us left w hok hu h0 h1).mono fun e w' ⟨h1, h2⟩ => ⟨_, h1, h2, by simp [retA, ARel, DRel, Rep]⟩
theorem con_toSignature {row : List C} (hok : okRow (sigF) row) (hb : bulkRow row ≤ 1048576) : Con e0 20 [.agg row] [.agg row] := by
  refine con_below e0_ok (by kernel_rfl) fun w S vs h => ?_
  match vs, h with
  | [v], h =>
    obtain ⟨⟨us, rfl, hu⟩, _⟩ := h
    exact (toSignature_any row S us w hok hu hb).mono fun e w' ⟨us', h1, h2, h3⟩ => ⟨_, h1, h3, us', rfl, OwnVals.rep row _ _ us' (fun x hx => .inr hx) h2⟩
theorem con_eqSignature {row : List C} (hok : okRow (sigF) row) : Con e0 23 [.agg row, .agg row] [.one (.lit (.bool true))] := by
  refine con_below e0_ok (by kernel_rfl) fun w S vs h => ?_
  match vs, h with
  | [v, u], h =>
    obtain ⟨⟨us, rfl, hu⟩, ⟨us', rfl, hu'⟩, _⟩ := h
    exact (eqSignature_any row S S us us' w hok hu hu').mono fun e w' ⟨h1, h2⟩ => ⟨_, h1, h2, by simp [retA, ARel, DRel, Rep]⟩
end Go.Proofs.Ytmpcbijkbgmjkaa

namespace Go.Proofs.Ytmpcbijkbgmjkaa
open Go.RowKit

theorem con_szAlgebra {row : List C} (hok : okRow (algF) row) {left : Int} (h0 : 0 ≤ left) (h1 : left ≤ 1048576) : Con e0 18 [.agg row, .one (.lit (.int .i64 left))] [.one (.lit (.int .i64 (sub left (bulkRow row))))] := by
  refine con_below e0_ok (by kernel_rfl) fun w S vs h => ?_
  match vs, h with
  | [v, u], h =>
    obtain ⟨⟨us, rfl, hu⟩, h2, _⟩ := h
    have h2 : u = .int .i64 left := by simpa [DRel, Rep] using h2
    subst h2
    exact (szAlgebra_any row S us left w hok hu h0 h1).mono fun e w' ⟨h1, h2⟩ => ⟨_, h1, h2, by simp [retA, ARel, DRel, Rep]⟩
theorem con_toAlgebra {row : List C} (hok : okRow (algF) row) (hb : bulkRow row ≤ 1048576) : Con e0 21 [.agg row] [.agg row] := by
  refine con_below e0_ok (by kernel_rfl) fun w S vs h => ?_
  match vs, h with
  | [v], h =>
    obtain ⟨⟨us, rfl, hu⟩, _⟩ := h
    exact (toAlgebra_any row S us w hok hu hb).mono fun e w' ⟨us', h1, h2, h3⟩ => ⟨_, h1, h3, us', rfl, OwnVals.rep row _ _ us' (fun x hx => .inr hx) h2⟩
theorem con_eqAlgebra {row : List C} (hok : okRow (algF) row) : Con e0 24 [.agg row, .agg row] [.one (.lit (.bool true))] := by
  refine con_below e0_ok (by kernel_rfl) fun w S vs h => ?_
  match vs, h with
  | [v, u], h =>
    obtain ⟨⟨us, rfl, hu⟩, ⟨us', rfl, hu'⟩, _⟩ := h
    exact (eqAlgebra_any row S S us us' w hok hu hu').mono fun e w' ⟨h1, h2⟩ => ⟨_, h1, h2, by simp [retA, ARel, DRel, Rep]⟩
end Go.Proofs.Ytmpcbijkbgmjkaa

namespace Go.Proofs.Ytmpcbijkbgmjkaa
open Go.RowKit
set_option maxHeartbeats 40000000 in
set_option maxRecDepth 100000 in
theorem con_lawObeysAxioms {row0 : List C} (hok0 : okRow (sigF) row0) {row1 : List C} (hok1 : okRow (algF) row1) {R0 : Bool} (hsp0 : bulkRow row0 ≤ 1048576 → bulkRow row1 ≤ 1048576 → Con e0 19 [.agg row0, .agg row1] [.one (.lit (.bool R0))]) (him0 : bulkRow row0 ≤ 1048576 → bulkRow row1 ≤ 1048576 → Con e0 22 [.agg row0, .agg row1] [.one (.lit (.bool R0))]) : Con e0 4 [.agg row0, .agg row1] [.one (.lit (.bool true))] := by
  have okc0 := hok0.cells
  obtain ⟨len0, tk0, dr0⟩ := hok0.take (n := 3) rfl
  have okc1 := hok1.cells
  obtain ⟨len1, tk1, dr1⟩ := hok1.take (n := 2) rfl
  refine con_of_pwp e0_ok 18159122269183 Try.func4 rfl (by kernel_rfl) (by kernel_rfl) rfl rfl ?_
  (repeat (first
    | (with_reducible refine pwp_seq ?_)
    | (with_reducible refine pwp_block ?_)
    | ((with_reducible refine pwp_skip ?_); first | (change pwp _ _ _ _ _) | skip)
    | ((with_reducible refine pwp_exit ?_); first | (change pwp _ _ _ _ _) | skip)
    | ((with_reducible refine pwp_ct ?_ ?_); · simp only [evA, constA, gs, Nat.reduceEqDiff, ↓reduceIte])
    | ((with_reducible refine pwp_cf ?_ ?_); · simp only [evA, constA, gs, Nat.reduceEqDiff, ↓reduceIte])
    | (refine region_0 (by simp only [List.map_cons, List.map_nil]; exact rfl) (runs_end (by simp only [tt_0, tt_1, tt_2, tt_3, tt_4, tt_5, tt_6, tt_7, pm_0, pm_1, pm_2, pm_3, pm_4, pm_5, pm_6, pm_7, e0P, gs, gm, initS, rb_int, rb_str, rb_sub, rb_dcl, rb_opr, rb_ints, rowsB_nil, rowsB_cons, bqtt, bqtf, bqft, bqff, List.map_cons, List.map_nil, List.getElem?_cons_zero, List.getElem?_cons_succ, List.getElem?_map, Option.map_some, Option.map_none, Option.join_some, Option.getD_some, Option.isNone_none, Option.isNone_some, Option.isSome_none, Option.isSome_some, List.drop_succ_cons, List.drop_zero, List.drop_nil, List.take_succ_cons, List.take_zero, List.length_cons, List.length_nil, List.length_map, List.length_append, List.all_cons, List.all_nil, List.isEmpty_cons, List.isEmpty_nil, List.cons_append, List.nil_append, List.append_nil, Bool.and_self, Bool.or_true, Bool.true_or, Bool.or_false, Bool.false_or, ↓reduceIte, Nat.reduceEqDiff, Nat.reduceAdd, Nat.reduceSub, Nat.reduceMul, Nat.reduceLeDiff, Nat.reduceBEq, Nat.zero_add, Nat.add_zero, and_self, true_and, and_true, Bool.not_true, Bool.not_false, Bool.false_eq_true, decide_true, decide_false, natInt, Int.natCast_nonneg, Int.toNat_zero, Int.toNat_one, Int.reduceLE, Int.reduceToNat, Int.reduceLT, Int.reduceEq, eq_self, Nat.le_refl, okc0, len0, tk0, dr0, okc1, len1, tk1, dr1, drop0]; exact rfl) (by simp only [trimS, Nat.testBit, Nat.reduceShiftRight, Nat.reduceAnd, Nat.reduceBneDiff, Nat.reduceBEq, bne, Bool.not_true, Bool.not_false, ↓reduceIte, Bool.false_eq_true]; exact rfl) ?_); first | (change pwp _ _ _ _ _) | skip)
    | (refine region_D 5 (by kernel_rfl) (by simp only [List.map_cons, List.map_nil]; exact rfl) (runs_end (by simp only [tt_0, tt_1, tt_2, tt_3, tt_4, tt_5, tt_6, tt_7, pm_0, pm_1, pm_2, pm_3, pm_4, pm_5, pm_6, pm_7, e0P, gs, gm, initS, rb_int, rb_str, rb_sub, rb_dcl, rb_opr, rb_ints, rowsB_nil, rowsB_cons, bqtt, bqtf, bqft, bqff, List.map_cons, List.map_nil, List.getElem?_cons_zero, List.getElem?_cons_succ, List.getElem?_map, Option.map_some, Option.map_none, Option.join_some, Option.getD_some, Option.isNone_none, Option.isNone_some, Option.isSome_none, Option.isSome_some, List.drop_succ_cons, List.drop_zero, List.drop_nil, List.take_succ_cons, List.take_zero, List.length_cons, List.length_nil, List.length_map, List.length_append, List.all_cons, List.all_nil, List.isEmpty_cons, List.isEmpty_nil, List.cons_append, List.nil_append, List.append_nil, Bool.and_self, Bool.or_true, Bool.true_or, Bool.or_false, Bool.false_or, ↓reduceIte, Nat.reduceEqDiff, Nat.reduceAdd, Nat.reduceSub, Nat.reduceMul, Nat.reduceLeDiff, Nat.reduceBEq, Nat.zero_add, Nat.add_zero, and_self, true_and, and_true, Bool.not_true, Bool.not_false, Bool.false_eq_true, decide_true, decide_false, natInt, Int.natCast_nonneg, Int.toNat_zero, Int.toNat_one, Int.reduceLE, Int.reduceToNat, Int.reduceLT, Int.reduceEq, eq_self, Nat.le_refl, okc0, len0, tk0, dr0, okc1, len1, tk1, dr1, drop0]; exact rfl) (by simp only [trimS, Nat.testBit, Nat.reduceShiftRight, Nat.reduceAnd, Nat.reduceBneDiff, Nat.reduceBEq, bne, Bool.not_true, Bool.not_false, ↓reduceIte, Bool.false_eq_true]; exact rfl) ?_); first | (change pwp _ _ _ _ _) | skip)
    ))
  have hL0_0 : (0 : Int) ≤ 1048576 := by omega
  have hL0_1 : (1048576 : Int) ≤ 1048576 := by omega
  (first
    | (refine region_0 (by simp only [List.map_cons, List.map_nil]; exact rfl) ?_)
    | (refine region_D 5 (by kernel_rfl) (by simp only [List.map_cons, List.map_nil]; exact rfl) ?_)
    )
  (refine runs_go (by simp only [tt_0, tt_1, tt_2, tt_3, tt_4, tt_5, tt_6, tt_7, pm_0, pm_1, pm_2, pm_3, pm_4, pm_5, pm_6, pm_7, e0P, gs, gm, initS, rb_int, rb_str, rb_sub, rb_dcl, rb_opr, rb_ints, rowsB_nil, rowsB_cons, bqtt, bqtf, bqft, bqff, List.map_cons, List.map_nil, List.getElem?_cons_zero, List.getElem?_cons_succ, List.getElem?_map, Option.map_some, Option.map_none, Option.join_some, Option.getD_some, Option.isNone_none, Option.isNone_some, Option.isSome_none, Option.isSome_some, List.drop_succ_cons, List.drop_zero, List.drop_nil, List.take_succ_cons, List.take_zero, List.length_cons, List.length_nil, List.length_map, List.length_append, List.all_cons, List.all_nil, List.isEmpty_cons, List.isEmpty_nil, List.cons_append, List.nil_append, List.append_nil, Bool.and_self, Bool.or_true, Bool.true_or, Bool.or_false, Bool.false_or, ↓reduceIte, Nat.reduceEqDiff, Nat.reduceAdd, Nat.reduceSub, Nat.reduceMul, Nat.reduceLeDiff, Nat.reduceBEq, Nat.zero_add, Nat.add_zero, and_self, true_and, and_true, Bool.not_true, Bool.not_false, Bool.false_eq_true, decide_true, decide_false, natInt, Int.natCast_nonneg, Int.toNat_zero, Int.toNat_one, Int.reduceLE, Int.reduceToNat, Int.reduceLT, Int.reduceEq, eq_self, Nat.le_refl, okc0, len0, tk0, dr0, okc1, len1, tk1, dr1, drop0]; exact rfl) (by simp only [tt_0, tt_1, tt_2, tt_3, tt_4, tt_5, tt_6, tt_7, pm_0, pm_1, pm_2, pm_3, pm_4, pm_5, pm_6, pm_7, e0P, gs, gm, initS, rb_int, rb_str, rb_sub, rb_dcl, rb_opr, rb_ints, rowsB_nil, rowsB_cons, bqtt, bqtf, bqft, bqff, List.map_cons, List.map_nil, List.getElem?_cons_zero, List.getElem?_cons_succ, List.getElem?_map, Option.map_some, Option.map_none, Option.join_some, Option.getD_some, Option.isNone_none, Option.isNone_some, Option.isSome_none, Option.isSome_some, List.drop_succ_cons, List.drop_zero, List.drop_nil, List.take_succ_cons, List.take_zero, List.length_cons, List.length_nil, List.length_map, List.length_append, List.all_cons, List.all_nil, List.isEmpty_cons, List.isEmpty_nil, List.cons_append, List.nil_append, List.append_nil, Bool.and_self, Bool.or_true, Bool.true_or, Bool.or_false, Bool.false_or, ↓reduceIte, Nat.reduceEqDiff, Nat.reduceAdd, Nat.reduceSub, Nat.reduceMul, Nat.reduceLeDiff, Nat.reduceBEq, Nat.zero_add, Nat.add_zero, and_self, true_and, and_true, Bool.not_true, Bool.not_false, Bool.false_eq_true, decide_true, decide_false, natInt, Int.natCast_nonneg, Int.toNat_zero, Int.toNat_one, Int.reduceLE, Int.reduceToNat, Int.reduceLT, Int.reduceEq, eq_self, Nat.le_refl, okc0, len0, tk0, dr0, okc1, len1, tk1, dr1, drop0]; exact rfl) (con_szSignature hok0 hL0_0 hL0_1) (by simp only [setA, retA]; exact rfl) ?_)
  (refine runs_end (by simp only [tt_0, tt_1, tt_2, tt_3, tt_4, tt_5, tt_6, tt_7, pm_0, pm_1, pm_2, pm_3, pm_4, pm_5, pm_6, pm_7, e0P, gs, gm, initS, rb_int, rb_str, rb_sub, rb_dcl, rb_opr, rb_ints, rowsB_nil, rowsB_cons, bqtt, bqtf, bqft, bqff, List.map_cons, List.map_nil, List.getElem?_cons_zero, List.getElem?_cons_succ, List.getElem?_map, Option.map_some, Option.map_none, Option.join_some, Option.getD_some, Option.isNone_none, Option.isNone_some, Option.isSome_none, Option.isSome_some, List.drop_succ_cons, List.drop_zero, List.drop_nil, List.take_succ_cons, List.take_zero, List.length_cons, List.length_nil, List.length_map, List.length_append, List.all_cons, List.all_nil, List.isEmpty_cons, List.isEmpty_nil, List.cons_append, List.nil_append, List.append_nil, Bool.and_self, Bool.or_true, Bool.true_or, Bool.or_false, Bool.false_or, ↓reduceIte, Nat.reduceEqDiff, Nat.reduceAdd, Nat.reduceSub, Nat.reduceMul, Nat.reduceLeDiff, Nat.reduceBEq, Nat.zero_add, Nat.add_zero, and_self, true_and, and_true, Bool.not_true, Bool.not_false, Bool.false_eq_true, decide_true, decide_false, natInt, Int.natCast_nonneg, Int.toNat_zero, Int.toNat_one, Int.reduceLE, Int.reduceToNat, Int.reduceLT, Int.reduceEq, eq_self, Nat.le_refl, okc0, len0, tk0, dr0, okc1, len1, tk1, dr1, drop0]; exact rfl) (by simp only [trimS, Nat.testBit, Nat.reduceShiftRight, Nat.reduceAnd, Nat.reduceBneDiff, Nat.reduceBEq, bne, Bool.not_true, Bool.not_false, ↓reduceIte, Bool.false_eq_true]; exact rfl) ?_
   change pwp _ _ _ _ _)
  by_cases hb0 : ((bulkRow row0) : Int) ≤ 1048576
  rotate_left
  · have n1 : sub 1048576 (bulkRow row0) = -1 := sub_neg (by omega)
    have n2 : (-1 : Int) < 0 := by omega
    ((repeat (first
      | (with_reducible refine pwp_seq ?_)
      | (with_reducible refine pwp_block ?_)
      | ((with_reducible refine pwp_skip ?_); first | (change pwp _ _ _ _ _) | skip)
      | ((with_reducible refine pwp_exit ?_); first | (change pwp _ _ _ _ _) | skip)
      | ((with_reducible refine pwp_ct ?_ ?_); · simp only [evA, constA, gs, Nat.reduceEqDiff, ↓reduceIte])
      | ((with_reducible refine pwp_cf ?_ ?_); · simp only [evA, constA, gs, Nat.reduceEqDiff, ↓reduceIte])
      | (refine region_0 (by simp only [List.map_cons, List.map_nil]; exact rfl) (runs_end (by simp only [tt_0, tt_1, tt_2, tt_3, tt_4, tt_5, tt_6, tt_7, pm_0, pm_1, pm_2, pm_3, pm_4, pm_5, pm_6, pm_7, e0P, gs, gm, initS, rb_int, rb_str, rb_sub, rb_dcl, rb_opr, rb_ints, rowsB_nil, rowsB_cons, bqtt, bqtf, bqft, bqff, List.map_cons, List.map_nil, List.getElem?_cons_zero, List.getElem?_cons_succ, List.getElem?_map, Option.map_some, Option.map_none, Option.join_some, Option.getD_some, Option.isNone_none, Option.isNone_some, Option.isSome_none, Option.isSome_some, List.drop_succ_cons, List.drop_zero, List.drop_nil, List.take_succ_cons, List.take_zero, List.length_cons, List.length_nil, List.length_map, List.length_append, List.all_cons, List.all_nil, List.isEmpty_cons, List.isEmpty_nil, List.cons_append, List.nil_append, List.append_nil, Bool.and_self, Bool.or_true, Bool.true_or, Bool.or_false, Bool.false_or, ↓reduceIte, Nat.reduceEqDiff, Nat.reduceAdd, Nat.reduceSub, Nat.reduceMul, Nat.reduceLeDiff, Nat.reduceBEq, Nat.zero_add, Nat.add_zero, and_self, true_and, and_true, Bool.not_true, Bool.not_false, Bool.false_eq_true, decide_true, decide_false, natInt, Int.natCast_nonneg, Int.toNat_zero, Int.toNat_one, Int.reduceLE, Int.reduceToNat, Int.reduceLT, Int.reduceEq, eq_self, Nat.le_refl, n1, n2]; exact rfl) (by simp only [trimS, Nat.testBit, Nat.reduceShiftRight, Nat.reduceAnd, Nat.reduceBneDiff, Nat.reduceBEq, bne, Bool.not_true, Bool.not_false, ↓reduceIte, Bool.false_eq_true]; exact rfl) ?_); first | (change pwp _ _ _ _ _) | skip)
      | (refine region_D 5 (by kernel_rfl) (by simp only [List.map_cons, List.map_nil]; exact rfl) (runs_end (by simp only [tt_0, tt_1, tt_2, tt_3, tt_4, tt_5, tt_6, tt_7, pm_0, pm_1, pm_2, pm_3, pm_4, pm_5, pm_6, pm_7, e0P, gs, gm, initS, rb_int, rb_str, rb_sub, rb_dcl, rb_opr, rb_ints, rowsB_nil, rowsB_cons, bqtt, bqtf, bqft, bqff, List.map_cons, List.map_nil, List.getElem?_cons_zero, List.getElem?_cons_succ, List.getElem?_map, Option.map_some, Option.map_none, Option.join_some, Option.getD_some, Option.isNone_none, Option.isNone_some, Option.isSome_none, Option.isSome_some, List.drop_succ_cons, List.drop_zero, List.drop_nil, List.take_succ_cons, List.take_zero, List.length_cons, List.length_nil, List.length_map, List.length_append, List.all_cons, List.all_nil, List.isEmpty_cons, List.isEmpty_nil, List.cons_append, List.nil_append, List.append_nil, Bool.and_self, Bool.or_true, Bool.true_or, Bool.or_false, Bool.false_or, ↓reduceIte, Nat.reduceEqDiff, Nat.reduceAdd, Nat.reduceSub, Nat.reduceMul, Nat.reduceLeDiff, Nat.reduceBEq, Nat.zero_add, Nat.add_zero, and_self, true_and, and_true, Bool.not_true, Bool.not_false, Bool.false_eq_true, decide_true, decide_false, natInt, Int.natCast_nonneg, Int.toNat_zero, Int.toNat_one, Int.reduceLE, Int.reduceToNat, Int.reduceLT, Int.reduceEq, eq_self, Nat.le_refl, n1, n2]; exact rfl) (by simp only [trimS, Nat.testBit, Nat.reduceShiftRight, Nat.reduceAnd, Nat.reduceBneDiff, Nat.reduceBEq, bne, Bool.not_true, Bool.not_false, ↓reduceIte, Bool.false_eq_true]; exact rfl) ?_); first | (change pwp _ _ _ _ _) | skip)
      ))
     refine pwp_ret (ret_ok ?_)
     simp [resOk, resA, resSlots, gs, n1, n2])
  have n0 : sub 1048576 (bulkRow row0) = 1048576 - ((bulkRow row0) : Nat) := sub_pos (by omega)
  rw [n0]
  clear n0
  have hB0 : bulkRow row0 ≤ 1048576 := by omega
  have hL1_0 : (0 : Int) ≤ 1048576 - ((bulkRow row0) : Nat) := by omega
  have hL1_1 : (1048576 : Int) - ((bulkRow row0) : Nat) ≤ 1048576 := by omega
  generalize hgl0 : (1048576 : Int) - ((bulkRow row0) : Nat) = L1 at *
  clear hgl0
  have n2 : ¬ (L1 < 0) := by omega
  (repeat (first
    | (with_reducible refine pwp_seq ?_)
    | (with_reducible refine pwp_block ?_)
    | ((with_reducible refine pwp_skip ?_); first | (change pwp _ _ _ _ _) | skip)
    | ((with_reducible refine pwp_exit ?_); first | (change pwp _ _ _ _ _) | skip)
    | ((with_reducible refine pwp_ct ?_ ?_); · simp only [evA, constA, gs, Nat.reduceEqDiff, ↓reduceIte])
    | ((with_reducible refine pwp_cf ?_ ?_); · simp only [evA, constA, gs, Nat.reduceEqDiff, ↓reduceIte])
    | (refine region_0 (by simp only [List.map_cons, List.map_nil]; exact rfl) (runs_end (by simp only [tt_0, tt_1, tt_2, tt_3, tt_4, tt_5, tt_6, tt_7, pm_0, pm_1, pm_2, pm_3, pm_4, pm_5, pm_6, pm_7, e0P, gs, gm, initS, rb_int, rb_str, rb_sub, rb_dcl, rb_opr, rb_ints, rowsB_nil, rowsB_cons, bqtt, bqtf, bqft, bqff, List.map_cons, List.map_nil, List.getElem?_cons_zero, List.getElem?_cons_succ, List.getElem?_map, Option.map_some, Option.map_none, Option.join_some, Option.getD_some, Option.isNone_none, Option.isNone_some, Option.isSome_none, Option.isSome_some, List.drop_succ_cons, List.drop_zero, List.drop_nil, List.take_succ_cons, List.take_zero, List.length_cons, List.length_nil, List.length_map, List.length_append, List.all_cons, List.all_nil, List.isEmpty_cons, List.isEmpty_nil, List.cons_append, List.nil_append, List.append_nil, Bool.and_self, Bool.or_true, Bool.true_or, Bool.or_false, Bool.false_or, ↓reduceIte, Nat.reduceEqDiff, Nat.reduceAdd, Nat.reduceSub, Nat.reduceMul, Nat.reduceLeDiff, Nat.reduceBEq, Nat.zero_add, Nat.add_zero, and_self, true_and, and_true, Bool.not_true, Bool.not_false, Bool.false_eq_true, decide_true, decide_false, natInt, Int.natCast_nonneg, Int.toNat_zero, Int.toNat_one, Int.reduceLE, Int.reduceToNat, Int.reduceLT, Int.reduceEq, eq_self, Nat.le_refl, n2, okc0, len0, tk0, dr0, okc1, len1, tk1, dr1, drop0]; exact rfl) (by simp only [trimS, Nat.testBit, Nat.reduceShiftRight, Nat.reduceAnd, Nat.reduceBneDiff, Nat.reduceBEq, bne, Bool.not_true, Bool.not_false, ↓reduceIte, Bool.false_eq_true]; exact rfl) ?_); first | (change pwp _ _ _ _ _) | skip)
    | (refine region_D 5 (by kernel_rfl) (by simp only [List.map_cons, List.map_nil]; exact rfl) (runs_end (by simp only [tt_0, tt_1, tt_2, tt_3, tt_4, tt_5, tt_6, tt_7, pm_0, pm_1, pm_2, pm_3, pm_4, pm_5, pm_6, pm_7, e0P, gs, gm, initS, rb_int, rb_str, rb_sub, rb_dcl, rb_opr, rb_ints, rowsB_nil, rowsB_cons, bqtt, bqtf, bqft, bqff, List.map_cons, List.map_nil, List.getElem?_cons_zero, List.getElem?_cons_succ, List.getElem?_map, Option.map_some, Option.map_none, Option.join_some, Option.getD_some, Option.isNone_none, Option.isNone_some, Option.isSome_none, Option.isSome_some, List.drop_succ_cons, List.drop_zero, List.drop_nil, List.take_succ_cons, List.take_zero, List.length_cons, List.length_nil, List.length_map, List.length_append, List.all_cons, List.all_nil, List.isEmpty_cons, List.isEmpty_nil, List.cons_append, List.nil_append, List.append_nil, Bool.and_self, Bool.or_true, Bool.true_or, Bool.or_false, Bool.false_or, ↓reduceIte, Nat.reduceEqDiff, Nat.reduceAdd, Nat.reduceSub, Nat.reduceMul, Nat.reduceLeDiff, Nat.reduceBEq, Nat.zero_add, Nat.add_zero, and_self, true_and, and_true, Bool.not_true, Bool.not_false, Bool.false_eq_true, decide_true, decide_false, natInt, Int.natCast_nonneg, Int.toNat_zero, Int.toNat_one, Int.reduceLE, Int.reduceToNat, Int.reduceLT, Int.reduceEq, eq_self, Nat.le_refl, n2, okc0, len0, tk0, dr0, okc1, len1, tk1, dr1, drop0]; exact rfl) (by simp only [trimS, Nat.testBit, Nat.reduceShiftRight, Nat.reduceAnd, Nat.reduceBneDiff, Nat.reduceBEq, bne, Bool.not_true, Bool.not_false, ↓reduceIte, Bool.false_eq_true]; exact rfl) ?_); first | (change pwp _ _ _ _ _) | skip)
    ))
  clear n2 hb0
  (first
    | (refine region_0 (by simp only [List.map_cons, List.map_nil]; exact rfl) ?_)
    | (refine region_D 5 (by kernel_rfl) (by simp only [List.map_cons, List.map_nil]; exact rfl) ?_)
    )
  (refine runs_go (by simp only [tt_0, tt_1, tt_2, tt_3, tt_4, tt_5, tt_6, tt_7, pm_0, pm_1, pm_2, pm_3, pm_4, pm_5, pm_6, pm_7, e0P, gs, gm, initS, rb_int, rb_str, rb_sub, rb_dcl, rb_opr, rb_ints, rowsB_nil, rowsB_cons, bqtt, bqtf, bqft, bqff, List.map_cons, List.map_nil, List.getElem?_cons_zero, List.getElem?_cons_succ, List.getElem?_map, Option.map_some, Option.map_none, Option.join_some, Option.getD_some, Option.isNone_none, Option.isNone_some, Option.isSome_none, Option.isSome_some, List.drop_succ_cons, List.drop_zero, List.drop_nil, List.take_succ_cons, List.take_zero, List.length_cons, List.length_nil, List.length_map, List.length_append, List.all_cons, List.all_nil, List.isEmpty_cons, List.isEmpty_nil, List.cons_append, List.nil_append, List.append_nil, Bool.and_self, Bool.or_true, Bool.true_or, Bool.or_false, Bool.false_or, ↓reduceIte, Nat.reduceEqDiff, Nat.reduceAdd, Nat.reduceSub, Nat.reduceMul, Nat.reduceLeDiff, Nat.reduceBEq, Nat.zero_add, Nat.add_zero, and_self, true_and, and_true, Bool.not_true, Bool.not_false, Bool.false_eq_true, decide_true, decide_false, natInt, Int.natCast_nonneg, Int.toNat_zero, Int.toNat_one, Int.reduceLE, Int.reduceToNat, Int.reduceLT, Int.reduceEq, eq_self, Nat.le_refl, okc0, len0, tk0, dr0, okc1, len1, tk1, dr1, drop0]; exact rfl) (by simp only [tt_0, tt_1, tt_2, tt_3, tt_4, tt_5, tt_6, tt_7, pm_0, pm_1, pm_2, pm_3, pm_4, pm_5, pm_6, pm_7, e0P, gs, gm, initS, rb_int, rb_str, rb_sub, rb_dcl, rb_opr, rb_ints, rowsB_nil, rowsB_cons, bqtt, bqtf, bqft, bqff, List.map_cons, List.map_nil, List.getElem?_cons_zero, List.getElem?_cons_succ, List.getElem?_map, Option.map_some, Option.map_none, Option.join_some, Option.getD_some, Option.isNone_none, Option.isNone_some, Option.isSome_none, Option.isSome_some, List.drop_succ_cons, List.drop_zero, List.drop_nil, List.take_succ_cons, List.take_zero, List.length_cons, List.length_nil, List.length_map, List.length_append, List.all_cons, List.all_nil, List.isEmpty_cons, List.isEmpty_nil, List.cons_append, List.nil_append, List.append_nil, Bool.and_self, Bool.or_true, Bool.true_or, Bool.or_false, Bool.false_or, ↓reduceIte, Nat.reduceEqDiff, Nat.reduceAdd, Nat.reduceSub, Nat.reduceMul, Nat.reduceLeDiff, Nat.reduceBEq, Nat.zero_add, Nat.add_zero, and_self, true_and, and_true, Bool.not_true, Bool.not_false, Bool.false_eq_true, decide_true, decide_false, natInt, Int.natCast_nonneg, Int.toNat_zero, Int.toNat_one, Int.reduceLE, Int.reduceToNat, Int.reduceLT, Int.reduceEq, eq_self, Nat.le_refl, okc0, len0, tk0, dr0, okc1, len1, tk1, dr1, drop0]; exact rfl) (con_szAlgebra hok1 hL1_0 hL1_1) (by simp only [setA, retA]; exact rfl) ?_)
  (refine runs_end (by simp only [tt_0, tt_1, tt_2, tt_3, tt_4, tt_5, tt_6, tt_7, pm_0, pm_1, pm_2, pm_3, pm_4, pm_5, pm_6, pm_7, e0P, gs, gm, initS, rb_int, rb_str, rb_sub, rb_dcl, rb_opr, rb_ints, rowsB_nil, rowsB_cons, bqtt, bqtf, bqft, bqff, List.map_cons, List.map_nil, List.getElem?_cons_zero, List.getElem?_cons_succ, List.getElem?_map, Option.map_some, Option.map_none, Option.join_some, Option.getD_some, Option.isNone_none, Option.isNone_some, Option.isSome_none, Option.isSome_some, List.drop_succ_cons, List.drop_zero, List.drop_nil, List.take_succ_cons, List.take_zero, List.length_cons, List.length_nil, List.length_map, List.length_append, List.all_cons, List.all_nil, List.isEmpty_cons, List.isEmpty_nil, List.cons_append, List.nil_append, List.append_nil, Bool.and_self, Bool.or_true, Bool.true_or, Bool.or_false, Bool.false_or, ↓reduceIte, Nat.reduceEqDiff, Nat.reduceAdd, Nat.reduceSub, Nat.reduceMul, Nat.reduceLeDiff, Nat.reduceBEq, Nat.zero_add, Nat.add_zero, and_self, true_and, and_true, Bool.not_true, Bool.not_false, Bool.false_eq_true, decide_true, decide_false, natInt, Int.natCast_nonneg, Int.toNat_zero, Int.toNat_one, Int.reduceLE, Int.reduceToNat, Int.reduceLT, Int.reduceEq, eq_self, Nat.le_refl, okc0, len0, tk0, dr0, okc1, len1, tk1, dr1, drop0]; exact rfl) (by simp only [trimS, Nat.testBit, Nat.reduceShiftRight, Nat.reduceAnd, Nat.reduceBneDiff, Nat.reduceBEq, bne, Bool.not_true, Bool.not_false, ↓reduceIte, Bool.false_eq_true]; exact rfl) ?_
   change pwp _ _ _ _ _)
  by_cases hb1 : ((bulkRow row1) : Int) ≤ L1
  rotate_left
  · have n1 : sub L1 (bulkRow row1) = -1 := sub_neg (by omega)
    have n2 : (-1 : Int) < 0 := by omega
    ((repeat (first
      | (with_reducible refine pwp_seq ?_)
      | (with_reducible refine pwp_block ?_)
      | ((with_reducible refine pwp_skip ?_); first | (change pwp _ _ _ _ _) | skip)
      | ((with_reducible refine pwp_exit ?_); first | (change pwp _ _ _ _ _) | skip)
      | ((with_reducible refine pwp_ct ?_ ?_); · simp only [evA, constA, gs, Nat.reduceEqDiff, ↓reduceIte])
      | ((with_reducible refine pwp_cf ?_ ?_); · simp only [evA, constA, gs, Nat.reduceEqDiff, ↓reduceIte])
      | (refine region_0 (by simp only [List.map_cons, List.map_nil]; exact rfl) (runs_end (by simp only [tt_0, tt_1, tt_2, tt_3, tt_4, tt_5, tt_6, tt_7, pm_0, pm_1, pm_2, pm_3, pm_4, pm_5, pm_6, pm_7, e0P, gs, gm, initS, rb_int, rb_str, rb_sub, rb_dcl, rb_opr, rb_ints, rowsB_nil, rowsB_cons, bqtt, bqtf, bqft, bqff, List.map_cons, List.map_nil, List.getElem?_cons_zero, List.getElem?_cons_succ, List.getElem?_map, Option.map_some, Option.map_none, Option.join_some, Option.getD_some, Option.isNone_none, Option.isNone_some, Option.isSome_none, Option.isSome_some, List.drop_succ_cons, List.drop_zero, List.drop_nil, List.take_succ_cons, List.take_zero, List.length_cons, List.length_nil, List.length_map, List.length_append, List.all_cons, List.all_nil, List.isEmpty_cons, List.isEmpty_nil, List.cons_append, List.nil_append, List.append_nil, Bool.and_self, Bool.or_true, Bool.true_or, Bool.or_false, Bool.false_or, ↓reduceIte, Nat.reduceEqDiff, Nat.reduceAdd, Nat.reduceSub, Nat.reduceMul, Nat.reduceLeDiff, Nat.reduceBEq, Nat.zero_add, Nat.add_zero, and_self, true_and, and_true, Bool.not_true, Bool.not_false, Bool.false_eq_true, decide_true, decide_false, natInt, Int.natCast_nonneg, Int.toNat_zero, Int.toNat_one, Int.reduceLE, Int.reduceToNat, Int.reduceLT, Int.reduceEq, eq_self, Nat.le_refl, n1, n2]; exact rfl) (by simp only [trimS, Nat.testBit, Nat.reduceShiftRight, Nat.reduceAnd, Nat.reduceBneDiff, Nat.reduceBEq, bne, Bool.not_true, Bool.not_false, ↓reduceIte, Bool.false_eq_true]; exact rfl) ?_); first | (change pwp _ _ _ _ _) | skip)
      | (refine region_D 5 (by kernel_rfl) (by simp only [List.map_cons, List.map_nil]; exact rfl) (runs_end (by simp only [tt_0, tt_1, tt_2, tt_3, tt_4, tt_5, tt_6, tt_7, pm_0, pm_1, pm_2, pm_3, pm_4, pm_5, pm_6, pm_7, e0P, gs, gm, initS, rb_int, rb_str, rb_sub, rb_dcl, rb_opr, rb_ints, rowsB_nil, rowsB_cons, bqtt, bqtf, bqft, bqff, List.map_cons, List.map_nil, List.getElem?_cons_zero, List.getElem?_cons_succ, List.getElem?_map, Option.map_some, Option.map_none, Option.join_some, Option.getD_some, Option.isNone_none, Option.isNone_some, Option.isSome_none, Option.isSome_some, List.drop_succ_cons, List.drop_zero, List.drop_nil, List.take_succ_cons, List.take_zero, List.length_cons, List.length_nil, List.length_map, List.length_append, List.all_cons, List.all_nil, List.isEmpty_cons, List.isEmpty_nil, List.cons_append, List.nil_append, List.append_nil, Bool.and_self, Bool.or_true, Bool.true_or, Bool.or_false, Bool.false_or, ↓reduceIte, Nat.reduceEqDiff, Nat.reduceAdd, Nat.reduceSub, Nat.reduceMul, Nat.reduceLeDiff, Nat.reduceBEq, Nat.zero_add, Nat.add_zero, and_self, true_and, and_true, Bool.not_true, Bool.not_false, Bool.false_eq_true, decide_true, decide_false, natInt, Int.natCast_nonneg, Int.toNat_zero, Int.toNat_one, Int.reduceLE, Int.reduceToNat, Int.reduceLT, Int.reduceEq, eq_self, Nat.le_refl, n1, n2]; exact rfl) (by simp only [trimS, Nat.testBit, Nat.reduceShiftRight, Nat.reduceAnd, Nat.reduceBneDiff, Nat.reduceBEq, bne, Bool.not_true, Bool.not_false, ↓reduceIte, Bool.false_eq_true]; exact rfl) ?_); first | (change pwp _ _ _ _ _) | skip)
      ))
     refine pwp_ret (ret_ok ?_)
     simp [resOk, resA, resSlots, gs, n1, n2])
  have n1 : sub L1 (bulkRow row1) = L1 - ((bulkRow row1) : Nat) := sub_pos (by omega)
  rw [n1]
  clear n1
  have hB1 : bulkRow row1 ≤ 1048576 := by omega
  have hL2_0 : (0 : Int) ≤ L1 - ((bulkRow row1) : Nat) := by omega
  have hL2_1 : (L1 : Int) - ((bulkRow row1) : Nat) ≤ 1048576 := by omega
  generalize hgl1 : (L1 : Int) - ((bulkRow row1) : Nat) = L2 at *
  clear hgl1
  have n2 : ¬ (L2 < 0) := by omega
  (repeat (first
    | (with_reducible refine pwp_seq ?_)
    | (with_reducible refine pwp_block ?_)
    | ((with_reducible refine pwp_skip ?_); first | (change pwp _ _ _ _ _) | skip)
    | ((with_reducible refine pwp_exit ?_); first | (change pwp _ _ _ _ _) | skip)
    | ((with_reducible refine pwp_ct ?_ ?_); · simp only [evA, constA, gs, Nat.reduceEqDiff, ↓reduceIte])
    | ((with_reducible refine pwp_cf ?_ ?_); · simp only [evA, constA, gs, Nat.reduceEqDiff, ↓reduceIte])
    | (refine region_0 (by simp only [List.map_cons, List.map_nil]; exact rfl) (runs_end (by simp only [tt_0, tt_1, tt_2, tt_3, tt_4, tt_5, tt_6, tt_7, pm_0, pm_1, pm_2, pm_3, pm_4, pm_5, pm_6, pm_7, e0P, gs, gm, initS, rb_int, rb_str, rb_sub, rb_dcl, rb_opr, rb_ints, rowsB_nil, rowsB_cons, bqtt, bqtf, bqft, bqff, List.map_cons, List.map_nil, List.getElem?_cons_zero, List.getElem?_cons_succ, List.getElem?_map, Option.map_some, Option.map_none, Option.join_some, Option.getD_some, Option.isNone_none, Option.isNone_some, Option.isSome_none, Option.isSome_some, List.drop_succ_cons, List.drop_zero, List.drop_nil, List.take_succ_cons, List.take_zero, List.length_cons, List.length_nil, List.length_map, List.length_append, List.all_cons, List.all_nil, List.isEmpty_cons, List.isEmpty_nil, List.cons_append, List.nil_append, List.append_nil, Bool.and_self, Bool.or_true, Bool.true_or, Bool.or_false, Bool.false_or, ↓reduceIte, Nat.reduceEqDiff, Nat.reduceAdd, Nat.reduceSub, Nat.reduceMul, Nat.reduceLeDiff, Nat.reduceBEq, Nat.zero_add, Nat.add_zero, and_self, true_and, and_true, Bool.not_true, Bool.not_false, Bool.false_eq_true, decide_true, decide_false, natInt, Int.natCast_nonneg, Int.toNat_zero, Int.toNat_one, Int.reduceLE, Int.reduceToNat, Int.reduceLT, Int.reduceEq, eq_self, Nat.le_refl, n2, okc0, len0, tk0, dr0, okc1, len1, tk1, dr1, drop0]; exact rfl) (by simp only [trimS, Nat.testBit, Nat.reduceShiftRight, Nat.reduceAnd, Nat.reduceBneDiff, Nat.reduceBEq, bne, Bool.not_true, Bool.not_false, ↓reduceIte, Bool.false_eq_true]; exact rfl) ?_); first | (change pwp _ _ _ _ _) | skip)
    | (refine region_D 5 (by kernel_rfl) (by simp only [List.map_cons, List.map_nil]; exact rfl) (runs_end (by simp only [tt_0, tt_1, tt_2, tt_3, tt_4, tt_5, tt_6, tt_7, pm_0, pm_1, pm_2, pm_3, pm_4, pm_5, pm_6, pm_7, e0P, gs, gm, initS, rb_int, rb_str, rb_sub, rb_dcl, rb_opr, rb_ints, rowsB_nil, rowsB_cons, bqtt, bqtf, bqft, bqff, List.map_cons, List.map_nil, List.getElem?_cons_zero, List.getElem?_cons_succ, List.getElem?_map, Option.map_some, Option.map_none, Option.join_some, Option.getD_some, Option.isNone_none, Option.isNone_some, Option.isSome_none, Option.isSome_some, List.drop_succ_cons, List.drop_zero, List.drop_nil, List.take_succ_cons, List.take_zero, List.length_cons, List.length_nil, List.length_map, List.length_append, List.all_cons, List.all_nil, List.isEmpty_cons, List.isEmpty_nil, List.cons_append, List.nil_append, List.append_nil, Bool.and_self, Bool.or_true, Bool.true_or, Bool.or_false, Bool.false_or, ↓reduceIte, Nat.reduceEqDiff, Nat.reduceAdd, Nat.reduceSub, Nat.reduceMul, Nat.reduceLeDiff, Nat.reduceBEq, Nat.zero_add, Nat.add_zero, and_self, true_and, and_true, Bool.not_true, Bool.not_false, Bool.false_eq_true, decide_true, decide_false, natInt, Int.natCast_nonneg, Int.toNat_zero, Int.toNat_one, Int.reduceLE, Int.reduceToNat, Int.reduceLT, Int.reduceEq, eq_self, Nat.le_refl, n2, okc0, len0, tk0, dr0, okc1, len1, tk1, dr1, drop0]; exact rfl) (by simp only [trimS, Nat.testBit, Nat.reduceShiftRight, Nat.reduceAnd, Nat.reduceBneDiff, Nat.reduceBEq, bne, Bool.not_true, Bool.not_false, ↓reduceIte, Bool.false_eq_true]; exact rfl) ?_); first | (change pwp _ _ _ _ _) | skip)
    ))
  clear n2 hb1
  have hsp := hsp0 hB0 hB1
  have him := him0 hB0 hB1
  have cT0 := con_toSignature hok0 hB0
  have cT1 := con_toAlgebra hok1 hB1
  (first
    | (refine region_0 (by simp only [List.map_cons, List.map_nil]; exact rfl) ?_)
    | (refine region_D 5 (by kernel_rfl) (by simp only [List.map_cons, List.map_nil]; exact rfl) ?_)
    )
  (refine runs_go (by simp only [tt_0, tt_1, tt_2, tt_3, tt_4, tt_5, tt_6, tt_7, pm_0, pm_1, pm_2, pm_3, pm_4, pm_5, pm_6, pm_7, e0P, gs, gm, initS, rb_int, rb_str, rb_sub, rb_dcl, rb_opr, rb_ints, rowsB_nil, rowsB_cons, bqtt, bqtf, bqft, bqff, List.map_cons, List.map_nil, List.getElem?_cons_zero, List.getElem?_cons_succ, List.getElem?_map, Option.map_some, Option.map_none, Option.join_some, Option.getD_some, Option.isNone_none, Option.isNone_some, Option.isSome_none, Option.isSome_some, List.drop_succ_cons, List.drop_zero, List.drop_nil, List.take_succ_cons, List.take_zero, List.length_cons, List.length_nil, List.length_map, List.length_append, List.all_cons, List.all_nil, List.isEmpty_cons, List.isEmpty_nil, List.cons_append, List.nil_append, List.append_nil, Bool.and_self, Bool.or_true, Bool.true_or, Bool.or_false, Bool.false_or, ↓reduceIte, Nat.reduceEqDiff, Nat.reduceAdd, Nat.reduceSub, Nat.reduceMul, Nat.reduceLeDiff, Nat.reduceBEq, Nat.zero_add, Nat.add_zero, and_self, true_and, and_true, Bool.not_true, Bool.not_false, Bool.false_eq_true, decide_true, decide_false, natInt, Int.natCast_nonneg, Int.toNat_zero, Int.toNat_one, Int.reduceLE, Int.reduceToNat, Int.reduceLT, Int.reduceEq, eq_self, Nat.le_refl, okc0, len0, tk0, dr0, okc1, len1, tk1, dr1, drop0]; exact rfl) (by simp only [tt_0, tt_1, tt_2, tt_3, tt_4, tt_5, tt_6, tt_7, pm_0, pm_1, pm_2, pm_3, pm_4, pm_5, pm_6, pm_7, e0P, gs, gm, initS, rb_int, rb_str, rb_sub, rb_dcl, rb_opr, rb_ints, rowsB_nil, rowsB_cons, bqtt, bqtf, bqft, bqff, List.map_cons, List.map_nil, List.getElem?_cons_zero, List.getElem?_cons_succ, List.getElem?_map, Option.map_some, Option.map_none, Option.join_some, Option.getD_some, Option.isNone_none, Option.isNone_some, Option.isSome_none, Option.isSome_some, List.drop_succ_cons, List.drop_zero, List.drop_nil, List.take_succ_cons, List.take_zero, List.length_cons, List.length_nil, List.length_map, List.length_append, List.all_cons, List.all_nil, List.isEmpty_cons, List.isEmpty_nil, List.cons_append, List.nil_append, List.append_nil, Bool.and_self, Bool.or_true, Bool.true_or, Bool.or_false, Bool.false_or, ↓reduceIte, Nat.reduceEqDiff, Nat.reduceAdd, Nat.reduceSub, Nat.reduceMul, Nat.reduceLeDiff, Nat.reduceBEq, Nat.zero_add, Nat.add_zero, and_self, true_and, and_true, Bool.not_true, Bool.not_false, Bool.false_eq_true, decide_true, decide_false, natInt, Int.natCast_nonneg, Int.toNat_zero, Int.toNat_one, Int.reduceLE, Int.reduceToNat, Int.reduceLT, Int.reduceEq, eq_self, Nat.le_refl, okc0, len0, tk0, dr0, okc1, len1, tk1, dr1, drop0]; exact rfl) (cT0) (by simp only [setA, retA]; exact rfl) ?_)
  (refine runs_go (by simp only [tt_0, tt_1, tt_2, tt_3, tt_4, tt_5, tt_6, tt_7, pm_0, pm_1, pm_2, pm_3, pm_4, pm_5, pm_6, pm_7, e0P, gs, gm, initS, rb_int, rb_str, rb_sub, rb_dcl, rb_opr, rb_ints, rowsB_nil, rowsB_cons, bqtt, bqtf, bqft, bqff, List.map_cons, List.map_nil, List.getElem?_cons_zero, List.getElem?_cons_succ, List.getElem?_map, Option.map_some, Option.map_none, Option.join_some, Option.getD_some, Option.isNone_none, Option.isNone_some, Option.isSome_none, Option.isSome_some, List.drop_succ_cons, List.drop_zero, List.drop_nil, List.take_succ_cons, List.take_zero, List.length_cons, List.length_nil, List.length_map, List.length_append, List.all_cons, List.all_nil, List.isEmpty_cons, List.isEmpty_nil, List.cons_append, List.nil_append, List.append_nil, Bool.and_self, Bool.or_true, Bool.true_or, Bool.or_false, Bool.false_or, ↓reduceIte, Nat.reduceEqDiff, Nat.reduceAdd, Nat.reduceSub, Nat.reduceMul, Nat.reduceLeDiff, Nat.reduceBEq, Nat.zero_add, Nat.add_zero, and_self, true_and, and_true, Bool.not_true, Bool.not_false, Bool.false_eq_true, decide_true, decide_false, natInt, Int.natCast_nonneg, Int.toNat_zero, Int.toNat_one, Int.reduceLE, Int.reduceToNat, Int.reduceLT, Int.reduceEq, eq_self, Nat.le_refl, okc0, len0, tk0, dr0, okc1, len1, tk1, dr1, drop0]; exact rfl) (by simp only [tt_0, tt_1, tt_2, tt_3, tt_4, tt_5, tt_6, tt_7, pm_0, pm_1, pm_2, pm_3, pm_4, pm_5, pm_6, pm_7, e0P, gs, gm, initS, rb_int, rb_str, rb_sub, rb_dcl, rb_opr, rb_ints, rowsB_nil, rowsB_cons, bqtt, bqtf, bqft, bqff, List.map_cons, List.map_nil, List.getElem?_cons_zero, List.getElem?_cons_succ, List.getElem?_map, Option.map_some, Option.map_none, Option.join_some, Option.getD_some, Option.isNone_none, Option.isNone_some, Option.isSome_none, Option.isSome_some, List.drop_succ_cons, List.drop_zero, List.drop_nil, List.take_succ_cons, List.take_zero, List.length_cons, List.length_nil, List.length_map, List.length_append, List.all_cons, List.all_nil, List.isEmpty_cons, List.isEmpty_nil, List.cons_append, List.nil_append, List.append_nil, Bool.and_self, Bool.or_true, Bool.true_or, Bool.or_false, Bool.false_or, ↓reduceIte, Nat.reduceEqDiff, Nat.reduceAdd, Nat.reduceSub, Nat.reduceMul, Nat.reduceLeDiff, Nat.reduceBEq, Nat.zero_add, Nat.add_zero, and_self, true_and, and_true, Bool.not_true, Bool.not_false, Bool.false_eq_true, decide_true, decide_false, natInt, Int.natCast_nonneg, Int.toNat_zero, Int.toNat_one, Int.reduceLE, Int.reduceToNat, Int.reduceLT, Int.reduceEq, eq_self, Nat.le_refl, okc0, len0, tk0, dr0, okc1, len1, tk1, dr1, drop0]; exact rfl) (cT1) (by simp only [setA, retA]; exact rfl) ?_)
  (refine runs_go (by simp only [tt_0, tt_1, tt_2, tt_3, tt_4, tt_5, tt_6, tt_7, pm_0, pm_1, pm_2, pm_3, pm_4, pm_5, pm_6, pm_7, e0P, gs, gm, initS, rb_int, rb_str, rb_sub, rb_dcl, rb_opr, rb_ints, rowsB_nil, rowsB_cons, bqtt, bqtf, bqft, bqff, List.map_cons, List.map_nil, List.getElem?_cons_zero, List.getElem?_cons_succ, List.getElem?_map, Option.map_some, Option.map_none, Option.join_some, Option.getD_some, Option.isNone_none, Option.isNone_some, Option.isSome_none, Option.isSome_some, List.drop_succ_cons, List.drop_zero, List.drop_nil, List.take_succ_cons, List.take_zero, List.length_cons, List.length_nil, List.length_map, List.length_append, List.all_cons, List.all_nil, List.isEmpty_cons, List.isEmpty_nil, List.cons_append, List.nil_append, List.append_nil, Bool.and_self, Bool.or_true, Bool.true_or, Bool.or_false, Bool.false_or, ↓reduceIte, Nat.reduceEqDiff, Nat.reduceAdd, Nat.reduceSub, Nat.reduceMul, Nat.reduceLeDiff, Nat.reduceBEq, Nat.zero_add, Nat.add_zero, and_self, true_and, and_true, Bool.not_true, Bool.not_false, Bool.false_eq_true, decide_true, decide_false, natInt, Int.natCast_nonneg, Int.toNat_zero, Int.toNat_one, Int.reduceLE, Int.reduceToNat, Int.reduceLT, Int.reduceEq, eq_self, Nat.le_refl, okc0, len0, tk0, dr0, okc1, len1, tk1, dr1, drop0]; exact rfl) (by simp only [tt_0, tt_1, tt_2, tt_3, tt_4, tt_5, tt_6, tt_7, pm_0, pm_1, pm_2, pm_3, pm_4, pm_5, pm_6, pm_7, e0P, gs, gm, initS, rb_int, rb_str, rb_sub, rb_dcl, rb_opr, rb_ints, rowsB_nil, rowsB_cons, bqtt, bqtf, bqft, bqff, List.map_cons, List.map_nil, List.getElem?_cons_zero, List.getElem?_cons_succ, List.getElem?_map, Option.map_some, Option.map_none, Option.join_some, Option.getD_some, Option.isNone_none, Option.isNone_some, Option.isSome_none, Option.isSome_some, List.drop_succ_cons, List.drop_zero, List.drop_nil, List.take_succ_cons, List.take_zero, List.length_cons, List.length_nil, List.length_map, List.length_append, List.all_cons, List.all_nil, List.isEmpty_cons, List.isEmpty_nil, List.cons_append, List.nil_append, List.append_nil, Bool.and_self, Bool.or_true, Bool.true_or, Bool.or_false, Bool.false_or, ↓reduceIte, Nat.reduceEqDiff, Nat.reduceAdd, Nat.reduceSub, Nat.reduceMul, Nat.reduceLeDiff, Nat.reduceBEq, Nat.zero_add, Nat.add_zero, and_self, true_and, and_true, Bool.not_true, Bool.not_false, Bool.false_eq_true, decide_true, decide_false, natInt, Int.natCast_nonneg, Int.toNat_zero, Int.toNat_one, Int.reduceLE, Int.reduceToNat, Int.reduceLT, Int.reduceEq, eq_self, Nat.le_refl, okc0, len0, tk0, dr0, okc1, len1, tk1, dr1, drop0]; exact rfl) (hsp) (by simp only [setA, retA]; exact rfl) ?_)
  (refine runs_end (by simp only [tt_0, tt_1, tt_2, tt_3, tt_4, tt_5, tt_6, tt_7, pm_0, pm_1, pm_2, pm_3, pm_4, pm_5, pm_6, pm_7, e0P, gs, gm, initS, rb_int, rb_str, rb_sub, rb_dcl, rb_opr, rb_ints, rowsB_nil, rowsB_cons, bqtt, bqtf, bqft, bqff, List.map_cons, List.map_nil, List.getElem?_cons_zero, List.getElem?_cons_succ, List.getElem?_map, Option.map_some, Option.map_none, Option.join_some, Option.getD_some, Option.isNone_none, Option.isNone_some, Option.isSome_none, Option.isSome_some, List.drop_succ_cons, List.drop_zero, List.drop_nil, List.take_succ_cons, List.take_zero, List.length_cons, List.length_nil, List.length_map, List.length_append, List.all_cons, List.all_nil, List.isEmpty_cons, List.isEmpty_nil, List.cons_append, List.nil_append, List.append_nil, Bool.and_self, Bool.or_true, Bool.true_or, Bool.or_false, Bool.false_or, ↓reduceIte, Nat.reduceEqDiff, Nat.reduceAdd, Nat.reduceSub, Nat.reduceMul, Nat.reduceLeDiff, Nat.reduceBEq, Nat.zero_add, Nat.add_zero, and_self, true_and, and_true, Bool.not_true, Bool.not_false, Bool.false_eq_true, decide_true, decide_false, natInt, Int.natCast_nonneg, Int.toNat_zero, Int.toNat_one, Int.reduceLE, Int.reduceToNat, Int.reduceLT, Int.reduceEq, eq_self, Nat.le_refl, okc0, len0, tk0, dr0, okc1, len1, tk1, dr1, drop0]; exact rfl) (by simp only [trimS, Nat.testBit, Nat.reduceShiftRight, Nat.reduceAnd, Nat.reduceBneDiff, Nat.reduceBEq, bne, Bool.not_true, Bool.not_false, ↓reduceIte, Bool.false_eq_true]; exact rfl) ?_
   change pwp _ _ _ _ _)
  (repeat (first
    | (with_reducible refine pwp_seq ?_)
    | (with_reducible refine pwp_block ?_)
    | ((with_reducible refine pwp_skip ?_); first | (change pwp _ _ _ _ _) | skip)
    | ((with_reducible refine pwp_exit ?_); first | (change pwp _ _ _ _ _) | skip)
    | ((with_reducible refine pwp_ct ?_ ?_); · simp only [evA, constA, gs, Nat.reduceEqDiff, ↓reduceIte])
    | ((with_reducible refine pwp_cf ?_ ?_); · simp only [evA, constA, gs, Nat.reduceEqDiff, ↓reduceIte])
    | (refine region_0 (by simp only [List.map_cons, List.map_nil]; exact rfl) (runs_end (by simp only [tt_0, tt_1, tt_2, tt_3, tt_4, tt_5, tt_6, tt_7, pm_0, pm_1, pm_2, pm_3, pm_4, pm_5, pm_6, pm_7, e0P, gs, gm, initS, rb_int, rb_str, rb_sub, rb_dcl, rb_opr, rb_ints, rowsB_nil, rowsB_cons, bqtt, bqtf, bqft, bqff, List.map_cons, List.map_nil, List.getElem?_cons_zero, List.getElem?_cons_succ, List.getElem?_map, Option.map_some, Option.map_none, Option.join_some, Option.getD_some, Option.isNone_none, Option.isNone_some, Option.isSome_none, Option.isSome_some, List.drop_succ_cons, List.drop_zero, List.drop_nil, List.take_succ_cons, List.take_zero, List.length_cons, List.length_nil, List.length_map, List.length_append, List.all_cons, List.all_nil, List.isEmpty_cons, List.isEmpty_nil, List.cons_append, List.nil_append, List.append_nil, Bool.and_self, Bool.or_true, Bool.true_or, Bool.or_false, Bool.false_or, ↓reduceIte, Nat.reduceEqDiff, Nat.reduceAdd, Nat.reduceSub, Nat.reduceMul, Nat.reduceLeDiff, Nat.reduceBEq, Nat.zero_add, Nat.add_zero, and_self, true_and, and_true, Bool.not_true, Bool.not_false, Bool.false_eq_true, decide_true, decide_false, natInt, Int.natCast_nonneg, Int.toNat_zero, Int.toNat_one, Int.reduceLE, Int.reduceToNat, Int.reduceLT, Int.reduceEq, eq_self, Nat.le_refl, okc0, len0, tk0, dr0, okc1, len1, tk1, dr1, drop0]; exact rfl) (by simp only [trimS, Nat.testBit, Nat.reduceShiftRight, Nat.reduceAnd, Nat.reduceBneDiff, Nat.reduceBEq, bne, Bool.not_true, Bool.not_false, ↓reduceIte, Bool.false_eq_true]; exact rfl) ?_); first | (change pwp _ _ _ _ _) | skip)
    | (refine region_D 5 (by kernel_rfl) (by simp only [List.map_cons, List.map_nil]; exact rfl) (runs_end (by simp only [tt_0, tt_1, tt_2, tt_3, tt_4, tt_5, tt_6, tt_7, pm_0, pm_1, pm_2, pm_3, pm_4, pm_5, pm_6, pm_7, e0P, gs, gm, initS, rb_int, rb_str, rb_sub, rb_dcl, rb_opr, rb_ints, rowsB_nil, rowsB_cons, bqtt, bqtf, bqft, bqff, List.map_cons, List.map_nil, List.getElem?_cons_zero, List.getElem?_cons_succ, List.getElem?_map, Option.map_some, Option.map_none, Option.join_some, Option.getD_some, Option.isNone_none, Option.isNone_some, Option.isSome_none, Option.isSome_some, List.drop_succ_cons, List.drop_zero, List.drop_nil, List.take_succ_cons, List.take_zero, List.length_cons, List.length_nil, List.length_map, List.length_append, List.all_cons, List.all_nil, List.isEmpty_cons, List.isEmpty_nil, List.cons_append, List.nil_append, List.append_nil, Bool.and_self, Bool.or_true, Bool.true_or, Bool.or_false, Bool.false_or, ↓reduceIte, Nat.reduceEqDiff, Nat.reduceAdd, Nat.reduceSub, Nat.reduceMul, Nat.reduceLeDiff, Nat.reduceBEq, Nat.zero_add, Nat.add_zero, and_self, true_and, and_true, Bool.not_true, Bool.not_false, Bool.false_eq_true, decide_true, decide_false, natInt, Int.natCast_nonneg, Int.toNat_zero, Int.toNat_one, Int.reduceLE, Int.reduceToNat, Int.reduceLT, Int.reduceEq, eq_self, Nat.le_refl, okc0, len0, tk0, dr0, okc1, len1, tk1, dr1, drop0]; exact rfl) (by simp only [trimS, Nat.testBit, Nat.reduceShiftRight, Nat.reduceAnd, Nat.reduceBneDiff, Nat.reduceBEq, bne, Bool.not_true, Bool.not_false, ↓reduceIte, Bool.false_eq_true]; exact rfl) ?_); first | (change pwp _ _ _ _ _) | skip)
    ))
  (first
    | (refine region_0 (by simp only [List.map_cons, List.map_nil]; exact rfl) ?_)
    | (refine region_D 5 (by kernel_rfl) (by simp only [List.map_cons, List.map_nil]; exact rfl) ?_)
    )
  (refine runs_go (by simp only [tt_0, tt_1, tt_2, tt_3, tt_4, tt_5, tt_6, tt_7, pm_0, pm_1, pm_2, pm_3, pm_4, pm_5, pm_6, pm_7, e0P, gs, gm, initS, rb_int, rb_str, rb_sub, rb_dcl, rb_opr, rb_ints, rowsB_nil, rowsB_cons, bqtt, bqtf, bqft, bqff, List.map_cons, List.map_nil, List.getElem?_cons_zero, List.getElem?_cons_succ, List.getElem?_map, Option.map_some, Option.map_none, Option.join_some, Option.getD_some, Option.isNone_none, Option.isNone_some, Option.isSome_none, Option.isSome_some, List.drop_succ_cons, List.drop_zero, List.drop_nil, List.take_succ_cons, List.take_zero, List.length_cons, List.length_nil, List.length_map, List.length_append, List.all_cons, List.all_nil, List.isEmpty_cons, List.isEmpty_nil, List.cons_append, List.nil_append, List.append_nil, Bool.and_self, Bool.or_true, Bool.true_or, Bool.or_false, Bool.false_or, ↓reduceIte, Nat.reduceEqDiff, Nat.reduceAdd, Nat.reduceSub, Nat.reduceMul, Nat.reduceLeDiff, Nat.reduceBEq, Nat.zero_add, Nat.add_zero, and_self, true_and, and_true, Bool.not_true, Bool.not_false, Bool.false_eq_true, decide_true, decide_false, natInt, Int.natCast_nonneg, Int.toNat_zero, Int.toNat_one, Int.reduceLE, Int.reduceToNat, Int.reduceLT, Int.reduceEq, eq_self, Nat.le_refl, okc0, len0, tk0, dr0, okc1, len1, tk1, dr1, drop0]; exact rfl) (by simp only [tt_0, tt_1, tt_2, tt_3, tt_4, tt_5, tt_6, tt_7, pm_0, pm_1, pm_2, pm_3, pm_4, pm_5, pm_6, pm_7, e0P, gs, gm, initS, rb_int, rb_str, rb_sub, rb_dcl, rb_opr, rb_ints, rowsB_nil, rowsB_cons, bqtt, bqtf, bqft, bqff, List.map_cons, List.map_nil, List.getElem?_cons_zero, List.getElem?_cons_succ, List.getElem?_map, Option.map_some, Option.map_none, Option.join_some, Option.getD_some, Option.isNone_none, Option.isNone_some, Option.isSome_none, Option.isSome_some, List.drop_succ_cons, List.drop_zero, List.drop_nil, List.take_succ_cons, List.take_zero, List.length_cons, List.length_nil, List.length_map, List.length_append, List.all_cons, List.all_nil, List.isEmpty_cons, List.isEmpty_nil, List.cons_append, List.nil_append, List.append_nil, Bool.and_self, Bool.or_true, Bool.true_or, Bool.or_false, Bool.false_or, ↓reduceIte, Nat.reduceEqDiff, Nat.reduceAdd, Nat.reduceSub, Nat.reduceMul, Nat.reduceLeDiff, Nat.reduceBEq, Nat.zero_add, Nat.add_zero, and_self, true_and, and_true, Bool.not_true, Bool.not_false, Bool.false_eq_true, decide_true, decide_false, natInt, Int.natCast_nonneg, Int.toNat_zero, Int.toNat_one, Int.reduceLE, Int.reduceToNat, Int.reduceLT, Int.reduceEq, eq_self, Nat.le_refl, okc0, len0, tk0, dr0, okc1, len1, tk1, dr1, drop0]; exact rfl) (cT0) (by simp only [setA, retA]; exact rfl) ?_)
  (refine runs_end (by simp only [tt_0, tt_1, tt_2, tt_3, tt_4, tt_5, tt_6, tt_7, pm_0, pm_1, pm_2, pm_3, pm_4, pm_5, pm_6, pm_7, e0P, gs, gm, initS, rb_int, rb_str, rb_sub, rb_dcl, rb_opr, rb_ints, rowsB_nil, rowsB_cons, bqtt, bqtf, bqft, bqff, List.map_cons, List.map_nil, List.getElem?_cons_zero, List.getElem?_cons_succ, List.getElem?_map, Option.map_some, Option.map_none, Option.join_some, Option.getD_some, Option.isNone_none, Option.isNone_some, Option.isSome_none, Option.isSome_some, List.drop_succ_cons, List.drop_zero, List.drop_nil, List.take_succ_cons, List.take_zero, List.length_cons, List.length_nil, List.length_map, List.length_append, List.all_cons, List.all_nil, List.isEmpty_cons, List.isEmpty_nil, List.cons_append, List.nil_append, List.append_nil, Bool.and_self, Bool.or_true, Bool.true_or, Bool.or_false, Bool.false_or, ↓reduceIte, Nat.reduceEqDiff, Nat.reduceAdd, Nat.reduceSub, Nat.reduceMul, Nat.reduceLeDiff, Nat.reduceBEq, Nat.zero_add, Nat.add_zero, and_self, true_and, and_true, Bool.not_true, Bool.not_false, Bool.false_eq_true, decide_true, decide_false, natInt, Int.natCast_nonneg, Int.toNat_zero, Int.toNat_one, Int.reduceLE, Int.reduceToNat, Int.reduceLT, Int.reduceEq, eq_self, Nat.le_refl, okc0, len0, tk0, dr0, okc1, len1, tk1, dr1, drop0]; exact rfl) (by simp only [trimS, Nat.testBit, Nat.reduceShiftRight, Nat.reduceAnd, Nat.reduceBneDiff, Nat.reduceBEq, bne, Bool.not_true, Bool.not_false, ↓reduceIte, Bool.false_eq_true]; exact rfl) ?_
   change pwp _ _ _ _ _)
  (repeat (first
    | (with_reducible refine pwp_seq ?_)
    | (with_reducible refine pwp_block ?_)
    | ((with_reducible refine pwp_skip ?_); first | (change pwp _ _ _ _ _) | skip)
    | ((with_reducible refine pwp_exit ?_); first | (change pwp _ _ _ _ _) | skip)
    | ((with_reducible refine pwp_ct ?_ ?_); · simp only [evA, constA, gs, Nat.reduceEqDiff, ↓reduceIte])
    | ((with_reducible refine pwp_cf ?_ ?_); · simp only [evA, constA, gs, Nat.reduceEqDiff, ↓reduceIte])
    | (refine region_0 (by simp only [List.map_cons, List.map_nil]; exact rfl) (runs_end (by simp only [tt_0, tt_1, tt_2, tt_3, tt_4, tt_5, tt_6, tt_7, pm_0, pm_1, pm_2, pm_3, pm_4, pm_5, pm_6, pm_7, e0P, gs, gm, initS, rb_int, rb_str, rb_sub, rb_dcl, rb_opr, rb_ints, rowsB_nil, rowsB_cons, bqtt, bqtf, bqft, bqff, List.map_cons, List.map_nil, List.getElem?_cons_zero, List.getElem?_cons_succ, List.getElem?_map, Option.map_some, Option.map_none, Option.join_some, Option.getD_some, Option.isNone_none, Option.isNone_some, Option.isSome_none, Option.isSome_some, List.drop_succ_cons, List.drop_zero, List.drop_nil, List.take_succ_cons, List.take_zero, List.length_cons, List.length_nil, List.length_map, List.length_append, List.all_cons, List.all_nil, List.isEmpty_cons, List.isEmpty_nil, List.cons_append, List.nil_append, List.append_nil, Bool.and_self, Bool.or_true, Bool.true_or, Bool.or_false, Bool.false_or, ↓reduceIte, Nat.reduceEqDiff, Nat.reduceAdd, Nat.reduceSub, Nat.reduceMul, Nat.reduceLeDiff, Nat.reduceBEq, Nat.zero_add, Nat.add_zero, and_self, true_and, and_true, Bool.not_true, Bool.not_false, Bool.false_eq_true, decide_true, decide_false, natInt, Int.natCast_nonneg, Int.toNat_zero, Int.toNat_one, Int.reduceLE, Int.reduceToNat, Int.reduceLT, Int.reduceEq, eq_self, Nat.le_refl, okc0, len0, tk0, dr0, okc1, len1, tk1, dr1, drop0]; exact rfl) (by simp only [trimS, Nat.testBit, Nat.reduceShiftRight, Nat.reduceAnd, Nat.reduceBneDiff, Nat.reduceBEq, bne, Bool.not_true, Bool.not_false, ↓reduceIte, Bool.false_eq_true]; exact rfl) ?_); first | (change pwp _ _ _ _ _) | skip)
    | (refine region_D 5 (by kernel_rfl) (by simp only [List.map_cons, List.map_nil]; exact rfl) (runs_end (by simp only [tt_0, tt_1, tt_2, tt_3, tt_4, tt_5, tt_6, tt_7, pm_0, pm_1, pm_2, pm_3, pm_4, pm_5, pm_6, pm_7, e0P, gs, gm, initS, rb_int, rb_str, rb_sub, rb_dcl, rb_opr, rb_ints, rowsB_nil, rowsB_cons, bqtt, bqtf, bqft, bqff, List.map_cons, List.map_nil, List.getElem?_cons_zero, List.getElem?_cons_succ, List.getElem?_map, Option.map_some, Option.map_none, Option.join_some, Option.getD_some, Option.isNone_none, Option.isNone_some, Option.isSome_none, Option.isSome_some, List.drop_succ_cons, List.drop_zero, List.drop_nil, List.take_succ_cons, List.take_zero, List.length_cons, List.length_nil, List.length_map, List.length_append, List.all_cons, List.all_nil, List.isEmpty_cons, List.isEmpty_nil, List.cons_append, List.nil_append, List.append_nil, Bool.and_self, Bool.or_true, Bool.true_or, Bool.or_false, Bool.false_or, ↓reduceIte, Nat.reduceEqDiff, Nat.reduceAdd, Nat.reduceSub, Nat.reduceMul, Nat.reduceLeDiff, Nat.reduceBEq, Nat.zero_add, Nat.add_zero, and_self, true_and, and_true, Bool.not_true, Bool.not_false, Bool.false_eq_true, decide_true, decide_false, natInt, Int.natCast_nonneg, Int.toNat_zero, Int.toNat_one, Int.reduceLE, Int.reduceToNat, Int.reduceLT, Int.reduceEq, eq_self, Nat.le_refl, okc0, len0, tk0, dr0, okc1, len1, tk1, dr1, drop0]; exact rfl) (by simp only [trimS, Nat.testBit, Nat.reduceShiftRight, Nat.reduceAnd, Nat.reduceBneDiff, Nat.reduceBEq, bne, Bool.not_true, Bool.not_false, ↓reduceIte, Bool.false_eq_true]; exact rfl) ?_); first | (change pwp _ _ _ _ _) | skip)
    ))
  (first
    | (refine region_0 (by simp only [List.map_cons, List.map_nil]; exact rfl) ?_)
    | (refine region_D 5 (by kernel_rfl) (by simp only [List.map_cons, List.map_nil]; exact rfl) ?_)
    )
  (refine runs_go (by simp only [tt_0, tt_1, tt_2, tt_3, tt_4, tt_5, tt_6, tt_7, pm_0, pm_1, pm_2, pm_3, pm_4, pm_5, pm_6, pm_7, e0P, gs, gm, initS, rb_int, rb_str, rb_sub, rb_dcl, rb_opr, rb_ints, rowsB_nil, rowsB_cons, bqtt, bqtf, bqft, bqff, List.map_cons, List.map_nil, List.getElem?_cons_zero, List.getElem?_cons_succ, List.getElem?_map, Option.map_some, Option.map_none, Option.join_some, Option.getD_some, Option.isNone_none, Option.isNone_some, Option.isSome_none, Option.isSome_some, List.drop_succ_cons, List.drop_zero, List.drop_nil, List.take_succ_cons, List.take_zero, List.length_cons, List.length_nil, List.length_map, List.length_append, List.all_cons, List.all_nil, List.isEmpty_cons, List.isEmpty_nil, List.cons_append, List.nil_append, List.append_nil, Bool.and_self, Bool.or_true, Bool.true_or, Bool.or_false, Bool.false_or, ↓reduceIte, Nat.reduceEqDiff, Nat.reduceAdd, Nat.reduceSub, Nat.reduceMul, Nat.reduceLeDiff, Nat.reduceBEq, Nat.zero_add, Nat.add_zero, and_self, true_and, and_true, Bool.not_true, Bool.not_false, Bool.false_eq_true, decide_true, decide_false, natInt, Int.natCast_nonneg, Int.toNat_zero, Int.toNat_one, Int.reduceLE, Int.reduceToNat, Int.reduceLT, Int.reduceEq, eq_self, Nat.le_refl, okc0, len0, tk0, dr0, okc1, len1, tk1, dr1, drop0]; exact rfl) (by simp only [tt_0, tt_1, tt_2, tt_3, tt_4, tt_5, tt_6, tt_7, pm_0, pm_1, pm_2, pm_3, pm_4, pm_5, pm_6, pm_7, e0P, gs, gm, initS, rb_int, rb_str, rb_sub, rb_dcl, rb_opr, rb_ints, rowsB_nil, rowsB_cons, bqtt, bqtf, bqft, bqff, List.map_cons, List.map_nil, List.getElem?_cons_zero, List.getElem?_cons_succ, List.getElem?_map, Option.map_some, Option.map_none, Option.join_some, Option.getD_some, Option.isNone_none, Option.isNone_some, Option.isSome_none, Option.isSome_some, List.drop_succ_cons, List.drop_zero, List.drop_nil, List.take_succ_cons, List.take_zero, List.length_cons, List.length_nil, List.length_map, List.length_append, List.all_cons, List.all_nil, List.isEmpty_cons, List.isEmpty_nil, List.cons_append, List.nil_append, List.append_nil, Bool.and_self, Bool.or_true, Bool.true_or, Bool.or_false, Bool.false_or, ↓reduceIte, Nat.reduceEqDiff, Nat.reduceAdd, Nat.reduceSub, Nat.reduceMul, Nat.reduceLeDiff, Nat.reduceBEq, Nat.zero_add, Nat.add_zero, and_self, true_and, and_true, Bool.not_true, Bool.not_false, Bool.false_eq_true, decide_true, decide_false, natInt, Int.natCast_nonneg, Int.toNat_zero, Int.toNat_one, Int.reduceLE, Int.reduceToNat, Int.reduceLT, Int.reduceEq, eq_self, Nat.le_refl, okc0, len0, tk0, dr0, okc1, len1, tk1, dr1, drop0]; exact rfl) (cT1) (by simp only [setA, retA]; exact rfl) ?_)
  (refine runs_end (by simp only [tt_0, tt_1, tt_2, tt_3, tt_4, tt_5, tt_6, tt_7, pm_0, pm_1, pm_2, pm_3, pm_4, pm_5, pm_6, pm_7, e0P, gs, gm, initS, rb_int, rb_str, rb_sub, rb_dcl, rb_opr, rb_ints, rowsB_nil, rowsB_cons, bqtt, bqtf, bqft, bqff, List.map_cons, List.map_nil, List.getElem?_cons_zero, List.getElem?_cons_succ, List.getElem?_map, Option.map_some, Option.map_none, Option.join_some, Option.getD_some, Option.isNone_none, Option.isNone_some, Option.isSome_none, Option.isSome_some, List.drop_succ_cons, List.drop_zero, List.drop_nil, List.take_succ_cons, List.take_zero, List.length_cons, List.length_nil, List.length_map, List.length_append, List.all_cons, List.all_nil, List.isEmpty_cons, List.isEmpty_nil, List.cons_append, List.nil_append, List.append_nil, Bool.and_self, Bool.or_true, Bool.true_or, Bool.or_false, Bool.false_or, ↓reduceIte, Nat.reduceEqDiff, Nat.reduceAdd, Nat.reduceSub, Nat.reduceMul, Nat.reduceLeDiff, Nat.reduceBEq, Nat.zero_add, Nat.add_zero, and_self, true_and, and_true, Bool.not_true, Bool.not_false, Bool.false_eq_true, decide_true, decide_false, natInt, Int.natCast_nonneg, Int.toNat_zero, Int.toNat_one, Int.reduceLE, Int.reduceToNat, Int.reduceLT, Int.reduceEq, eq_self, Nat.le_refl, okc0, len0, tk0, dr0, okc1, len1, tk1, dr1, drop0]; exact rfl) (by simp only [trimS, Nat.testBit, Nat.reduceShiftRight, Nat.reduceAnd, Nat.reduceBneDiff, Nat.reduceBEq, bne, Bool.not_true, Bool.not_false, ↓reduceIte, Bool.false_eq_true]; exact rfl) ?_
   change pwp _ _ _ _ _)
  (repeat (first
    | (with_reducible refine pwp_seq ?_)
    | (with_reducible refine pwp_block ?_)
    | ((with_reducible refine pwp_skip ?_); first | (change pwp _ _ _ _ _) | skip)
    | ((with_reducible refine pwp_exit ?_); first | (change pwp _ _ _ _ _) | skip)
    | ((with_reducible refine pwp_ct ?_ ?_); · simp only [evA, constA, gs, Nat.reduceEqDiff, ↓reduceIte])
    | ((with_reducible refine pwp_cf ?_ ?_); · simp only [evA, constA, gs, Nat.reduceEqDiff, ↓reduceIte])
    | (refine region_0 (by simp only [List.map_cons, List.map_nil]; exact rfl) (runs_end (by simp only [tt_0, tt_1, tt_2, tt_3, tt_4, tt_5, tt_6, tt_7, pm_0, pm_1, pm_2, pm_3, pm_4, pm_5, pm_6, pm_7, e0P, gs, gm, initS, rb_int, rb_str, rb_sub, rb_dcl, rb_opr, rb_ints, rowsB_nil, rowsB_cons, bqtt, bqtf, bqft, bqff, List.map_cons, List.map_nil, List.getElem?_cons_zero, List.getElem?_cons_succ, List.getElem?_map, Option.map_some, Option.map_none, Option.join_some, Option.getD_some, Option.isNone_none, Option.isNone_some, Option.isSome_none, Option.isSome_some, List.drop_succ_cons, List.drop_zero, List.drop_nil, List.take_succ_cons, List.take_zero, List.length_cons, List.length_nil, List.length_map, List.length_append, List.all_cons, List.all_nil, List.isEmpty_cons, List.isEmpty_nil, List.cons_append, List.nil_append, List.append_nil, Bool.and_self, Bool.or_true, Bool.true_or, Bool.or_false, Bool.false_or, ↓reduceIte, Nat.reduceEqDiff, Nat.reduceAdd, Nat.reduceSub, Nat.reduceMul, Nat.reduceLeDiff, Nat.reduceBEq, Nat.zero_add, Nat.add_zero, and_self, true_and, and_true, Bool.not_true, Bool.not_false, Bool.false_eq_true, decide_true, decide_false, natInt, Int.natCast_nonneg, Int.toNat_zero, Int.toNat_one, Int.reduceLE, Int.reduceToNat, Int.reduceLT, Int.reduceEq, eq_self, Nat.le_refl, okc0, len0, tk0, dr0, okc1, len1, tk1, dr1, drop0]; exact rfl) (by simp only [trimS, Nat.testBit, Nat.reduceShiftRight, Nat.reduceAnd, Nat.reduceBneDiff, Nat.reduceBEq, bne, Bool.not_true, Bool.not_false, ↓reduceIte, Bool.false_eq_true]; exact rfl) ?_); first | (change pwp _ _ _ _ _) | skip)
    | (refine region_D 5 (by kernel_rfl) (by simp only [List.map_cons, List.map_nil]; exact rfl) (runs_end (by simp only [tt_0, tt_1, tt_2, tt_3, tt_4, tt_5, tt_6, tt_7, pm_0, pm_1, pm_2, pm_3, pm_4, pm_5, pm_6, pm_7, e0P, gs, gm, initS, rb_int, rb_str, rb_sub, rb_dcl, rb_opr, rb_ints, rowsB_nil, rowsB_cons, bqtt, bqtf, bqft, bqff, List.map_cons, List.map_nil, List.getElem?_cons_zero, List.getElem?_cons_succ, List.getElem?_map, Option.map_some, Option.map_none, Option.join_some, Option.getD_some, Option.isNone_none, Option.isNone_some, Option.isSome_none, Option.isSome_some, List.drop_succ_cons, List.drop_zero, List.drop_nil, List.take_succ_cons, List.take_zero, List.length_cons, List.length_nil, List.length_map, List.length_append, List.all_cons, List.all_nil, List.isEmpty_cons, List.isEmpty_nil, List.cons_append, List.nil_append, List.append_nil, Bool.and_self, Bool.or_true, Bool.true_or, Bool.or_false, Bool.false_or, ↓reduceIte, Nat.reduceEqDiff, Nat.reduceAdd, Nat.reduceSub, Nat.reduceMul, Nat.reduceLeDiff, Nat.reduceBEq, Nat.zero_add, Nat.add_zero, and_self, true_and, and_true, Bool.not_true, Bool.not_false, Bool.false_eq_true, decide_true, decide_false, natInt, Int.natCast_nonneg, Int.toNat_zero, Int.toNat_one, Int.reduceLE, Int.reduceToNat, Int.reduceLT, Int.reduceEq, eq_self, Nat.le_refl, okc0, len0, tk0, dr0, okc1, len1, tk1, dr1, drop0]; exact rfl) (by simp only [trimS, Nat.testBit, Nat.reduceShiftRight, Nat.reduceAnd, Nat.reduceBneDiff, Nat.reduceBEq, bne, Bool.not_true, Bool.not_false, ↓reduceIte, Bool.false_eq_true]; exact rfl) ?_); first | (change pwp _ _ _ _ _) | skip)
    ))
  (first
    | (refine region_0 (by simp only [List.map_cons, List.map_nil]; exact rfl) ?_)
    | (refine region_D 5 (by kernel_rfl) (by simp only [List.map_cons, List.map_nil]; exact rfl) ?_)
    )
  (refine runs_go (by simp only [tt_0, tt_1, tt_2, tt_3, tt_4, tt_5, tt_6, tt_7, pm_0, pm_1, pm_2, pm_3, pm_4, pm_5, pm_6, pm_7, e0P, gs, gm, initS, rb_int, rb_str, rb_sub, rb_dcl, rb_opr, rb_ints, rowsB_nil, rowsB_cons, bqtt, bqtf, bqft, bqff, List.map_cons, List.map_nil, List.getElem?_cons_zero, List.getElem?_cons_succ, List.getElem?_map, Option.map_some, Option.map_none, Option.join_some, Option.getD_some, Option.isNone_none, Option.isNone_some, Option.isSome_none, Option.isSome_some, List.drop_succ_cons, List.drop_zero, List.drop_nil, List.take_succ_cons, List.take_zero, List.length_cons, List.length_nil, List.length_map, List.length_append, List.all_cons, List.all_nil, List.isEmpty_cons, List.isEmpty_nil, List.cons_append, List.nil_append, List.append_nil, Bool.and_self, Bool.or_true, Bool.true_or, Bool.or_false, Bool.false_or, ↓reduceIte, Nat.reduceEqDiff, Nat.reduceAdd, Nat.reduceSub, Nat.reduceMul, Nat.reduceLeDiff, Nat.reduceBEq, Nat.zero_add, Nat.add_zero, and_self, true_and, and_true, Bool.not_true, Bool.not_false, Bool.false_eq_true, decide_true, decide_false, natInt, Int.natCast_nonneg, Int.toNat_zero, Int.toNat_one, Int.reduceLE, Int.reduceToNat, Int.reduceLT, Int.reduceEq, eq_self, Nat.le_refl, okc0, len0, tk0, dr0, okc1, len1, tk1, dr1, drop0]; exact rfl) (by simp only [tt_0, tt_1, tt_2, tt_3, tt_4, tt_5, tt_6, tt_7, pm_0, pm_1, pm_2, pm_3, pm_4, pm_5, pm_6, pm_7, e0P, gs, gm, initS, rb_int, rb_str, rb_sub, rb_dcl, rb_opr, rb_ints, rowsB_nil, rowsB_cons, bqtt, bqtf, bqft, bqff, List.map_cons, List.map_nil, List.getElem?_cons_zero, List.getElem?_cons_succ, List.getElem?_map, Option.map_some, Option.map_none, Option.join_some, Option.getD_some, Option.isNone_none, Option.isNone_some, Option.isSome_none, Option.isSome_some, List.drop_succ_cons, List.drop_zero, List.drop_nil, List.take_succ_cons, List.take_zero, List.length_cons, List.length_nil, List.length_map, List.length_append, List.all_cons, List.all_nil, List.isEmpty_cons, List.isEmpty_nil, List.cons_append, List.nil_append, List.append_nil, Bool.and_self, Bool.or_true, Bool.true_or, Bool.or_false, Bool.false_or, ↓reduceIte, Nat.reduceEqDiff, Nat.reduceAdd, Nat.reduceSub, Nat.reduceMul, Nat.reduceLeDiff, Nat.reduceBEq, Nat.zero_add, Nat.add_zero, and_self, true_and, and_true, Bool.not_true, Bool.not_false, Bool.false_eq_true, decide_true, decide_false, natInt, Int.natCast_nonneg, Int.toNat_zero, Int.toNat_one, Int.reduceLE, Int.reduceToNat, Int.reduceLT, Int.reduceEq, eq_self, Nat.le_refl, okc0, len0, tk0, dr0, okc1, len1, tk1, dr1, drop0]; exact rfl) (him) (by simp only [setA, retA]; exact rfl) ?_)
  (refine runs_end (by simp only [tt_0, tt_1, tt_2, tt_3, tt_4, tt_5, tt_6, tt_7, pm_0, pm_1, pm_2, pm_3, pm_4, pm_5, pm_6, pm_7, e0P, gs, gm, initS, rb_int, rb_str, rb_sub, rb_dcl, rb_opr, rb_ints, rowsB_nil, rowsB_cons, bqtt, bqtf, bqft, bqff, List.map_cons, List.map_nil, List.getElem?_cons_zero, List.getElem?_cons_succ, List.getElem?_map, Option.map_some, Option.map_none, Option.join_some, Option.getD_some, Option.isNone_none, Option.isNone_some, Option.isSome_none, Option.isSome_some, List.drop_succ_cons, List.drop_zero, List.drop_nil, List.take_succ_cons, List.take_zero, List.length_cons, List.length_nil, List.length_map, List.length_append, List.all_cons, List.all_nil, List.isEmpty_cons, List.isEmpty_nil, List.cons_append, List.nil_append, List.append_nil, Bool.and_self, Bool.or_true, Bool.true_or, Bool.or_false, Bool.false_or, ↓reduceIte, Nat.reduceEqDiff, Nat.reduceAdd, Nat.reduceSub, Nat.reduceMul, Nat.reduceLeDiff, Nat.reduceBEq, Nat.zero_add, Nat.add_zero, and_self, true_and, and_true, Bool.not_true, Bool.not_false, Bool.false_eq_true, decide_true, decide_false, natInt, Int.natCast_nonneg, Int.toNat_zero, Int.toNat_one, Int.reduceLE, Int.reduceToNat, Int.reduceLT, Int.reduceEq, eq_self, Nat.le_refl, okc0, len0, tk0, dr0, okc1, len1, tk1, dr1, drop0]; exact rfl) (by simp only [trimS, Nat.testBit, Nat.reduceShiftRight, Nat.reduceAnd, Nat.reduceBneDiff, Nat.reduceBEq, bne, Bool.not_true, Bool.not_false, ↓reduceIte, Bool.false_eq_true]; exact rfl) ?_
   change pwp _ _ _ _ _)
  (repeat (first
    | (with_reducible refine pwp_seq ?_)
    | (with_reducible refine pwp_block ?_)
    | ((with_reducible refine pwp_skip ?_); first | (change pwp _ _ _ _ _) | skip)
    | ((with_reducible refine pwp_exit ?_); first | (change pwp _ _ _ _ _) | skip)
    | ((with_reducible refine pwp_ct ?_ ?_); · simp only [evA, constA, gs, Nat.reduceEqDiff, ↓reduceIte])
    | ((with_reducible refine pwp_cf ?_ ?_); · simp only [evA, constA, gs, Nat.reduceEqDiff, ↓reduceIte])
    | (refine region_0 (by simp only [List.map_cons, List.map_nil]; exact rfl) (runs_end (by simp only [tt_0, tt_1, tt_2, tt_3, tt_4, tt_5, tt_6, tt_7, pm_0, pm_1, pm_2, pm_3, pm_4, pm_5, pm_6, pm_7, e0P, gs, gm, initS, rb_int, rb_str, rb_sub, rb_dcl, rb_opr, rb_ints, rowsB_nil, rowsB_cons, bqtt, bqtf, bqft, bqff, List.map_cons, List.map_nil, List.getElem?_cons_zero, List.getElem?_cons_succ, List.getElem?_map, Option.map_some, Option.map_none, Option.join_some, Option.getD_some, Option.isNone_none, Option.isNone_some, Option.isSome_none, Option.isSome_some, List.drop_succ_cons, List.drop_zero, List.drop_nil, List.take_succ_cons, List.take_zero, List.length_cons, List.length_nil, List.length_map, List.length_append, List.all_cons, List.all_nil, List.isEmpty_cons, List.isEmpty_nil, List.cons_append, List.nil_append, List.append_nil, Bool.and_self, Bool.or_true, Bool.true_or, Bool.or_false, Bool.false_or, ↓reduceIte, Nat.reduceEqDiff, Nat.reduceAdd, Nat.reduceSub, Nat.reduceMul, Nat.reduceLeDiff, Nat.reduceBEq, Nat.zero_add, Nat.add_zero, and_self, true_and, and_true, Bool.not_true, Bool.not_false, Bool.false_eq_true, decide_true, decide_false, natInt, Int.natCast_nonneg, Int.toNat_zero, Int.toNat_one, Int.reduceLE, Int.reduceToNat, Int.reduceLT, Int.reduceEq, eq_self, Nat.le_refl, okc0, len0, tk0, dr0, okc1, len1, tk1, dr1, drop0, beq_self_eq_true, decide_true]; exact rfl) (by simp only [trimS, Nat.testBit, Nat.reduceShiftRight, Nat.reduceAnd, Nat.reduceBneDiff, Nat.reduceBEq, bne, Bool.not_true, Bool.not_false, ↓reduceIte, Bool.false_eq_true]; exact rfl) ?_); first | (change pwp _ _ _ _ _) | skip)
    | (refine region_D 5 (by kernel_rfl) (by simp only [List.map_cons, List.map_nil]; exact rfl) (runs_end (by simp only [tt_0, tt_1, tt_2, tt_3, tt_4, tt_5, tt_6, tt_7, pm_0, pm_1, pm_2, pm_3, pm_4, pm_5, pm_6, pm_7, e0P, gs, gm, initS, rb_int, rb_str, rb_sub, rb_dcl, rb_opr, rb_ints, rowsB_nil, rowsB_cons, bqtt, bqtf, bqft, bqff, List.map_cons, List.map_nil, List.getElem?_cons_zero, List.getElem?_cons_succ, List.getElem?_map, Option.map_some, Option.map_none, Option.join_some, Option.getD_some, Option.isNone_none, Option.isNone_some, Option.isSome_none, Option.isSome_some, List.drop_succ_cons, List.drop_zero, List.drop_nil, List.take_succ_cons, List.take_zero, List.length_cons, List.length_nil, List.length_map, List.length_append, List.all_cons, List.all_nil, List.isEmpty_cons, List.isEmpty_nil, List.cons_append, List.nil_append, List.append_nil, Bool.and_self, Bool.or_true, Bool.true_or, Bool.or_false, Bool.false_or, ↓reduceIte, Nat.reduceEqDiff, Nat.reduceAdd, Nat.reduceSub, Nat.reduceMul, Nat.reduceLeDiff, Nat.reduceBEq, Nat.zero_add, Nat.add_zero, and_self, true_and, and_true, Bool.not_true, Bool.not_false, Bool.false_eq_true, decide_true, decide_false, natInt, Int.natCast_nonneg, Int.toNat_zero, Int.toNat_one, Int.reduceLE, Int.reduceToNat, Int.reduceLT, Int.reduceEq, eq_self, Nat.le_refl, okc0, len0, tk0, dr0, okc1, len1, tk1, dr1, drop0, beq_self_eq_true, decide_true]; exact rfl) (by simp only [trimS, Nat.testBit, Nat.reduceShiftRight, Nat.reduceAnd, Nat.reduceBneDiff, Nat.reduceBEq, bne, Bool.not_true, Bool.not_false, ↓reduceIte, Bool.false_eq_true]; exact rfl) ?_); first | (change pwp _ _ _ _ _) | skip)
    ))
  (first
    | (refine region_0 (by simp only [List.map_cons, List.map_nil]; exact rfl) ?_)
    | (refine region_D 5 (by kernel_rfl) (by simp only [List.map_cons, List.map_nil]; exact rfl) ?_)
    )
  (refine runs_go (by simp only [tt_0, tt_1, tt_2, tt_3, tt_4, tt_5, tt_6, tt_7, pm_0, pm_1, pm_2, pm_3, pm_4, pm_5, pm_6, pm_7, e0P, gs, gm, initS, rb_int, rb_str, rb_sub, rb_dcl, rb_opr, rb_ints, rowsB_nil, rowsB_cons, bqtt, bqtf, bqft, bqff, List.map_cons, List.map_nil, List.getElem?_cons_zero, List.getElem?_cons_succ, List.getElem?_map, Option.map_some, Option.map_none, Option.join_some, Option.getD_some, Option.isNone_none, Option.isNone_some, Option.isSome_none, Option.isSome_some, List.drop_succ_cons, List.drop_zero, List.drop_nil, List.take_succ_cons, List.take_zero, List.length_cons, List.length_nil, List.length_map, List.length_append, List.all_cons, List.all_nil, List.isEmpty_cons, List.isEmpty_nil, List.cons_append, List.nil_append, List.append_nil, Bool.and_self, Bool.or_true, Bool.true_or, Bool.or_false, Bool.false_or, ↓reduceIte, Nat.reduceEqDiff, Nat.reduceAdd, Nat.reduceSub, Nat.reduceMul, Nat.reduceLeDiff, Nat.reduceBEq, Nat.zero_add, Nat.add_zero, and_self, true_and, and_true, Bool.not_true, Bool.not_false, Bool.false_eq_true, decide_true, decide_false, natInt, Int.natCast_nonneg, Int.toNat_zero, Int.toNat_one, Int.reduceLE, Int.reduceToNat, Int.reduceLT, Int.reduceEq, eq_self, Nat.le_refl, okc0, len0, tk0, dr0, okc1, len1, tk1, dr1, drop0]; exact rfl) (by simp only [tt_0, tt_1, tt_2, tt_3, tt_4, tt_5, tt_6, tt_7, pm_0, pm_1, pm_2, pm_3, pm_4, pm_5, pm_6, pm_7, e0P, gs, gm, initS, rb_int, rb_str, rb_sub, rb_dcl, rb_opr, rb_ints, rowsB_nil, rowsB_cons, bqtt, bqtf, bqft, bqff, List.map_cons, List.map_nil, List.getElem?_cons_zero, List.getElem?_cons_succ, List.getElem?_map, Option.map_some, Option.map_none, Option.join_some, Option.getD_some, Option.isNone_none, Option.isNone_some, Option.isSome_none, Option.isSome_some, List.drop_succ_cons, List.drop_zero, List.drop_nil, List.take_succ_cons, List.take_zero, List.length_cons, List.length_nil, List.length_map, List.length_append, List.all_cons, List.all_nil, List.isEmpty_cons, List.isEmpty_nil, List.cons_append, List.nil_append, List.append_nil, Bool.and_self, Bool.or_true, Bool.true_or, Bool.or_false, Bool.false_or, ↓reduceIte, Nat.reduceEqDiff, Nat.reduceAdd, Nat.reduceSub, Nat.reduceMul, Nat.reduceLeDiff, Nat.reduceBEq, Nat.zero_add, Nat.add_zero, and_self, true_and, and_true, Bool.not_true, Bool.not_false, Bool.false_eq_true, decide_true, decide_false, natInt, Int.natCast_nonneg, Int.toNat_zero, Int.toNat_one, Int.reduceLE, Int.reduceToNat, Int.reduceLT, Int.reduceEq, eq_self, Nat.le_refl, okc0, len0, tk0, dr0, okc1, len1, tk1, dr1, drop0]; exact rfl) (cT0) (by simp only [setA, retA]; exact rfl) ?_)
  (refine runs_go (by simp only [tt_0, tt_1, tt_2, tt_3, tt_4, tt_5, tt_6, tt_7, pm_0, pm_1, pm_2, pm_3, pm_4, pm_5, pm_6, pm_7, e0P, gs, gm, initS, rb_int, rb_str, rb_sub, rb_dcl, rb_opr, rb_ints, rowsB_nil, rowsB_cons, bqtt, bqtf, bqft, bqff, List.map_cons, List.map_nil, List.getElem?_cons_zero, List.getElem?_cons_succ, List.getElem?_map, Option.map_some, Option.map_none, Option.join_some, Option.getD_some, Option.isNone_none, Option.isNone_some, Option.isSome_none, Option.isSome_some, List.drop_succ_cons, List.drop_zero, List.drop_nil, List.take_succ_cons, List.take_zero, List.length_cons, List.length_nil, List.length_map, List.length_append, List.all_cons, List.all_nil, List.isEmpty_cons, List.isEmpty_nil, List.cons_append, List.nil_append, List.append_nil, Bool.and_self, Bool.or_true, Bool.true_or, Bool.or_false, Bool.false_or, ↓reduceIte, Nat.reduceEqDiff, Nat.reduceAdd, Nat.reduceSub, Nat.reduceMul, Nat.reduceLeDiff, Nat.reduceBEq, Nat.zero_add, Nat.add_zero, and_self, true_and, and_true, Bool.not_true, Bool.not_false, Bool.false_eq_true, decide_true, decide_false, natInt, Int.natCast_nonneg, Int.toNat_zero, Int.toNat_one, Int.reduceLE, Int.reduceToNat, Int.reduceLT, Int.reduceEq, eq_self, Nat.le_refl, okc0, len0, tk0, dr0, okc1, len1, tk1, dr1, drop0]; exact rfl) (by simp only [tt_0, tt_1, tt_2, tt_3, tt_4, tt_5, tt_6, tt_7, pm_0, pm_1, pm_2, pm_3, pm_4, pm_5, pm_6, pm_7, e0P, gs, gm, initS, rb_int, rb_str, rb_sub, rb_dcl, rb_opr, rb_ints, rowsB_nil, rowsB_cons, bqtt, bqtf, bqft, bqff, List.map_cons, List.map_nil, List.getElem?_cons_zero, List.getElem?_cons_succ, List.getElem?_map, Option.map_some, Option.map_none, Option.join_some, Option.getD_some, Option.isNone_none, Option.isNone_some, Option.isSome_none, Option.isSome_some, List.drop_succ_cons, List.drop_zero, List.drop_nil, List.take_succ_cons, List.take_zero, List.length_cons, List.length_nil, List.length_map, List.length_append, List.all_cons, List.all_nil, List.isEmpty_cons, List.isEmpty_nil, List.cons_append, List.nil_append, List.append_nil, Bool.and_self, Bool.or_true, Bool.true_or, Bool.or_false, Bool.false_or, ↓reduceIte, Nat.reduceEqDiff, Nat.reduceAdd, Nat.reduceSub, Nat.reduceMul, Nat.reduceLeDiff, Nat.reduceBEq, Nat.zero_add, Nat.add_zero, and_self, true_and, and_true, Bool.not_true, Bool.not_false, Bool.false_eq_true, decide_true, decide_false, natInt, Int.natCast_nonneg, Int.toNat_zero, Int.toNat_one, Int.reduceLE, Int.reduceToNat, Int.reduceLT, Int.reduceEq, eq_self, Nat.le_refl, okc0, len0, tk0, dr0, okc1, len1, tk1, dr1, drop0]; exact rfl) (con_eqSignature hok0) (by simp only [setA, retA]; exact rfl) ?_)
  (refine runs_end (by simp only [tt_0, tt_1, tt_2, tt_3, tt_4, tt_5, tt_6, tt_7, pm_0, pm_1, pm_2, pm_3, pm_4, pm_5, pm_6, pm_7, e0P, gs, gm, initS, rb_int, rb_str, rb_sub, rb_dcl, rb_opr, rb_ints, rowsB_nil, rowsB_cons, bqtt, bqtf, bqft, bqff, List.map_cons, List.map_nil, List.getElem?_cons_zero, List.getElem?_cons_succ, List.getElem?_map, Option.map_some, Option.map_none, Option.join_some, Option.getD_some, Option.isNone_none, Option.isNone_some, Option.isSome_none, Option.isSome_some, List.drop_succ_cons, List.drop_zero, List.drop_nil, List.take_succ_cons, List.take_zero, List.length_cons, List.length_nil, List.length_map, List.length_append, List.all_cons, List.all_nil, List.isEmpty_cons, List.isEmpty_nil, List.cons_append, List.nil_append, List.append_nil, Bool.and_self, Bool.or_true, Bool.true_or, Bool.or_false, Bool.false_or, ↓reduceIte, Nat.reduceEqDiff, Nat.reduceAdd, Nat.reduceSub, Nat.reduceMul, Nat.reduceLeDiff, Nat.reduceBEq, Nat.zero_add, Nat.add_zero, and_self, true_and, and_true, Bool.not_true, Bool.not_false, Bool.false_eq_true, decide_true, decide_false, natInt, Int.natCast_nonneg, Int.toNat_zero, Int.toNat_one, Int.reduceLE, Int.reduceToNat, Int.reduceLT, Int.reduceEq, eq_self, Nat.le_refl, okc0, len0, tk0, dr0, okc1, len1, tk1, dr1, drop0]; exact rfl) (by simp only [trimS, Nat.testBit, Nat.reduceShiftRight, Nat.reduceAnd, Nat.reduceBneDiff, Nat.reduceBEq, bne, Bool.not_true, Bool.not_false, ↓reduceIte, Bool.false_eq_true]; exact rfl) ?_
   change pwp _ _ _ _ _)
  (repeat (first
    | (with_reducible refine pwp_seq ?_)
    | (with_reducible refine pwp_block ?_)
    | ((with_reducible refine pwp_skip ?_); first | (change pwp _ _ _ _ _) | skip)
    | ((with_reducible refine pwp_exit ?_); first | (change pwp _ _ _ _ _) | skip)
    | ((with_reducible refine pwp_ct ?_ ?_); · simp only [evA, constA, gs, Nat.reduceEqDiff, ↓reduceIte])
    | ((with_reducible refine pwp_cf ?_ ?_); · simp only [evA, constA, gs, Nat.reduceEqDiff, ↓reduceIte])
    | (refine region_0 (by simp only [List.map_cons, List.map_nil]; exact rfl) (runs_end (by simp only [tt_0, tt_1, tt_2, tt_3, tt_4, tt_5, tt_6, tt_7, pm_0, pm_1, pm_2, pm_3, pm_4, pm_5, pm_6, pm_7, e0P, gs, gm, initS, rb_int, rb_str, rb_sub, rb_dcl, rb_opr, rb_ints, rowsB_nil, rowsB_cons, bqtt, bqtf, bqft, bqff, List.map_cons, List.map_nil, List.getElem?_cons_zero, List.getElem?_cons_succ, List.getElem?_map, Option.map_some, Option.map_none, Option.join_some, Option.getD_some, Option.isNone_none, Option.isNone_some, Option.isSome_none, Option.isSome_some, List.drop_succ_cons, List.drop_zero, List.drop_nil, List.take_succ_cons, List.take_zero, List.length_cons, List.length_nil, List.length_map, List.length_append, List.all_cons, List.all_nil, List.isEmpty_cons, List.isEmpty_nil, List.cons_append, List.nil_append, List.append_nil, Bool.and_self, Bool.or_true, Bool.true_or, Bool.or_false, Bool.false_or, ↓reduceIte, Nat.reduceEqDiff, Nat.reduceAdd, Nat.reduceSub, Nat.reduceMul, Nat.reduceLeDiff, Nat.reduceBEq, Nat.zero_add, Nat.add_zero, and_self, true_and, and_true, Bool.not_true, Bool.not_false, Bool.false_eq_true, decide_true, decide_false, natInt, Int.natCast_nonneg, Int.toNat_zero, Int.toNat_one, Int.reduceLE, Int.reduceToNat, Int.reduceLT, Int.reduceEq, eq_self, Nat.le_refl, okc0, len0, tk0, dr0, okc1, len1, tk1, dr1, drop0]; exact rfl) (by simp only [trimS, Nat.testBit, Nat.reduceShiftRight, Nat.reduceAnd, Nat.reduceBneDiff, Nat.reduceBEq, bne, Bool.not_true, Bool.not_false, ↓reduceIte, Bool.false_eq_true]; exact rfl) ?_); first | (change pwp _ _ _ _ _) | skip)
    | (refine region_D 5 (by kernel_rfl) (by simp only [List.map_cons, List.map_nil]; exact rfl) (runs_end (by simp only [tt_0, tt_1, tt_2, tt_3, tt_4, tt_5, tt_6, tt_7, pm_0, pm_1, pm_2, pm_3, pm_4, pm_5, pm_6, pm_7, e0P, gs, gm, initS, rb_int, rb_str, rb_sub, rb_dcl, rb_opr, rb_ints, rowsB_nil, rowsB_cons, bqtt, bqtf, bqft, bqff, List.map_cons, List.map_nil, List.getElem?_cons_zero, List.getElem?_cons_succ, List.getElem?_map, Option.map_some, Option.map_none, Option.join_some, Option.getD_some, Option.isNone_none, Option.isNone_some, Option.isSome_none, Option.isSome_some, List.drop_succ_cons, List.drop_zero, List.drop_nil, List.take_succ_cons, List.take_zero, List.length_cons, List.length_nil, List.length_map, List.length_append, List.all_cons, List.all_nil, List.isEmpty_cons, List.isEmpty_nil, List.cons_append, List.nil_append, List.append_nil, Bool.and_self, Bool.or_true, Bool.true_or, Bool.or_false, Bool.false_or, ↓reduceIte, Nat.reduceEqDiff, Nat.reduceAdd, Nat.reduceSub, Nat.reduceMul, Nat.reduceLeDiff, Nat.reduceBEq, Nat.zero_add, Nat.add_zero, and_self, true_and, and_true, Bool.not_true, Bool.not_false, Bool.false_eq_true, decide_true, decide_false, natInt, Int.natCast_nonneg, Int.toNat_zero, Int.toNat_one, Int.reduceLE, Int.reduceToNat, Int.reduceLT, Int.reduceEq, eq_self, Nat.le_refl, okc0, len0, tk0, dr0, okc1, len1, tk1, dr1, drop0]; exact rfl) (by simp only [trimS, Nat.testBit, Nat.reduceShiftRight, Nat.reduceAnd, Nat.reduceBneDiff, Nat.reduceBEq, bne, Bool.not_true, Bool.not_false, ↓reduceIte, Bool.false_eq_true]; exact rfl) ?_); first | (change pwp _ _ _ _ _) | skip)
    ))
  (first
    | (refine region_0 (by simp only [List.map_cons, List.map_nil]; exact rfl) ?_)
    | (refine region_D 5 (by kernel_rfl) (by simp only [List.map_cons, List.map_nil]; exact rfl) ?_)
    )
  (refine runs_go (by simp only [tt_0, tt_1, tt_2, tt_3, tt_4, tt_5, tt_6, tt_7, pm_0, pm_1, pm_2, pm_3, pm_4, pm_5, pm_6, pm_7, e0P, gs, gm, initS, rb_int, rb_str, rb_sub, rb_dcl, rb_opr, rb_ints, rowsB_nil, rowsB_cons, bqtt, bqtf, bqft, bqff, List.map_cons, List.map_nil, List.getElem?_cons_zero, List.getElem?_cons_succ, List.getElem?_map, Option.map_some, Option.map_none, Option.join_some, Option.getD_some, Option.isNone_none, Option.isNone_some, Option.isSome_none, Option.isSome_some, List.drop_succ_cons, List.drop_zero, List.drop_nil, List.take_succ_cons, List.take_zero, List.length_cons, List.length_nil, List.length_map, List.length_append, List.all_cons, List.all_nil, List.isEmpty_cons, List.isEmpty_nil, List.cons_append, List.nil_append, List.append_nil, Bool.and_self, Bool.or_true, Bool.true_or, Bool.or_false, Bool.false_or, ↓reduceIte, Nat.reduceEqDiff, Nat.reduceAdd, Nat.reduceSub, Nat.reduceMul, Nat.reduceLeDiff, Nat.reduceBEq, Nat.zero_add, Nat.add_zero, and_self, true_and, and_true, Bool.not_true, Bool.not_false, Bool.false_eq_true, decide_true, decide_false, natInt, Int.natCast_nonneg, Int.toNat_zero, Int.toNat_one, Int.reduceLE, Int.reduceToNat, Int.reduceLT, Int.reduceEq, eq_self, Nat.le_refl, okc0, len0, tk0, dr0, okc1, len1, tk1, dr1, drop0]; exact rfl) (by simp only [tt_0, tt_1, tt_2, tt_3, tt_4, tt_5, tt_6, tt_7, pm_0, pm_1, pm_2, pm_3, pm_4, pm_5, pm_6, pm_7, e0P, gs, gm, initS, rb_int, rb_str, rb_sub, rb_dcl, rb_opr, rb_ints, rowsB_nil, rowsB_cons, bqtt, bqtf, bqft, bqff, List.map_cons, List.map_nil, List.getElem?_cons_zero, List.getElem?_cons_succ, List.getElem?_map, Option.map_some, Option.map_none, Option.join_some, Option.getD_some, Option.isNone_none, Option.isNone_some, Option.isSome_none, Option.isSome_some, List.drop_succ_cons, List.drop_zero, List.drop_nil, List.take_succ_cons, List.take_zero, List.length_cons, List.length_nil, List.length_map, List.length_append, List.all_cons, List.all_nil, List.isEmpty_cons, List.isEmpty_nil, List.cons_append, List.nil_append, List.append_nil, Bool.and_self, Bool.or_true, Bool.true_or, Bool.or_false, Bool.false_or, ↓reduceIte, Nat.reduceEqDiff, Nat.reduceAdd, Nat.reduceSub, Nat.reduceMul, Nat.reduceLeDiff, Nat.reduceBEq, Nat.zero_add, Nat.add_zero, and_self, true_and, and_true, Bool.not_true, Bool.not_false, Bool.false_eq_true, decide_true, decide_false, natInt, Int.natCast_nonneg, Int.toNat_zero, Int.toNat_one, Int.reduceLE, Int.reduceToNat, Int.reduceLT, Int.reduceEq, eq_self, Nat.le_refl, okc0, len0, tk0, dr0, okc1, len1, tk1, dr1, drop0]; exact rfl) (cT1) (by simp only [setA, retA]; exact rfl) ?_)
  (refine runs_go (by simp only [tt_0, tt_1, tt_2, tt_3, tt_4, tt_5, tt_6, tt_7, pm_0, pm_1, pm_2, pm_3, pm_4, pm_5, pm_6, pm_7, e0P, gs, gm, initS, rb_int, rb_str, rb_sub, rb_dcl, rb_opr, rb_ints, rowsB_nil, rowsB_cons, bqtt, bqtf, bqft, bqff, List.map_cons, List.map_nil, List.getElem?_cons_zero, List.getElem?_cons_succ, List.getElem?_map, Option.map_some, Option.map_none, Option.join_some, Option.getD_some, Option.isNone_none, Option.isNone_some, Option.isSome_none, Option.isSome_some, List.drop_succ_cons, List.drop_zero, List.drop_nil, List.take_succ_cons, List.take_zero, List.length_cons, List.length_nil, List.length_map, List.length_append, List.all_cons, List.all_nil, List.isEmpty_cons, List.isEmpty_nil, List.cons_append, List.nil_append, List.append_nil, Bool.and_self, Bool.or_true, Bool.true_or, Bool.or_false, Bool.false_or, ↓reduceIte, Nat.reduceEqDiff, Nat.reduceAdd, Nat.reduceSub, Nat.reduceMul, Nat.reduceLeDiff, Nat.reduceBEq, Nat.zero_add, Nat.add_zero, and_self, true_and, and_true, Bool.not_true, Bool.not_false, Bool.false_eq_true, decide_true, decide_false, natInt, Int.natCast_nonneg, Int.toNat_zero, Int.toNat_one, Int.reduceLE, Int.reduceToNat, Int.reduceLT, Int.reduceEq, eq_self, Nat.le_refl, okc0, len0, tk0, dr0, okc1, len1, tk1, dr1, drop0]; exact rfl) (by simp only [tt_0, tt_1, tt_2, tt_3, tt_4, tt_5, tt_6, tt_7, pm_0, pm_1, pm_2, pm_3, pm_4, pm_5, pm_6, pm_7, e0P, gs, gm, initS, rb_int, rb_str, rb_sub, rb_dcl, rb_opr, rb_ints, rowsB_nil, rowsB_cons, bqtt, bqtf, bqft, bqff, List.map_cons, List.map_nil, List.getElem?_cons_zero, List.getElem?_cons_succ, List.getElem?_map, Option.map_some, Option.map_none, Option.join_some, Option.getD_some, Option.isNone_none, Option.isNone_some, Option.isSome_none, Option.isSome_some, List.drop_succ_cons, List.drop_zero, List.drop_nil, List.take_succ_cons, List.take_zero, List.length_cons, List.length_nil, List.length_map, List.length_append, List.all_cons, List.all_nil, List.isEmpty_cons, List.isEmpty_nil, List.cons_append, List.nil_append, List.append_nil, Bool.and_self, Bool.or_true, Bool.true_or, Bool.or_false, Bool.false_or, ↓reduceIte, Nat.reduceEqDiff, Nat.reduceAdd, Nat.reduceSub, Nat.reduceMul, Nat.reduceLeDiff, Nat.reduceBEq, Nat.zero_add, Nat.add_zero, and_self, true_and, and_true, Bool.not_true, Bool.not_false, Bool.false_eq_true, decide_true, decide_false, natInt, Int.natCast_nonneg, Int.toNat_zero, Int.toNat_one, Int.reduceLE, Int.reduceToNat, Int.reduceLT, Int.reduceEq, eq_self, Nat.le_refl, okc0, len0, tk0, dr0, okc1, len1, tk1, dr1, drop0]; exact rfl) (con_eqAlgebra hok1) (by simp only [setA, retA]; exact rfl) ?_)
  (refine runs_end (by simp only [tt_0, tt_1, tt_2, tt_3, tt_4, tt_5, tt_6, tt_7, pm_0, pm_1, pm_2, pm_3, pm_4, pm_5, pm_6, pm_7, e0P, gs, gm, initS, rb_int, rb_str, rb_sub, rb_dcl, rb_opr, rb_ints, rowsB_nil, rowsB_cons, bqtt, bqtf, bqft, bqff, List.map_cons, List.map_nil, List.getElem?_cons_zero, List.getElem?_cons_succ, List.getElem?_map, Option.map_some, Option.map_none, Option.join_some, Option.getD_some, Option.isNone_none, Option.isNone_some, Option.isSome_none, Option.isSome_some, List.drop_succ_cons, List.drop_zero, List.drop_nil, List.take_succ_cons, List.take_zero, List.length_cons, List.length_nil, List.length_map, List.length_append, List.all_cons, List.all_nil, List.isEmpty_cons, List.isEmpty_nil, List.cons_append, List.nil_append, List.append_nil, Bool.and_self, Bool.or_true, Bool.true_or, Bool.or_false, Bool.false_or, ↓reduceIte, Nat.reduceEqDiff, Nat.reduceAdd, Nat.reduceSub, Nat.reduceMul, Nat.reduceLeDiff, Nat.reduceBEq, Nat.zero_add, Nat.add_zero, and_self, true_and, and_true, Bool.not_true, Bool.not_false, Bool.false_eq_true, decide_true, decide_false, natInt, Int.natCast_nonneg, Int.toNat_zero, Int.toNat_one, Int.reduceLE, Int.reduceToNat, Int.reduceLT, Int.reduceEq, eq_self, Nat.le_refl, okc0, len0, tk0, dr0, okc1, len1, tk1, dr1, drop0]; exact rfl) (by simp only [trimS, Nat.testBit, Nat.reduceShiftRight, Nat.reduceAnd, Nat.reduceBneDiff, Nat.reduceBEq, bne, Bool.not_true, Bool.not_false, ↓reduceIte, Bool.false_eq_true]; exact rfl) ?_
   change pwp _ _ _ _ _)
  ((repeat (first
    | (with_reducible refine pwp_seq ?_)
    | (with_reducible refine pwp_block ?_)
    | ((with_reducible refine pwp_skip ?_); first | (change pwp _ _ _ _ _) | skip)
    | ((with_reducible refine pwp_exit ?_); first | (change pwp _ _ _ _ _) | skip)
    | ((with_reducible refine pwp_ct ?_ ?_); · simp only [evA, constA, gs, Nat.reduceEqDiff, ↓reduceIte])
    | ((with_reducible refine pwp_cf ?_ ?_); · simp only [evA, constA, gs, Nat.reduceEqDiff, ↓reduceIte])
    | (refine region_0 (by simp only [List.map_cons, List.map_nil]; exact rfl) (runs_end (by simp only [tt_0, tt_1, tt_2, tt_3, tt_4, tt_5, tt_6, tt_7, pm_0, pm_1, pm_2, pm_3, pm_4, pm_5, pm_6, pm_7, e0P, gs, gm, initS, rb_int, rb_str, rb_sub, rb_dcl, rb_opr, rb_ints, rowsB_nil, rowsB_cons, bqtt, bqtf, bqft, bqff, List.map_cons, List.map_nil, List.getElem?_cons_zero, List.getElem?_cons_succ, List.getElem?_map, Option.map_some, Option.map_none, Option.join_some, Option.getD_some, Option.isNone_none, Option.isNone_some, Option.isSome_none, Option.isSome_some, List.drop_succ_cons, List.drop_zero, List.drop_nil, List.take_succ_cons, List.take_zero, List.length_cons, List.length_nil, List.length_map, List.length_append, List.all_cons, List.all_nil, List.isEmpty_cons, List.isEmpty_nil, List.cons_append, List.nil_append, List.append_nil, Bool.and_self, Bool.or_true, Bool.true_or, Bool.or_false, Bool.false_or, ↓reduceIte, Nat.reduceEqDiff, Nat.reduceAdd, Nat.reduceSub, Nat.reduceMul, Nat.reduceLeDiff, Nat.reduceBEq, Nat.zero_add, Nat.add_zero, and_self, true_and, and_true, Bool.not_true, Bool.not_false, Bool.false_eq_true, decide_true, decide_false, natInt, Int.natCast_nonneg, Int.toNat_zero, Int.toNat_one, Int.reduceLE, Int.reduceToNat, Int.reduceLT, Int.reduceEq, eq_self, Nat.le_refl, okc0, len0, tk0, dr0, okc1, len1, tk1, dr1, drop0]; exact rfl) (by simp only [trimS, Nat.testBit, Nat.reduceShiftRight, Nat.reduceAnd, Nat.reduceBneDiff, Nat.reduceBEq, bne, Bool.not_true, Bool.not_false, ↓reduceIte, Bool.false_eq_true]; exact rfl) ?_); first | (change pwp _ _ _ _ _) | skip)
    | (refine region_D 5 (by kernel_rfl) (by simp only [List.map_cons, List.map_nil]; exact rfl) (runs_end (by simp only [tt_0, tt_1, tt_2, tt_3, tt_4, tt_5, tt_6, tt_7, pm_0, pm_1, pm_2, pm_3, pm_4, pm_5, pm_6, pm_7, e0P, gs, gm, initS, rb_int, rb_str, rb_sub, rb_dcl, rb_opr, rb_ints, rowsB_nil, rowsB_cons, bqtt, bqtf, bqft, bqff, List.map_cons, List.map_nil, List.getElem?_cons_zero, List.getElem?_cons_succ, List.getElem?_map, Option.map_some, Option.map_none, Option.join_some, Option.getD_some, Option.isNone_none, Option.isNone_some, Option.isSome_none, Option.isSome_some, List.drop_succ_cons, List.drop_zero, List.drop_nil, List.take_succ_cons, List.take_zero, List.length_cons, List.length_nil, List.length_map, List.length_append, List.all_cons, List.all_nil, List.isEmpty_cons, List.isEmpty_nil, List.cons_append, List.nil_append, List.append_nil, Bool.and_self, Bool.or_true, Bool.true_or, Bool.or_false, Bool.false_or, ↓reduceIte, Nat.reduceEqDiff, Nat.reduceAdd, Nat.reduceSub, Nat.reduceMul, Nat.reduceLeDiff, Nat.reduceBEq, Nat.zero_add, Nat.add_zero, and_self, true_and, and_true, Bool.not_true, Bool.not_false, Bool.false_eq_true, decide_true, decide_false, natInt, Int.natCast_nonneg, Int.toNat_zero, Int.toNat_one, Int.reduceLE, Int.reduceToNat, Int.reduceLT, Int.reduceEq, eq_self, Nat.le_refl, okc0, len0, tk0, dr0, okc1, len1, tk1, dr1, drop0]; exact rfl) (by simp only [trimS, Nat.testBit, Nat.reduceShiftRight, Nat.reduceAnd, Nat.reduceBneDiff, Nat.reduceBEq, bne, Bool.not_true, Bool.not_false, ↓reduceIte, Bool.false_eq_true]; exact rfl) ?_); first | (change pwp _ _ _ _ _) | skip)
    ))
   refine pwp_ret (ret_ok ?_)
   simp [resOk, resA, resSlots, gs, okc0, len0, tk0, dr0, okc1, len1, tk1, dr1, drop0])
theorem lawExactObeysAxioms (w : World) (row0 : List C) (S0 : Nat → Prop) (us0 : List Value) (hok0 : okRow (sigF) row0) (hv0 : RepVals w S0 row0 us0) (row1 : List C) (S1 : Nat → Prop) (us1 : List Value) (hok1 : okRow (algF) row1) (hv1 : RepVals w S1 row1 us1) :
    Calls Try.prog 4 #[.agg us0.toArray, .agg us1.toArray] w fun e w' => e = .returned (.bool true) ∧ Below w.heap.size w w' := by
  obtain ⟨g, rfl, k0⟩ := decSgn hok0
  obtain ⟨a, rfl, k1⟩ := decAlg hok1
  have hc := (con_lawObeysAxioms hok0 hok1 (fun b0 b1 => con_specOb (con_algOf (by kernel_rfl) specIsAlgebra k0 k1)) (fun b0 b1 => con_implOb (con_algOf (by kernel_rfl) implIsAlgebra k0 k1))).2 w (fun b => b < w.heap.size) [.agg us0.toArray, .agg us1.toArray] (fun b hb => ⟨hb, id⟩) (fun b hb => hb.elim) trivial
    ⟨⟨us0, rfl, hv0.inside'⟩, ⟨us1, rfl, hv1.inside'⟩, trivial⟩
  refine hc.mono fun e w' ⟨v, h1, h2, _, h4⟩ => ⟨?_, h2.below⟩
  have h4 : v = .bool true := by simpa [retA, ARel, DRel, Rep] using h4
  rw [h1, h4]
end Go.Proofs.Ytmpcbijkbgmjkaa

namespace Go.Proofs.Ytmpcbijkbgmjkaa
open Go.ChangeShapes Go.WideShapes Go.ChangeAt Go.RowKit Go.Deep

set_option maxRecDepth 100000 in
theorem obeysAxioms_holds_lifted (os : Os) (started : os.Started) (H : Type) (enc : TypeId × Value → H) :
    ReturnsInHanded {} Try.checked os 4 .any (Rows.fnExactObeysAxiomsSpec.pre6 enc Try.prog Try.f4 Rows.fnExactObeysAxiomsRow.domain false) (Rows.fnExactObeysAxiomsSpec.post enc Try.prog Try.f4 false true false false) := by
  refine returnsInHanded_of_change (C := Try.checked) own started (by kernel_rfl) Try.func4
    (ChangeSpec.witness6 (enc := enc) (C := Try.checked) false ⟨#[], #[.agg #[.slice none 0 0, .slice none 0 0, .slice none 0 0], .agg #[.int .i64 0, .slice none 0 0]], []⟩ 8 (by kernel_rfl) (by kernel_rfl) (by kernel_rfl) (by kernel_rfl)) ?_
  intro W base args ds gs before hval0 hW _ _
  have hval : ∀ (j : Nat) t v, Try.f4.params[j]? = some t → args[j]? = some v → Value.okWide Try.prog W .any base t v := hval0
  have hW' := hW
  obtain ⟨p, q, hA0, hV, rfl, _, _⟩ := hW
  have hA : DataW.TrodAll enc Try.prog W 0 (fun _ => true) true Try.f4.params.toList args.toList ds p := hA0
  rw [Try.params4] at hA hval
  obtain ⟨v0, vs0, d0, ds0, p0, q0, hargs0, hd0, hp0, h0, r0⟩ := trodAll_cons hA
  obtain ⟨v1, vs1, d1, ds1, p1, q1, hargs1, hd1, hp1, h1, r1⟩ := trodAll_cons r0
  obtain ⟨e2, e2d, _⟩ := trodAll_nil r1
  rw [e2] at hargs1
  rw [hargs1] at hargs0
  obtain rfl : args = #[v0, v1] := by cases args; simp_all
  rw [e2d] at hd1
  rw [hd1] at hd0
  subst hd0
  obtain ⟨rfl, rfl⟩ := trodVars_none hV
  obtain ⟨cs0, rfl, _⟩ := okWide_struct Try.underlying45 (hval 0 45 v0 rfl rfl)
  obtain ⟨fuel0, hf0⟩ := h0
  obtain ⟨row0, hok0, hrep0⟩ := open_row seatTR fuel0 _ _ _ _ ty_Signature hf0
  have e0c : (Value.agg cs0).cells.toList.toArray = cs0 := by simp [Value.cells]
  obtain ⟨cs1, rfl, _⟩ := okWide_struct Try.underlying48 (hval 1 48 v1 rfl rfl)
  obtain ⟨fuel1, hf1⟩ := h1
  obtain ⟨row1, hok1, hrep1⟩ := open_row seatTR fuel1 _ _ _ _ ty_Algebra hf1
  have e1c : (Value.agg cs1).cells.toList.toArray = cs1 := by simp [Value.cells]
  have hlaw := lawExactObeysAxioms W row0 _ _ hok0 hrep0 row1 _ _ hok1 hrep1
  rw [e0c, e1c] at hlaw
  refine hlaw.mono fun e W' ⟨he, hb⟩ => ?_
  subst he
  exact ⟨_, rfl, law_post laidOut rfl rfl Try.underlying4 (by rw [Try.params4]; decide +kernel) hW' rfl hb⟩

theorem obeysAxioms_holds : Rows.FnExactObeysAxiomsSaid :=
  OpenClaim.holds_of_wide 4 Try.f4 rfl rfl rfl rfl rfl rfl rfl ⟨rfl, rfl, rfl, rfl, rfl⟩ rfl rfl rfl rfl rfl (by kernel_rfl) Try.func4 (by kernel_rfl)
    (of_decide_eq_true (by kernel_rfl)) (by unfold Func.isWrapper; rw [if_neg (of_decide_eq_false (by kernel_rfl))]; exact ⟨rfl, rfl⟩)
    (fun os started H enc _ => obeysAxioms_holds_lifted os started H enc)
#print axioms obeysAxioms_holds
end Go.Proofs.Ytmpcbijkbgmjkaa

