/-
  FnExactDecreases returns true for every module and weights, and turns nothing: proved without conditions.
-/
import Derived.Test.YtofklmbljbkdaaaGreatBBase0
import Derived.Test.YtofklmbljbkdaaaGreatBBase1
import Derived.Test.YtofklmbljbkdaaaGreatBBase2
import Derived.Test.YtofklmbljbkdaaaGreatBBase3
import Derived.Test.YtofklmbljbkdaaaGreatBBase4
import Derived.Test.YtofklmbljbkdaaaGreatBDecreases0
import Derived.Test.YtofklmbljbkdaaaGreatBBaseL0
set_option linter.unusedSimpArgs false
set_option linter.unusedVariables false
namespace Go.Proofs.YtofklmbljbkdaaaGreat
open Go.RowKit
theorem var_self {g : Sgn} {t : Tm} (h : VarOk g t) : t ∈ varsTm t := by
  obtain ⟨op, nm, so, args⟩ := t
  have e1 := h.1
  have e2 := h.2.2.2.2
  simp only [Tm.op, Tm.args] at e1 e2
  subst e1 e2
  simp [varsTm]
theorem vars_arg {t b : Tm} (hop : 0 ≤ t.op) (hb : b ∈ t.args) : ∀ v ∈ varsTm b, v ∈ varsTm t := by
  obtain ⟨op, nm, so, args⟩ := t
  simp only [Tm.op, Tm.args] at hop hb
  have h : ¬ op = -1 := by omega
  intro v hv
  simp only [varsTm, if_neg h]
  clear hop h
  induction args with
  | nil => cases hb
  | cons x xs ih =>
    simp only [varsTms, List.mem_append]
    rcases List.mem_cons.1 hb with rfl | hb
    · exact .inl hv
    · exact .inr (ih hb)
set_option maxHeartbeats 4000000 in
set_option maxRecDepth 100000 in
theorem con_indexAt {ts : List Tm} {f : FuncId} {caps : List C} {P : Tm → Bool} (hl : ts.length ≤ big) (h : ∀ a ∈ ts, Con e0 f (.agg (encTm a) :: caps.map .one) [.one (.lit (.bool (P a)))]) :
    ∃ r : Int, ((∃ (k : Nat) (a : Tm), r = k ∧ ts[k]? = some a ∧ P a = true ∧ ∀ (j : Nat) a, j < k → ts[j]? = some a → P a = false) ∨ (r = -1 ∧ ts.any P = false)) ∧ Con e0 151 [.one (.sl (encTms ts)), .one (.fn f caps)] [.one (.lit (.int .i64 r))] := by
  unfold big at hl
  by_cases hA : ts.any P = true
  · obtain ⟨k, hk, hbef⟩ : ∃ k : Nat, (∃ a, ts[k]? = some a ∧ P a = true) ∧ ∀ (j : Nat) a, j < k → ts[j]? = some a → P a = false := by
      have hex : ∃ k : Nat, ∃ a, ts[k]? = some a ∧ P a = true := by
        obtain ⟨a, ha, hp⟩ := List.any_eq_true.1 hA
        obtain ⟨k, hk⟩ := List.getElem?_of_mem ha
        exact ⟨k, a, hk, hp⟩
      obtain ⟨k, hk, hmin⟩ := least hex
      refine ⟨k, hk, fun j a hj ha => ?_⟩
      cases hp : P a with
      | false => rfl
      | true => exact absurd ⟨a, ha, hp⟩ (hmin j hj)
    obtain ⟨a0, ha0, hp0⟩ := hk
    have hkl := (List.getElem?_eq_some_iff.1 ha0).1
    refine ⟨(k : Int), .inl ⟨k, a0, rfl, ha0, hp0, hbef⟩, ?_⟩
    refine gI 66483 Tryz.func151 ?_
    (have F := @tmz; refine gG ?_; clear F)
    (have F := @e0P; refine gL (ι := Nat) [4, 5, 8, 9, 16] [] (fun i => [(8, A.d (.one (.lit (.int .i64 i))))]) (fun i => []) (fun i => i ≤ k) (fun i => k + 1 - i) (0) (by omega) (fun i hi => ?_); clear F)
    have hl' : (i : Int) < (ts.length : Int) := by omega
    obtain ⟨a, ha⟩ : ∃ a, ts[i]? = some a := ⟨_, List.getElem?_eq_getElem (by omega)⟩
    have hw1 := wrap1 (k := i) (by omega)
    (have F := And.intro @tmz @hl'; refine gG ?_; clear F)
    refine gB ?_
    (have F := And.intro @tmz @ha; refine gC (h a (List.mem_of_getElem? ha)) ?_; clear F)
    by_cases hik : i = k
    · subst hik
      rw [ha] at ha0
      injection ha0 with ha0
      subst ha0
      (have F := And.intro @tmz @hp0; refine gR ?_; clear F)
      (have F := @tmz; refine gG ?_; exact gT)
    · have hpf := hbef i a (by omega) ha
      (have F := And.intro @tmz @hpf; refine gR ?_; clear F)
      (have F := And.intro @hw1 @tmz; refine gG ?_; exact ⟨i + 1, by omega, gw, gw, by omega⟩)
  · have hbef : ∀ (j : Nat) a, ts[j]? = some a → P a = false := fun j a ha => by
      cases hp : P a with
      | false => rfl
      | true => exact absurd (List.any_eq_true.2 ⟨a, List.mem_of_getElem? ha, hp⟩) hA
    refine ⟨-1, .inr ⟨rfl, by simpa using hA⟩, ?_⟩
    refine gI 66483 Tryz.func151 ?_
    (have F := @tmz; refine gG ?_; clear F)
    (have F := @e0P; refine gL (ι := Nat) [4, 5, 8, 9, 16] [] (fun i => [(8, A.d (.one (.lit (.int .i64 i))))]) (fun i => []) (fun i => i ≤ ts.length) (fun i => ts.length - i) (0) (by omega) (fun i hi => ?_); clear F)
    by_cases hi' : i < ts.length
    rotate_left
    · have hl' : ¬ ((i : Int) < (ts.length : Int)) := by omega
      (have F := And.intro @tmz @hl'; refine gG ?_; exact gT)
    have hl' : (i : Int) < (ts.length : Int) := by omega
    obtain ⟨a, ha⟩ : ∃ a, ts[i]? = some a := ⟨_, List.getElem?_eq_getElem (by omega)⟩
    have hw1 := wrap1 (k := i) (by omega)
    have hpf := hbef i a ha
    (have F := And.intro @tmz @hl'; refine gG ?_; clear F)
    refine gB ?_
    (have F := And.intro @tmz @ha; refine gC (h a (List.mem_of_getElem? ha)) ?_; clear F)
    (have F := And.intro @tmz @hpf; refine gR ?_; clear F)
    (have F := And.intro @hw1 @tmz; refine gG ?_; exact ⟨i + 1, by omega, gw, gw, by omega⟩)
end Go.Proofs.YtofklmbljbkdaaaGreat
namespace Go.Proofs.YtofklmbljbkdaaaGreat
open Go.RowKit
theorem con_weighC (t v : Tm) : Con e0 152 [.agg (encTm v), .one (.ptr (encTm t))] [.one (.lit (.bool (decide (cmpTm v t = 0))))] := by
  refine gI 15 Tryz.func152 ?_
  (have F := @tmz; refine gG ?_; clear F)
  refine gB ?_
  (have F := @tmz; refine gC (con_implSame v t) ?_; clear F)
  (have F := @tmz; refine gR ?_; clear F)
  (have F := @tmz; refine gG ?_; exact gT)
set_option maxHeartbeats 16000000 in
set_option maxRecDepth 100000 in
theorem con_implW_all {g : Sgn} {ws : List Wt} {vs : List Tm} (hI : InOk g ws) (hvs : vs.length ≤ 1048577) (hnd : vs.Nodup) : ∀ (n : Nat) (t : Tm), sizeTm t < n → FormOk g t → (∀ v ∈ varsTm t, v ∈ vs) →
    Con e0 89 [.agg (encSgn g), .one (.sl (ws.map encWt)), .agg (encTm t), .one (.sl (encTms vs))] (wOut g ws vs t) := by
  intro n
  induction n with
  | zero => exact fun _ h => by omega
  | succ n ih =>
    intro t hn hf hin
    have hrw := rb_wt ws
    rw [encSgn] at ih ⊢
    have hz := fun z h => numR_0 (vs := vs) z h
    have hmx : ((vs.length : Int) ≤ (maxApp : Int)) = True := eq_true (by unfold maxApp; omega)
    rcases op_cases hf.node with ⟨hvar, hop⟩ | ⟨hop, o, d, hap⟩
    · have q1 : (t.op < 0) = True := eq_true hop
      rw [wOut_ok (okW_var hop), wN_var hop]
      have hmem := hin t (var_self hvar)
      obtain ⟨r, hr, c⟩ := con_indexAt (ts := vs) (f := 152) (caps := [.ptr (encTm t)]) (P := fun v => decide (cmpTm v t = 0)) (by unfold big; omega) fun v _ => con_weighC t v
      rcases hr with ⟨k, v, rfl, hk, hp, hbef⟩ | ⟨rfl, hno⟩
      rotate_left
      · have := List.any_eq_false.1 hno t hmem
        simp [cmpTm_self] at this
      have hkl := (List.getElem?_eq_some_iff.1 hk).1
      have hst := numR_one hnd hk (by simpa using hp)
      have hfn : numR (fun v => wF g ws v t) vs = numR (fun v => if cmpTm v t = 0 then 1 else 0) vs := numR_congr fun v _ => wF_var hop
      rw [hfn]
      have hln := numR_len (f := fun _ => 0) (vs := vs)
      have hrn := numR_rows (f := fun _ => 0) (vs := vs)
      have hgn := numR_get (f := fun _ => 0) hk
      refine gI 11921513725999993503324533626165526367 Tryz.func89 ?_
      (have F := And.intro @tmz (And.intro @hmx (And.intro @Int.toNat_natCast @q1)); refine gG ?_; clear F)
      rw [hz _ rfl]
      refine gB ?_
      (have F := @tmz; refine gC (c) ?_; clear F)
      (have F := And.intro @tmz (And.intro @hln (And.intro @hrn (And.intro @hkl (And.intro @hgn @hst)))); refine gR ?_; clear F)
      (have F := @tmz; refine gG ?_; clear F)
      (have F := @tmz; refine gG ?_; exact gTz [9])
    · have q1 : (t.op < 0) = False := eq_false (by omega)
      have hat := hap.at'
      obtain ⟨x, hx⟩ : ∃ x, ws[t.op.toNat]? = some x := ⟨_, List.getElem?_eq_getElem (by rw [hI.len]; exact (List.getElem?_eq_some_iff.1 hat).1)⟩
      have hwo := hI.all _ o x hat hx
      have hlo := hwo.lo
      have hhi := hwo.hi
      have has : isAs g t.op = o.assoc := by simp [isAs, hat]
      have hla : t.args.length ≤ 7 := by
        cases hac : o.assoc with
        | true => exact (hap.asc hac).2
        | false =>
          rw [hap.nas hac]
          have := (hI.sgn.decls o (List.mem_of_getElem? hat)).ar d hap.fst
          omega
      have hb0 : pWn g ws t 0 = bsW g ws t.op t.args.length := rfl
      have hF0 : numR (fun _ => 0) vs = numR (fun v => pWf g ws v t 0) vs := numR_congr fun v _ => rfl
      have hs0 := small_0 (vs := vs) hI hap
      refine gI 11921513725999993503324533626165526367 Tryz.func89 ?_
      (have F := And.intro @tmz (And.intro @hmx (And.intro @Int.toNat_natCast (And.intro @q1 (And.intro @hop (And.intro @hx (And.intro @hrw (And.intro @encWt_u (And.intro @hat @encOpr_u)))))))); refine gG ?_; clear F)
      rw [hz _ rfl, hF0]
      refine gM (ι := Unit) [13] [] (fun u => [(13, .d (.one (.lit (.int .i64 (pWn g ws t 0)))))]) (fun u => []) (fun u => True) ?_ (fun u hu => Exists.intro _ (And.intro (Wk.refl _) ?_))
      · cases hac : o.assoc with
        | true =>
          have h2 := (hap.asc hac).1
          have w1 : IntKind.i64.wrap ((t.args.length : Int) - 1) = (t.args.length : Int) - 1 := IntWalk.i64_in _ (by omega)
          have hm := Int.mul_nonneg hlo (show 0 ≤ (t.args.length : Int) - 1 by omega)
          have hm2 := Int.mul_le_mul hhi (show (t.args.length : Int) - 1 ≤ 7 by omega) (by omega) (by omega)
          have w2 : IntKind.i64.wrap (x.const * ((t.args.length : Int) - 1)) = x.const * ((t.args.length : Int) - 1) := IntWalk.i64_in _ (by omega)
          have e1 : pWn g ws t 0 = x.const * ((t.args.length : Int) - 1) := by rw [hb0, bsW, has, hac, hx]; rfl
          rw [e1]
          (have F := And.intro @tmz (And.intro @hop (And.intro @hat (And.intro @encOpr_u (And.intro @hac (And.intro @w1 (And.intro @w2 @encWt_u)))))); refine gG ?_; exact ⟨(), trivial, gw, gw⟩)
        | false =>
          have e1 : pWn g ws t 0 = x.const := by rw [hb0, bsW, has, hac, hx]; simp
          rw [e1]
          (have F := And.intro @tmz (And.intro @hop (And.intro @hat (And.intro @encOpr_u (And.intro @hac @encWt_u)))); refine gG ?_; exact ⟨(), trivial, gw, gw⟩)
      clear hu
      (have F := @tmz; refine gG ?_; clear F)
      (have F := @e0P; refine gL (ι := Nat) [8, 9, 10, 11, 13, 14, 15, 16, 17, 18, 19, 20, 59, 60, 71, 87, 94, 95, 96] [11] (fun i => [(59, A.d (.one (.lit (.int .i64 i)))), (13, .d (.one (.lit (.int .i64 (pWn g ws t i))))), (11, .buf 11)]) (fun i => [(11, .buf none 3 1 (numR (fun v => pWf g ws v t i) vs))]) (fun i => i ≤ t.args.length ∧ smallW g ws vs t i ∧ (∀ j u, j < i → t.args[j]? = some u → okW g ws vs u)) (fun i => t.args.length - i) (0) (⟨Nat.zero_le _, hs0, fun j u h => absurd h (by omega)⟩) (fun i hi => ?_); clear F)
      obtain ⟨hil, hsm, hsub⟩ := hi
      by_cases hlt : i < t.args.length
      · have q2 : (i : Int) < (t.args.length : Int) := by omega
        obtain ⟨b, hb⟩ : ∃ b, t.args[i]? = some b := ⟨_, List.getElem?_eq_getElem hlt⟩
        have hbm := List.mem_of_getElem? hb
        have hw1 := wrap1 (k := i) (by omega)
        have hsz : sizeTm b < sizeTm t := by
          have h1 := sizeTms_mem hbm
          have h2 : sizeTm t = 1 + sizeTms t.args := by obtain ⟨op, nm, so, args⟩ := t; rfl
          omega
        have cI := ih b (by omega) ((FormOk_iff.1 hf).2.1 b hbm) (fun v hvm => hin v (vars_arg hop hbm v hvm))
        have hcf : o.assoc = false → ∃ c, x.coefs[i]? = some c ∧ c = cfW g ws t.op i := fun hac => by
          have hl := hwo.len d hap.fst
          rw [← hap.nas hac] at hl
          refine ⟨_, List.getElem?_eq_getElem (by omega), ?_⟩
          rw [cfW, has, hac, hx]
          simp [List.getD_eq_getElem?_getD, List.getElem?_eq_getElem (show i < x.coefs.length by omega)]
        have hct : o.assoc = true → cfW g ws t.op i = 1 := fun hac => by rw [cfW, has, hac]; rfl
        (have F := And.intro @tmz (And.intro @q2 (And.intro @hb (And.intro @hop (And.intro @hat @encOpr_u)))); refine gG ?_; clear F)
        refine gM (ι := Unit) [16] [] (fun u => [(16, .d (.one (.lit (.int .i64 (cfW g ws t.op i)))))]) (fun u => []) (fun u => True) ?_ (fun u hu => Exists.intro _ (And.intro (Wk.refl _) ?_))
        · cases hac : o.assoc with
          | true =>
            have e1 := hct hac
            rw [e1]
            (have F := And.intro @tmz (And.intro @hop (And.intro @hat (And.intro @encOpr_u @hac))); refine gG ?_; exact ⟨(), trivial, gw, gw⟩)
          | false =>
            obtain ⟨c, hc, e1⟩ := hcf hac
            rw [← e1]
            (have F := And.intro @tmz (And.intro @hop (And.intro @hat (And.intro @encOpr_u (And.intro @hac (And.intro @hc (And.intro @encInt_u @encWt_u)))))); refine gG ?_; exact ⟨(), trivial, gw, gw⟩)
        clear hu hcf hct
        (have F := @tmz; refine gG ?_; clear F)
        refine gB ?_
        by_cases hok : okW g ws vs b
        rotate_left
        · rw [wOut_no hok] at cI
          have hno := wOut_no (fun h => hok (okW_arg hI hap hf hb h))
          rw [hno]
          (have F := @tmz; refine gC (cI) ?_; clear F)
          (have F := @tmz; refine gR ?_; clear F)
          (have F := @tmz; refine gG ?_; exact gTz [9])
        rw [wOut_ok hok] at cI
        obtain ⟨s1, s2, s3⟩ := step_small hI hap hf hb hok
        have hsm' := small_step hI hap hf hb hok hsm
        have e2 := pWn_step (g := g) (ws := ws) hb
        have b1 := hsm'.1
        have w1 : IntKind.i64.wrap (cfW g ws t.op i * wN g ws b) = cfW g ws t.op i * wN g ws b := IntWalk.i64_in _ (by omega)
        have w2 : IntKind.i64.wrap (pWn g ws t i + cfW g ws t.op i * wN g ws b) = pWn g ws t (i + 1) := by rw [← e2]; exact IntWalk.i64_in _ (by omega)
        (have F := @tmz; refine gC (cI) ?_; clear F)
        (have F := @tmz; refine gR ?_; clear F)
        (have F := And.intro @tmz (And.intro @w1 (And.intro @w2 @numR_len)); refine gG ?_; clear F)
        (have F := @mixR_0; refine gL (ι := Nat) [11, 20, 95, 96] [11] (fun j => [(95, A.d (.one (.lit (.int .i64 j)))), (11, .buf 11)]) (fun j => [(11, .buf none 3 1 (mixR (fun v => pWf g ws v t (i + 1)) (fun v => pWf g ws v t i) vs j))]) (fun j => j ≤ vs.length) (fun j => vs.length - j) (0) (Nat.zero_le _) (fun j hj => ?_); clear F)
        by_cases hlj : j < vs.length
        · have q3 : (j : Int) < (vs.length : Int) := by omega
          obtain ⟨v, hv⟩ : ∃ v, vs[j]? = some v := ⟨_, List.getElem?_eq_getElem hlj⟩
          have hwj := wrap1 (k := j) (by omega)
          have hvm := List.mem_of_getElem? hv
          have m1 := mixR_get (f := fun v => pWf g ws v t (i + 1)) (g := fun v => pWf g ws v t i) hv
          have m2 := mixR_set (f := fun v => pWf g ws v t (i + 1)) (g := fun v => pWf g ws v t i) hv
          have m3 := mixR_len (f := fun v => pWf g ws v t (i + 1)) (g := fun v => pWf g ws v t i) (vs := vs) j
          have m4 := mixR_rows (f := fun v => pWf g ws v t (i + 1)) (g := fun v => pWf g ws v t i) (vs := vs) j
          have m5 := numR_get (f := fun v => wF g ws v b) hv
          have m6 := numR_rows (f := fun v => wF g ws v b) (vs := vs)
          have b2 := hsm'.2 v hvm
          have b3 := s3 v hvm
          have e3 := pWf_step (g := g) (ws := ws) (v := v) hb
          have w3 : IntKind.i64.wrap (cfW g ws t.op i * wF g ws v b) = cfW g ws t.op i * wF g ws v b := IntWalk.i64_in _ (by omega)
          have w4 : IntKind.i64.wrap (pWf g ws v t i + cfW g ws t.op i * wF g ws v b) = pWf g ws v t (i + 1) := by rw [← e3]; exact IntWalk.i64_in _ (by omega)
          (have F := And.intro @tmz (And.intro @q3 (And.intro @m1 (And.intro @m2 (And.intro @m3 (And.intro @m4 (And.intro @m5 (And.intro @m6 (And.intro @w3 (And.intro @w4 (And.intro @hwj @hlj)))))))))); refine gG ?_; exact ⟨j + 1, hlj, gw, gw, by omega⟩)
        obtain rfl : j = vs.length := by omega
        have q3 : ¬ ((vs.length : Int) < (vs.length : Int)) := by omega
        have hq : i + 1 ≤ t.args.length ∧ smallW g ws vs t (i + 1) ∧ (∀ j u, j < i + 1 → t.args[j]? = some u → okW g ws vs u) := ⟨hlt, hsm', fun j u hj hu => by
          by_cases hij : j = i
          · subst hij; rw [hb] at hu; injection hu with hu; subst hu; exact hok
          · exact hsub j u (by omega) hu⟩
        rw [mixR_n]
        (have F := And.intro @tmz (And.intro @q3 @hw1); refine gG ?_; exact ⟨i + 1, hq, gw, gw, by omega⟩)
      obtain rfl : i = t.args.length := by omega
      have q2 : ¬ ((t.args.length : Int) < (t.args.length : Int)) := by omega
      have hokt := okW_app (g := g) (ws := ws) (vs := vs) (t := t) (by omega)
      rw [← wN_app (by omega)]
      have hFt : (fun v => pWf g ws v t t.args.length) = fun v => wF g ws v t := funext fun v => (wF_app (by omega)).symm
      rw [hFt]
      by_cases hN : wN g ws t ≤ 1000000000
      rotate_left
      · have q3 : (1000000000 < wN g ws t) = True := eq_true (by omega)
        rw [wOut_no fun h => hN h.1]
        (have F := And.intro @tmz (And.intro @q2 @q3); refine gG ?_; exact gTz [9])
      have q3 : (1000000000 < wN g ws t) = False := eq_false (by omega)
      (have F := And.intro @tmz (And.intro @q2 (And.intro @q3 @numR_len)); refine gG ?_; clear F)
      (have F := @e0P; refine gL (ι := Nat) [8, 9, 10, 22, 118, 119, 123] [] (fun j => [(118, A.d (.one (.lit (.int .i64 j))))]) (fun j => []) (fun j => j ≤ vs.length ∧ ∀ (i : Nat) v, i < j → vs[i]? = some v → wF g ws v t ≤ 1000000000) (fun j => vs.length - j) (0) (⟨Nat.zero_le _, fun i v h => absurd h (by omega)⟩) (fun j hj => ?_); clear F)
      obtain ⟨hjl, hall⟩ := hj
      by_cases hlj : j < vs.length
      · have q4 : (j : Int) < (vs.length : Int) := by omega
        obtain ⟨v, hv⟩ : ∃ v, vs[j]? = some v := ⟨_, List.getElem?_eq_getElem hlj⟩
        have hwj := wrap1 (k := j) (by omega)
        have hvm := List.mem_of_getElem? hv
        have m1 := numR_get (f := fun v => wF g ws v t) hv
        have m2 := numR_len (f := fun v => wF g ws v t) (vs := vs)
        have m3 := numR_rows (f := fun v => wF g ws v t) (vs := vs)
        by_cases hF : wF g ws v t ≤ 1000000000
        rotate_left
        · have q5 : (1000000000 < wF g ws v t) = True := eq_true (by omega)
          rw [wOut_no fun h => hF (h.2 v hvm)]
          (have F := And.intro @tmz (And.intro @q4 (And.intro @m1 (And.intro @m2 (And.intro @m3 (And.intro @q5 @hlj))))); refine gG ?_; exact gTz [9])
        have q5 : (1000000000 < wF g ws v t) = False := eq_false (by omega)
        have hq : j + 1 ≤ vs.length ∧ ∀ (i : Nat) v, i < j + 1 → vs[i]? = some v → wF g ws v t ≤ 1000000000 := ⟨hlj, fun i u hi hu => by
          by_cases hij : i = j
          · subst hij; rw [hv] at hu; injection hu with hu; subst hu; exact hF
          · exact hall i u (by omega) hu⟩
        (have F := And.intro @tmz (And.intro @q4 (And.intro @m1 (And.intro @m2 (And.intro @m3 (And.intro @q5 (And.intro @hwj @hlj)))))); refine gG ?_; exact ⟨j + 1, hq, gw, gw, by omega⟩)
      obtain rfl : j = vs.length := by omega
      have q4 : ¬ ((vs.length : Int) < (vs.length : Int)) := by omega
      rw [wOut_ok ⟨hN, fun v hv => by obtain ⟨i, hi⟩ := List.getElem?_of_mem hv; exact hall i v (List.getElem?_eq_some_iff.1 hi).1 hi⟩]
      (have F := And.intro @tmz @q4; refine gG ?_; clear F)
      (have F := @tmz; refine gG ?_; exact gTz [9])
end Go.Proofs.YtofklmbljbkdaaaGreat
namespace Go.Proofs.YtofklmbljbkdaaaGreat
open Go.RowKit
set_option maxHeartbeats 16000000 in
set_option maxRecDepth 100000 in
theorem con_specW_all {g : Sgn} {ws : List Wt} {vs : List Tm} (hI : InOk g ws) (hvs : vs.length ≤ 1048577) (hvok : okTms vs) : ∀ (n : Nat) (t : Tm), sizeTm t < n → okTm t → FormOk g t →
    Con e0 83 [.one (.sl (ws.map encWt)), .agg (encTm t), .one (.sl (encTms vs))] (wOut g ws vs t) := by
  intro n
  induction n with
  | zero => exact fun _ h => by omega
  | succ n ih =>
    intro t hn hok hf
    have hrw := rb_wt ws
    have hz := fun z h => numR_0 (vs := vs) z h
    have hmx : ((vs.length : Int) ≤ (maxApp : Int)) = True := eq_true (by unfold maxApp; omega)
    refine gI 53169124902310938727441965340034596823 Tryz.func83 ?_
    rcases op_cases hf.node with ⟨hvar, hop⟩ | ⟨hop, o, d, hap⟩
    · have q1 : (t.op = -1) = True := eq_true hvar.1
      rw [wOut_ok (okW_var hop), wN_var hop]
      have hfn : numR (fun v => wF g ws v t) vs = numR (fun v => if cmpTm v t = 0 then 1 else 0) vs := numR_congr fun v _ => wF_var hop
      rw [hfn]
      (have F := And.intro @tmz (And.intro @hmx (And.intro @Int.toNat_natCast @q1)); refine gG ?_; clear F)
      rw [hz _ rfl]
      (have F := @mixR_0; refine gL (ι := Nat) [9, 10, 28, 36] [9] (fun j => [(10, A.d (.one (.lit (.int .i64 j)))), (9, .buf 9)]) (fun j => [(9, .buf none 3 1 (mixR (fun v => if cmpTm v t = 0 then 1 else 0) (fun _ => 0) vs j))]) (fun j => j ≤ vs.length) (fun j => vs.length - j) (0) (Nat.zero_le _) (fun j hj => ?_); clear F)
      by_cases hlj : j < vs.length
      · have q3 : (j : Int) < (vs.length : Int) := by omega
        obtain ⟨v, hv⟩ : ∃ v, vs[j]? = some v := ⟨_, List.getElem?_eq_getElem hlj⟩
        have hwj := wrap1 (k := j) (by omega)
        have hvm := List.mem_of_getElem? hv
        have cS := con_l5Same (hvok.mem hvm) hok
        have m1 := mixR_get (f := fun v => if cmpTm v t = 0 then (1 : Int) else 0) (g := fun _ => 0) hv
        have m2 := mixR_set (f := fun v => if cmpTm v t = 0 then (1 : Int) else 0) (g := fun _ => 0) hv
        have m3 := mixR_len (f := fun v => if cmpTm v t = 0 then (1 : Int) else 0) (g := fun _ => 0) (vs := vs) j
        have m4 := mixR_rows (f := fun v => if cmpTm v t = 0 then (1 : Int) else 0) (g := fun _ => 0) (vs := vs) j
        (have F := And.intro @tmz (And.intro @q3 @hv); refine gG ?_; clear F)
        refine gB ?_
        (have F := And.intro @tmz @hv; refine gC (cS) ?_; clear F)
        by_cases he : cmpTm v t = 0
        · have q4 : decide (cmpTm v t = 0) = true := decide_eq_true he
          simp only [if_pos he] at m2
          (have F := And.intro @tmz @q4; refine gR ?_; clear F)
          (have F := And.intro @tmz (And.intro @m1 (And.intro @m2 (And.intro @m3 (And.intro @m4 (And.intro @hwj @hlj))))); refine gG ?_; exact ⟨j + 1, hlj, gw, gw, by omega⟩)
        · have q4 : decide (cmpTm v t = 0) = false := decide_eq_false he
          have m5 := mixR_skip (f := fun v => if cmpTm v t = 0 then (1 : Int) else 0) (g := fun _ => 0) hv (if_neg he)
          rw [m5]
          (have F := And.intro @tmz @q4; refine gR ?_; clear F)
          (have F := And.intro @tmz @hwj; refine gG ?_; exact ⟨j + 1, hlj, gw, gw, by omega⟩)
      obtain rfl : j = vs.length := by omega
      have q3 : ¬ ((vs.length : Int) < (vs.length : Int)) := by omega
      rw [mixR_n]
      (have F := And.intro @tmz @q3; refine gG ?_; clear F)
      (have F := @tmz; refine gG ?_; exact gTz [7])
    · have q1 : (t.op = -1) = False := eq_false (by omega)
      have hat := hap.at'
      obtain ⟨x, hx⟩ : ∃ x, ws[t.op.toNat]? = some x := ⟨_, List.getElem?_eq_getElem (by rw [hI.len]; exact (List.getElem?_eq_some_iff.1 hat).1)⟩
      have hwo := hI.all _ o x hat hx
      have hlo := hwo.lo
      have hhi := hwo.hi
      have has : isAs g t.op = o.assoc := by simp [isAs, hat]
      have hdl := hwo.len d hap.fst
      have hla : t.args.length ≤ 7 := by
        cases hac : o.assoc with
        | true => exact (hap.asc hac).2
        | false =>
          rw [hap.nas hac]
          have := (hI.sgn.decls o (List.mem_of_getElem? hat)).ar d hap.fst
          omega
      have hb0 : pWn g ws t 0 = bsW g ws t.op t.args.length := rfl
      have hF0 : numR (fun _ => 0) vs = numR (fun v => pWf g ws v t 0) vs := numR_congr fun v _ => rfl
      obtain ⟨hcf, hbs0, hbs1⟩ := cf_ok hI hap
      have hcase : (x.coefs.length < t.args.length ∧ pWn g ws t 0 = x.const * ((t.args.length : Int) - 1) ∧ ∀ i, i < t.args.length → cfW g ws t.op i = 1) ∨ (t.args.length = x.coefs.length ∧ pWn g ws t 0 = x.const ∧ ∀ i, i < t.args.length → ∃ c, x.coefs[i]? = some c ∧ cfW g ws t.op i = c) := by
        cases hac : o.assoc with
        | true =>
          have h2 := (hI.sgn.axs o (List.mem_of_getElem? hat)).two (.inl hac) d hap.fst
          have h3 := (hap.asc hac).1
          by_cases h4 : t.args.length = 2
          · refine .inr ⟨by omega, by rw [hb0, bsW, has, hac, hx, h4]; simp, fun i hi => ?_⟩
            refine ⟨_, List.getElem?_eq_getElem (by omega), ?_⟩
            rw [cfW, has, hac]
            simp [hwo.one (.inl hac) _ (List.getElem_mem (show i < x.coefs.length by omega))]
          · exact .inl ⟨by omega, by rw [hb0, bsW, has, hac, hx]; rfl, fun i _ => by rw [cfW, has, hac]; rfl⟩
        | false =>
          have hl := hap.nas hac
          refine .inr ⟨by omega, by rw [hb0, bsW, has, hac, hx]; simp, fun i hi => ⟨_, List.getElem?_eq_getElem (by omega), ?_⟩⟩
          rw [cfW, has, hac, hx]
          simp [List.getD_eq_getElem?_getD, List.getElem?_eq_getElem (show i < x.coefs.length by omega)]
      (have F := And.intro @tmz (And.intro @hmx (And.intro @Int.toNat_natCast (And.intro @q1 (And.intro @hop (And.intro @hx (And.intro @hrw @encWt_u)))))); refine gG ?_; clear F)
      rw [hz _ rfl, hF0]
      refine gM (ι := Unit) [12, 54] [] (fun u => [(12, .d (.one (.lit (.int .i64 (pWn g ws t 0)))))]) (fun u => []) (fun u => True) ?_ (fun u hu => Exists.intro _ (And.intro (Wk.refl _) ?_))
      · rcases hcase with ⟨h1, e1, _⟩ | ⟨h1, e1, _⟩
        · have w1 : IntKind.i64.wrap ((t.args.length : Int) - 1) = (t.args.length : Int) - 1 := IntWalk.i64_in _ (by omega)
          have w2 : IntKind.i64.wrap (x.const * ((t.args.length : Int) - 1)) = x.const * ((t.args.length : Int) - 1) := IntWalk.i64_in _ (by rw [← e1, hb0]; omega)
          have q2 : decide ((x.coefs.length : Int) < (t.args.length : Int)) = true := decide_eq_true (by omega)
          rw [e1]
          (have F := And.intro @tmz (And.intro @q2 (And.intro @w1 (And.intro @w2 @encWt_u))); refine gG ?_; exact ⟨(), trivial, gw, gw⟩)
        · have q2 : decide ((x.coefs.length : Int) < (t.args.length : Int)) = false := decide_eq_false (by omega)
          rw [e1]
          (have F := And.intro @tmz (And.intro @q2 @encWt_u); refine gG ?_; exact ⟨(), trivial, gw, gw⟩)
      clear hu
      have hokt := okW_app (g := g) (ws := ws) (vs := vs) (t := t) (by omega)
      have hp0 : partW g ws vs t 0 := ⟨by rw [hb0]; omega, fun v _ => by simp [pWf, sumW]⟩
      have hpn0 : ∀ i, i ≤ t.args.length → 0 ≤ pWn g ws t i ∧ ∀ v, 0 ≤ pWf g ws v t i := fun i hi => by
        have h := p_mono (g := g) (ws := ws) hI hap hf (Nat.zero_le i) hi
        exact ⟨Int.le_trans (by rw [hb0]; exact hbs0) h.1, fun v => Int.le_trans (by simp [pWf, sumW]) (h.2 v)⟩
      (have F := @tmz; refine gG ?_; clear F)
      (have F := @e0P; refine gL (ι := Nat) [6, 7, 8, 9, 12, 13, 14, 15, 16, 17, 18, 65, 81, 88, 102, 123, 125] [9] (fun i => [(13, A.d (.one (.lit (.int .i64 i)))), (12, .d (.one (.lit (.int .i64 (pWn g ws t i))))), (9, .buf 9)]) (fun i => [(9, .buf none 3 1 (numR (fun v => pWf g ws v t i) vs))]) (fun i => i ≤ t.args.length ∧ partW g ws vs t i) (fun i => t.args.length - i) (0) (⟨Nat.zero_le _, hp0⟩) (fun i hi => ?_); clear F)
      obtain ⟨hil, hpi⟩ := hi
      by_cases hlt : i < t.args.length
      · have q2 : (i : Int) < (t.args.length : Int) := by omega
        obtain ⟨b, hb⟩ : ∃ b, t.args[i]? = some b := ⟨_, List.getElem?_eq_getElem hlt⟩
        have hbm := List.mem_of_getElem? hb
        have hw1 := wrap1 (k := i) (by omega)
        have hsz : sizeTm b < sizeTm t := by
          have h1 := sizeTms_mem hbm
          have h2 : sizeTm t = 1 + sizeTms t.args := by obtain ⟨op, nm, so, args⟩ := t; rfl
          omega
        have cI := ih b (by omega) ((okTm_iff.1 hok).2.2.2.mem hbm) ((FormOk_iff.1 hf).2.1 b hbm)
        (have F := And.intro @tmz @q2; refine gG ?_; clear F)
        refine gB ?_
        by_cases hokb : okW g ws vs b
        rotate_left
        · rw [wOut_no hokb] at cI
          have hno := wOut_no (fun h => hokb (okW_arg hI hap hf hb h))
          rw [hno]
          (have F := And.intro @tmz @hb; refine gC (cI) ?_; clear F)
          (have F := @tmz; refine gR ?_; clear F)
          (have F := @tmz; refine gG ?_; exact gTz [7])
        rw [wOut_ok hokb] at cI
        obtain ⟨s1, s2, s3⟩ := step_small hI hap hf hb hokb
        have e2 := pWn_step (g := g) (ws := ws) hb
        have b1 := hpi.1
        have b0 := (hpn0 i hil).1
        have w1 : IntKind.i64.wrap (cfW g ws t.op i * wN g ws b) = cfW g ws t.op i * wN g ws b := IntWalk.i64_in _ (by omega)
        have w2 : IntKind.i64.wrap (pWn g ws t i + cfW g ws t.op i * wN g ws b) = pWn g ws t (i + 1) := by rw [← e2]; exact IntWalk.i64_in _ (by omega)
        (have F := And.intro @tmz @hb; refine gC (cI) ?_; clear F)
        (have F := @tmz; refine gR ?_; clear F)
        (have F := And.intro @tmz (And.intro @w1 (And.intro @w2 @encWt_u)); refine gG ?_; clear F)
        refine gM (ι := Unit) [17, 88] [] (fun u => [(17, .d (.one (.lit (.int .i64 (cfW g ws t.op i)))))]) (fun u => []) (fun u => True) ?_ (fun u hu => Exists.intro _ (And.intro (Wk.refl _) ?_))
        · rcases hcase with ⟨h1, _, e1⟩ | ⟨h1, _, e1⟩
          · have e1 := e1 i hlt
            have q3 : decide ((t.args.length : Int) = (x.coefs.length : Int)) = false := decide_eq_false (by omega)
            rw [e1]
            (have F := And.intro @tmz (And.intro @q3 @encWt_u); refine gG ?_; exact ⟨(), trivial, gw, gw⟩)
          · obtain ⟨c, hc, e1⟩ := e1 i hlt
            have q3 : decide ((t.args.length : Int) = (x.coefs.length : Int)) = true := decide_eq_true (by omega)
            rw [e1]
            (have F := And.intro @tmz (And.intro @q3 (And.intro @hc (And.intro @encInt_u @encWt_u))); refine gG ?_; exact ⟨(), trivial, gw, gw⟩)
        clear hu
        have hpart : pWn g ws t (i + 1) ≤ 1000000000 → (∀ (j : Nat) v, vs[j]? = some v → pWf g ws v t (i + 1) ≤ 1000000000) → i + 1 ≤ t.args.length ∧ partW g ws vs t (i + 1) := fun h1 h2 => ⟨hlt, h1, fun v hv => by obtain ⟨j, hj⟩ := List.getElem?_of_mem hv; exact h2 j v hj⟩
        have hbad : ¬ partW g ws vs t (i + 1) → wOut g ws vs t = [.one (.lit (.int .i64 0)), .one (.sl []), .one (.lit (.bool false))] := fun h => wOut_no fun h2 => h (partW_of hI hap hf hlt h2)
        (have F := And.intro @tmz (And.intro @w1 (And.intro @w2 @numR_len)); refine gG ?_; clear F)
        (have F := @mixR_0; refine gL (ι := Nat) [6, 7, 8, 9, 18, 102, 123] [9] (fun j => [(18, A.d (.one (.lit (.int .i64 j)))), (9, .buf 9)]) (fun j => [(9, .buf none 3 1 (mixR (fun v => pWf g ws v t (i + 1)) (fun v => pWf g ws v t i) vs j))]) (fun j => j ≤ vs.length ∧ ∀ (k : Nat) v, k < j → vs[k]? = some v → pWf g ws v t (i + 1) ≤ 1000000000) (fun j => vs.length - j) (0) (⟨Nat.zero_le _, fun k v h => absurd h (by omega)⟩) (fun j hj => ?_); clear F)
        obtain ⟨hjl, hall⟩ := hj
        by_cases hlj : j < vs.length
        · have q3 : (j : Int) < (vs.length : Int) := by omega
          obtain ⟨v, hv⟩ : ∃ v, vs[j]? = some v := ⟨_, List.getElem?_eq_getElem hlj⟩
          have hwj := wrap1 (k := j) (by omega)
          have hvm := List.mem_of_getElem? hv
          have m1 := mixR_get (f := fun v => pWf g ws v t (i + 1)) (g := fun v => pWf g ws v t i) hv
          have m2 := mixR_set (f := fun v => pWf g ws v t (i + 1)) (g := fun v => pWf g ws v t i) hv
          have m3 := mixR_len (f := fun v => pWf g ws v t (i + 1)) (g := fun v => pWf g ws v t i) (vs := vs) j
          have m4 := mixR_rows (f := fun v => pWf g ws v t (i + 1)) (g := fun v => pWf g ws v t i) (vs := vs) j
          have m1' := mixR_get2 (f := fun v => pWf g ws v t (i + 1)) (g := fun v => pWf g ws v t i) hv
          have m3' := mixR_len (f := fun v => pWf g ws v t (i + 1)) (g := fun v => pWf g ws v t i) (vs := vs) (j + 1)
          have m4' := mixR_rows (f := fun v => pWf g ws v t (i + 1)) (g := fun v => pWf g ws v t i) (vs := vs) (j + 1)
          have m5 := numR_get (f := fun v => wF g ws v b) hv
          have m6 := numR_rows (f := fun v => wF g ws v b) (vs := vs)
          have b2 := hpi.2 v hvm
          have b20 := (hpn0 i hil).2 v
          have b3 := s3 v hvm
          have e3 := pWf_step (g := g) (ws := ws) (v := v) hb
          have w3 : IntKind.i64.wrap (cfW g ws t.op i * wF g ws v b) = cfW g ws t.op i * wF g ws v b := IntWalk.i64_in _ (by omega)
          have w4 : IntKind.i64.wrap (pWf g ws v t i + cfW g ws t.op i * wF g ws v b) = pWf g ws v t (i + 1) := by rw [← e3]; exact IntWalk.i64_in _ (by omega)
          by_cases hF : pWf g ws v t (i + 1) ≤ 1000000000
          rotate_left
          · have q5 : (1000000000 < pWf g ws v t (i + 1)) = True := eq_true (by omega)
            rw [hbad fun h => hF (h.2 v hvm)]
            (have F := And.intro @tmz (And.intro @q3 (And.intro @m1 (And.intro @m2 (And.intro @m3 (And.intro @m4 (And.intro @m1' (And.intro @m3' (And.intro @m4' (And.intro @m5 (And.intro @m6 (And.intro @w3 (And.intro @w4 (And.intro @hlj @q5))))))))))))); refine gG ?_; exact gTz [7])
          have q5 : (1000000000 < pWf g ws v t (i + 1)) = False := eq_false (by omega)
          have hq : j + 1 ≤ vs.length ∧ ∀ (k : Nat) v, k < j + 1 → vs[k]? = some v → pWf g ws v t (i + 1) ≤ 1000000000 := ⟨hlj, fun k u hk hu => by
            by_cases hkj : k = j
            · subst hkj; rw [hv] at hu; injection hu with hu; subst hu; exact hF
            · exact hall k u (by omega) hu⟩
          (have F := And.intro @tmz (And.intro @q3 (And.intro @m1 (And.intro @m2 (And.intro @m3 (And.intro @m4 (And.intro @m1' (And.intro @m3' (And.intro @m4' (And.intro @m5 (And.intro @m6 (And.intro @w3 (And.intro @w4 (And.intro @hwj (And.intro @hlj @q5)))))))))))))); refine gG ?_; exact ⟨j + 1, hq, gw, gw, by omega⟩)
        obtain rfl : j = vs.length := by omega
        have q3 : ¬ ((vs.length : Int) < (vs.length : Int)) := by omega
        rw [mixR_n]
        by_cases hN : pWn g ws t (i + 1) ≤ 1000000000
        rotate_left
        · have q5 : (1000000000 < pWn g ws t (i + 1)) = True := eq_true (by omega)
          rw [hbad fun h => hN h.1]
          (have F := And.intro @tmz (And.intro @numR_len (And.intro @q3 @q5)); refine gG ?_; exact gTz [7])
        have q5 : (1000000000 < pWn g ws t (i + 1)) = False := eq_false (by omega)
        have hq := hpart hN fun j v hv => hall j v (List.getElem?_eq_some_iff.1 hv).1 hv
        (have F := And.intro @tmz (And.intro @numR_len (And.intro @q3 (And.intro @q5 @hw1))); refine gG ?_; exact ⟨i + 1, hq, gw, gw, by omega⟩)
      obtain rfl : i = t.args.length := by omega
      have q2 : ¬ ((t.args.length : Int) < (t.args.length : Int)) := by omega
      rw [← wN_app (by omega)]
      have hFt : (fun v => pWf g ws v t t.args.length) = fun v => wF g ws v t := funext fun v => (wF_app (by omega)).symm
      rw [hFt, wOut_ok (hokt.2 hpi)]
      (have F := And.intro @tmz @q2; refine gG ?_; clear F)
      (have F := @tmz; refine gG ?_; exact gTz [7])
end Go.Proofs.YtofklmbljbkdaaaGreat
namespace Go.Proofs.YtofklmbljbkdaaaGreat
open Go.RowKit
end Go.Proofs.YtofklmbljbkdaaaGreat
namespace Go.Proofs.YtofklmbljbkdaaaGreat
open Go.RowKit
theorem mem_varsOf {t v : Tm} : v ∈ varsTm t → v ∈ varsOf t := fun h => mem_distTm.2 h
set_option maxHeartbeats 8000000 in
set_option maxRecDepth 100000 in
theorem con_implIsTerm {g : Sgn} {t : Tm} (hok : okSgn g) (ht : okTm t) (hb : bulkRow (encTm t) ≤ 1048576) : Con e0 88 [.agg (encSgn g), .agg (encTm t)] [.one (.lit (.bool (isSgn g && isTerm g t)))] := by
  by_cases hg : SgnOk g
  rotate_left
  · have hf : isSgn g = false := isSgn_false hg
    have c := con_newAlg_not hok hg
    rw [encSgn] at c
    refine gI 127 Tryz.func88 ?_
    (have F := And.intro @tmz @encSgn_u; refine gG ?_; clear F)
    refine gB ?_
    (have F := @tmz; refine gC (c) ?_; clear F)
    (have F := @tmz; refine gR ?_; clear F)
    (have F := And.intro @tmz @hf; refine gG ?_; exact gT)
  have hs := isSgn_true hg
  have c := conE_newAlg hok hg
  rw [encSgn] at c
  refine gI 127 Tryz.func88 ?_
  (have F := And.intro @tmz @encSgn_u; refine gG ?_; clear F)
  refine gB ?_
  (have F := @tmz; refine gCE (c) ?_; clear F)
  rintro r ⟨b, rfl⟩
  have c1 := con_implIsT (mc := .lit (.map (some b))) hg ht (big_of_bulk hb)
  generalize C.lit (.map (some b)) = mc at c1 ⊢
  (have F := And.intro @retA_u @sa_some; refine gR ?_; clear F)
  (have F := @tmz; refine gG ?_; clear F)
  refine gB ?_
  (have F := @tmz; refine gC (c1) ?_; clear F)
  (have F := @tmz; refine gR ?_; clear F)
  (have F := And.intro @tmz @hs; refine gG ?_; exact gT)
section
variable {g : Sgn} {a : Alg} {t : Tm} {xs : List Int}
theorem form_of (h : isTerm g t = true) : FormOk g t := (isTerm_iff.1 h).form
end
end Go.Proofs.YtofklmbljbkdaaaGreat
namespace Go.Proofs.YtofklmbljbkdaaaGreat
open Go.RowKit
structure GtOk (g : Sgn) (ws : List Wt) (vs : List Tm) (a b : Tm) : Prop where
  sub : withB vs b = true
  oka : okW g ws vs a
  okb : okW g ws vs b
  lt : wN g ws b < wN g ws a
  all : ∀ v ∈ vs, wF g ws v b ≤ wF g ws v a
open Classical in
noncomputable def gtB (g : Sgn) (ws : List Wt) (a b : Tm) : Bool := decide (GtOk g ws (varsOf a) a b)
theorem gt_yes {g : Sgn} {ws : List Wt} {a b : Tm} (h : GtOk g ws (varsOf a) a b) : gtB g ws a b = true := by simp only [gtB, decide_eq_true_eq]; exact h
theorem gt_no {g : Sgn} {ws : List Wt} {a b : Tm} (h : ¬ GtOk g ws (varsOf a) a b) : gtB g ws a b = false := by simp only [gtB, decide_eq_false_iff_not]; exact h
theorem varsOf_nodup (t : Tm) : (varsOf t).Nodup := (distTm_asc (varsTm t)).imp fun h e => by rw [e, cmpTm_self] at h; exact absurd h (by decide)
theorem within_mem {vs : List Tm} {b : Tm} (h : withB vs b = true) : ∀ v ∈ varsTm b, v ∈ vs := fun v hv => hasB_iff.1 (List.all_eq_true.1 h v (mem_varsOf hv))
section
variable {g : Sgn} {ws : List Wt} {a b : Tm}
set_option maxHeartbeats 16000000 in
set_option maxRecDepth 100000 in
theorem con_specGt (hI : InOk g ws) (ha : okTm a) (hb : okTm b) (hba : bulkRow (encTm a) ≤ 1048576) (hbb : bulkRow (encTm b) ≤ 1048576) (hfa : FormOk g a) (hfb : FormOk g b) : Con e0 70 [.one (.sl (ws.map encWt)), .agg (encTm a), .agg (encTm b)] [.one (.lit (.bool (gtB g ws a b)))] := by
  have cV := con_specVars ha hba
  have hvl := varsOf_len a
  have hvt := vars_len2 hba
  have cW := con_l13Within hb (okTms_vars ha) hbb (by omega)
  refine gI 4614078555730509815 Tryz.func70 ?_
  (have F := @tmz; refine gG ?_; clear F)
  refine gB ?_
  (have F := @tmz; refine gC (cV) ?_; clear F)
  (have F := @tmz; refine gR ?_; clear F)
  (have F := @tmz; refine gG ?_; clear F)
  refine gB ?_
  (have F := @tmz; refine gC (cW) ?_; clear F)
  have hyes := gt_yes (g := g) (ws := ws) (a := a) (b := b)
  have hno := gt_no (g := g) (ws := ws) (a := a) (b := b)
  have hvok := okTms_vars ha
  have hvb : (varsOf a).length ≤ 1048577 := by omega
  generalize varsOf a = vs at *
  cases hs : withB vs b with
  | false =>
    have hf := hno fun h => by rw [h.sub] at hs; cases hs
    (have F := @tmz; refine gR ?_; clear F)
    (have F := And.intro @tmz @hf; refine gG ?_; exact gT)
  | true =>
  have cA := con_specW_all (vs := vs) hI hvb hvok (sizeTm a + 1) a (Nat.lt_succ_self _) ha hfa
  have cB := con_specW_all (vs := vs) hI hvb hvok (sizeTm b + 1) b (Nat.lt_succ_self _) hb hfb
  (have F := @tmz; refine gR ?_; clear F)
  (have F := @tmz; refine gG ?_; clear F)
  refine gB ?_
  by_cases hoa : okW g ws vs a
  rotate_left
  · rw [wOut_no hoa] at cA
    have hf := hno fun h => hoa h.oka
    rw [hf]
    (have F := @tmz; refine gC (cA) ?_; clear F)
    (have F := @tmz; refine gR ?_; clear F)
    (have F := @tmz; refine gG ?_; clear F)
    refine gB ?_
    by_cases hob : okW g ws vs b
    · rw [wOut_ok hob] at cB
      (have F := @tmz; refine gC (cB) ?_; clear F)
      (have F := @tmz; refine gR ?_; clear F)
      (have F := @tmz; refine gG ?_; exact gT)
    · rw [wOut_no hob] at cB
      (have F := @tmz; refine gC (cB) ?_; clear F)
      (have F := @tmz; refine gR ?_; clear F)
      (have F := @tmz; refine gG ?_; exact gT)
  rw [wOut_ok hoa] at cA
  (have F := @tmz; refine gC (cA) ?_; clear F)
  (have F := @tmz; refine gR ?_; clear F)
  (have F := @tmz; refine gG ?_; clear F)
  refine gB ?_
  by_cases hob : okW g ws vs b
  rotate_left
  · rw [wOut_no hob] at cB
    have hf := hno fun h => hob h.okb
    rw [hf]
    (have F := @tmz; refine gC (cB) ?_; clear F)
    (have F := @tmz; refine gR ?_; clear F)
    (have F := @tmz; refine gG ?_; exact gT)
  rw [wOut_ok hob] at cB
  (have F := @tmz; refine gC (cB) ?_; clear F)
  (have F := @tmz; refine gR ?_; clear F)
  by_cases hlt : wN g ws b < wN g ws a
  rotate_left
  · have q1 : (wN g ws a ≤ wN g ws b) = True := eq_true (by omega)
    have hf := hno fun h => hlt h.lt
    (have F := And.intro @tmz (And.intro @q1 @hf); refine gG ?_; exact gT)
  have q1 : (wN g ws a ≤ wN g ws b) = False := eq_false (by omega)
  (have F := And.intro @tmz @q1; refine gG ?_; clear F)
  (have F := @e0P; refine gL (ι := Nat) [6, 14, 51, 62] [] (fun j => [(14, A.d (.one (.lit (.int .i64 j))))]) (fun j => []) (fun j => j ≤ vs.length ∧ ∀ (i : Nat) v, i < j → vs[i]? = some v → wF g ws v b ≤ wF g ws v a) (fun j => vs.length - j) (0) (⟨Nat.zero_le _, fun i v h => absurd h (by omega)⟩) (fun j hj => ?_); clear F)
  obtain ⟨hjl, hall⟩ := hj
  by_cases hlj : j < vs.length
  · have q2 : (j : Int) < (vs.length : Int) := by omega
    obtain ⟨v, hv⟩ : ∃ v, vs[j]? = some v := ⟨_, List.getElem?_eq_getElem hlj⟩
    have hwj := wrap1 (k := j) (by omega)
    have hvm := List.mem_of_getElem? hv
    have m1 := numR_get (f := fun v => wF g ws v a) hv
    have m2 := numR_get (f := fun v => wF g ws v b) hv
    have m3 := numR_rows (f := fun v => wF g ws v a) (vs := vs)
    have m4 := numR_rows (f := fun v => wF g ws v b) (vs := vs)
    by_cases hF : wF g ws v b ≤ wF g ws v a
    rotate_left
    · have q5 : (wF g ws v a < wF g ws v b) = True := eq_true (by omega)
      have hf := hno fun h => hF (h.all v hvm)
      (have F := And.intro @tmz (And.intro @q2 (And.intro @m1 (And.intro @m2 (And.intro @m3 (And.intro @m4 (And.intro @q5 @hf)))))); refine gG ?_; exact gT)
    have q5 : (wF g ws v a < wF g ws v b) = False := eq_false (by omega)
    have hq : j + 1 ≤ vs.length ∧ ∀ (i : Nat) v, i < j + 1 → vs[i]? = some v → wF g ws v b ≤ wF g ws v a := ⟨hlj, fun i u hi hu => by
      by_cases hij : i = j
      · subst hij; rw [hv] at hu; injection hu with hu; subst hu; exact hF
      · exact hall i u (by omega) hu⟩
    (have F := And.intro @tmz (And.intro @q2 (And.intro @m1 (And.intro @m2 (And.intro @m3 (And.intro @m4 (And.intro @q5 @hwj)))))); refine gG ?_; exact ⟨j + 1, hq, gw, gw, by omega⟩)
  obtain rfl : j = vs.length := by omega
  have q2 : ¬ ((vs.length : Int) < (vs.length : Int)) := by omega
  have ht := hyes ⟨hs, hoa, hob, hlt, fun v hv => by obtain ⟨i, hi⟩ := List.getElem?_of_mem hv; exact hall i v (List.getElem?_eq_some_iff.1 hi).1 hi⟩
  (have F := And.intro @tmz (And.intro @q2 @ht); refine gG ?_; exact gT)
noncomputable def hvB (g : Sgn) (ws : List Wt) (a b : Tm) : Bool := isIn g ws && (isTerm g a && (isTerm g b && gtB g ws a b))
set_option maxHeartbeats 16000000 in
set_option maxRecDepth 100000 in
theorem con_implHv (hok : okSgn g) (hwl : ws.length ≤ 1048576) (ha : okTm a) (hb : okTm b) (hba : bulkRow (encTm a) ≤ 1048576) (hbb : bulkRow (encTm b) ≤ 1048576) : Con e0 73 [.agg (encSgn g), .one (.sl (ws.map encWt)), .agg (encTm a), .agg (encTm b)] [.one (.lit (.bool (hvB g ws a b)))] := by
  have cI := con_implIn (ws := ws) hok hwl
  have cTa := con_implIsTerm hok ha hba
  have cTb := con_implIsTerm hok hb hbb
  have cVa := con_implVars a hba
  have cVb := con_implVars b hbb
  have hvt := vars_len2 hba
  have hvl := varsOf_len a
  have hvt' := vars_len2 hbb
  have hvl' := varsOf_len b
  have cX := fun h1 h2 h3 t => con_implW_all (g := g) (ws := ws) (vs := varsOf a) h1 h2 h3 (sizeTm t + 1) t (Nat.lt_succ_self _)
  have hfs : isSgn g = false → hvB g ws a b = false := fun h => by
    have : isIn g ws = false := isIn_false fun hI => by rw [isSgn_true hI.sgn] at h; cases h
    rw [hvB, this]; rfl
  rw [encSgn] at cI cTa cTb cX ⊢
  refine gI 620065608666788527600040927 Tryz.func73 ?_
  (have F := @tmz; refine gG ?_; clear F)
  refine gB ?_
  cases hs : isSgn g with
  | false =>
    have hf := hfs hs
    rw [hs, Bool.false_and] at cTa
    (have F := @tmz; refine gC (cTa) ?_; clear F)
    (have F := @tmz; refine gR ?_; clear F)
    (have F := And.intro @tmz @hf; refine gG ?_; exact gT)
  | true =>
  rw [hs, Bool.true_and] at cTa cTb
  (have F := @tmz; refine gC (cTa) ?_; clear F)
  cases hA : isTerm g a with
  | false =>
    have hf : hvB g ws a b = false := by rw [hvB, hA]; simp
    (have F := @tmz; refine gR ?_; clear F)
    (have F := And.intro @tmz @hf; refine gG ?_; exact gT)
  | true =>
  (have F := @tmz; refine gC (cTb) ?_; clear F)
  cases hB : isTerm g b with
  | false =>
    have hf : hvB g ws a b = false := by rw [hvB, hB]; simp
    (have F := @tmz; refine gR ?_; clear F)
    (have F := And.intro @tmz @hf; refine gG ?_; exact gT)
  | true =>
  have he : hvB g ws a b = (isIn g ws && gtB g ws a b) := by rw [hvB, hA, hB]; rfl
  rw [he]
  (have F := @tmz; refine gR ?_; clear F)
  (have F := @tmz; refine gG ?_; clear F)
  refine gB ?_
  (have F := @tmz; refine gC (cVa) ?_; clear F)
  (have F := @tmz; refine gR ?_; clear F)
  (have F := @tmz; refine gG ?_; clear F)
  refine gB ?_
  (have F := @tmz; refine gC (cVb) ?_; clear F)
  (have F := @tmz; refine gR ?_; clear F)
  have hyes := gt_yes (g := g) (ws := ws) (a := a) (b := b)
  have hno := gt_no (g := g) (ws := ws) (a := a) (b := b)
  have hnd := varsOf_nodup a
  have hina : ∀ v ∈ varsTm a, v ∈ varsOf a := fun v hv => mem_varsOf hv
  have hvb : (varsOf a).length ≤ 1048577 := by omega
  have eW : ∀ vs, withB vs b = (varsOf b).all (hasB vs) := fun vs => rfl
  generalize varsOf a = vs at *
  have hwm := within_mem (vs := vs) (b := b)
  generalize varsOf b = us at *
  (have F := @tmz; refine gG ?_; clear F)
  (have F := @e0P; refine gL (ι := Nat) [8, 11, 34, 35, 41] [] (fun i => [(34, A.d (.one (.lit (.int .i64 i))))]) (fun i => []) (fun i => i ≤ us.length ∧ (us.take i).all (hasB vs) = true) (fun i => us.length - i) (0) (⟨Nat.zero_le _, rfl⟩) (fun i hi => ?_); clear F)
  obtain ⟨hil, hall⟩ := hi
  by_cases hlt : i < us.length
  · have q2 : (i : Int) < (us.length : Int) := by omega
    obtain ⟨x, hx⟩ : ∃ x, us[i]? = some x := ⟨_, List.getElem?_eq_getElem hlt⟩
    have hw1 := wrap1 (k := i) (by omega)
    (have F := And.intro @tmz (And.intro @q2 @hx); refine gG ?_; clear F)
    refine gB ?_
    (have F := @tmz; refine gC (con_hasTerm vs x (by unfold big; omega)) ?_; clear F)
    cases hh : hasB vs x with
    | false =>
      have hf := hno fun h => by
        have := h.sub
        rw [eW, all_false (List.mem_of_getElem? hx) hh] at this
        cases this
      (have F := @tmz; refine gR ?_; clear F)
      (have F := And.intro @tmz @hf; refine gG ?_; exact gT)
    | true =>
      have hq : i + 1 ≤ us.length ∧ (us.take (i + 1)).all (hasB vs) = true := ⟨hlt, by rw [all_take_c hx, hall, hh]; rfl⟩
      (have F := @tmz; refine gR ?_; clear F)
      (have F := And.intro @tmz @hw1; refine gG ?_; exact ⟨i + 1, hq, gw, gw, by omega⟩)
  obtain rfl : i = us.length := by omega
  have q2 : ¬ ((us.length : Int) < (us.length : Int)) := by omega
  rw [List.take_length] at hall
  have hsub : withB vs b = true := by rw [eW]; exact hall
  have hinb := hwm hsub
  (have F := And.intro @tmz @q2; refine gG ?_; clear F)
  refine gB ?_
  (have F := @tmz; refine gC (cI) ?_; clear F)
  cases hI : isIn g ws with
  | false =>
    (have F := @tmz; refine gR ?_; clear F)
    (have F := @tmz; refine gG ?_; exact gT)
  | true =>
  have hIO := isIn_iff.1 hI
  have cA := cX hIO hvb hnd a (form_of hA) hina
  have cB := cX hIO hvb hnd b (form_of hB) hinb
  (have F := @tmz; refine gR ?_; clear F)
  (have F := @tmz; refine gG ?_; clear F)
  refine gB ?_
  by_cases hoa : okW g ws vs a
  rotate_left
  · rw [wOut_no hoa] at cA
    have hf := hno fun h => hoa h.oka
    rw [hf]
    (have F := @tmz; refine gC (cA) ?_; clear F)
    (have F := @tmz; refine gR ?_; clear F)
    (have F := @tmz; refine gG ?_; clear F)
    refine gB ?_
    by_cases hob : okW g ws vs b
    · rw [wOut_ok hob] at cB
      (have F := @tmz; refine gC (cB) ?_; clear F)
      (have F := @tmz; refine gR ?_; clear F)
      (have F := @tmz; refine gG ?_; exact gT)
    · rw [wOut_no hob] at cB
      (have F := @tmz; refine gC (cB) ?_; clear F)
      (have F := @tmz; refine gR ?_; clear F)
      (have F := @tmz; refine gG ?_; exact gT)
  rw [wOut_ok hoa] at cA
  (have F := @tmz; refine gC (cA) ?_; clear F)
  (have F := @tmz; refine gR ?_; clear F)
  (have F := @tmz; refine gG ?_; clear F)
  refine gB ?_
  by_cases hob : okW g ws vs b
  rotate_left
  · rw [wOut_no hob] at cB
    have hf := hno fun h => hob h.okb
    rw [hf]
    (have F := @tmz; refine gC (cB) ?_; clear F)
    (have F := @tmz; refine gR ?_; clear F)
    (have F := @tmz; refine gG ?_; exact gT)
  rw [wOut_ok hob] at cB
  (have F := @tmz; refine gC (cB) ?_; clear F)
  (have F := @tmz; refine gR ?_; clear F)
  by_cases hlt : wN g ws b < wN g ws a
  rotate_left
  · have q1 : (wN g ws a ≤ wN g ws b) = True := eq_true (by omega)
    have hf := hno fun h => hlt h.lt
    (have F := And.intro @tmz (And.intro @q1 @hf); refine gG ?_; exact gT)
  have q1 : (wN g ws a ≤ wN g ws b) = False := eq_false (by omega)
  (have F := And.intro @tmz @q1; refine gG ?_; clear F)
  (have F := @e0P; refine gL (ι := Nat) [8, 18, 78, 79, 89] [] (fun j => [(78, A.d (.one (.lit (.int .i64 j))))]) (fun j => []) (fun j => j ≤ vs.length ∧ ∀ (i : Nat) v, i < j → vs[i]? = some v → wF g ws v b ≤ wF g ws v a) (fun j => vs.length - j) (0) (⟨Nat.zero_le _, fun i v h => absurd h (by omega)⟩) (fun j hj => ?_); clear F)
  obtain ⟨hjl, hall2⟩ := hj
  by_cases hlj : j < vs.length
  · have q2 : (j : Int) < (vs.length : Int) := by omega
    obtain ⟨v, hv⟩ : ∃ v, vs[j]? = some v := ⟨_, List.getElem?_eq_getElem hlj⟩
    have hwj := wrap1 (k := j) (by omega)
    have hvm := List.mem_of_getElem? hv
    have m1 := numR_get (f := fun v => wF g ws v a) hv
    have m2 := numR_get (f := fun v => wF g ws v b) hv
    have m3 := numR_rows (f := fun v => wF g ws v a) (vs := vs)
    have m4 := numR_rows (f := fun v => wF g ws v b) (vs := vs)
    by_cases hF : wF g ws v b ≤ wF g ws v a
    rotate_left
    · have q5 : (wF g ws v a < wF g ws v b) = True := eq_true (by omega)
      have hf := hno fun h => hF (h.all v hvm)
      (have F := And.intro @tmz (And.intro @q2 (And.intro @m1 (And.intro @m2 (And.intro @m3 (And.intro @m4 (And.intro @q5 @hf)))))); refine gG ?_; exact gT)
    have q5 : (wF g ws v a < wF g ws v b) = False := eq_false (by omega)
    have hq : j + 1 ≤ vs.length ∧ ∀ (i : Nat) v, i < j + 1 → vs[i]? = some v → wF g ws v b ≤ wF g ws v a := ⟨hlj, fun i u hi hu => by
      by_cases hij : i = j
      · subst hij; rw [hv] at hu; injection hu with hu; subst hu; exact hF
      · exact hall2 i u (by omega) hu⟩
    (have F := And.intro @tmz (And.intro @q2 (And.intro @m1 (And.intro @m2 (And.intro @m3 (And.intro @m4 (And.intro @q5 @hwj)))))); refine gG ?_; exact ⟨j + 1, hq, gw, gw, by omega⟩)
  obtain rfl : j = vs.length := by omega
  have q2 : ¬ ((vs.length : Int) < (vs.length : Int)) := by omega
  have ht := hyes ⟨hsub, hoa, hob, hlt, fun v hv => by obtain ⟨i, hi⟩ := List.getElem?_of_mem hv; exact hall2 i v (List.getElem?_eq_some_iff.1 hi).1 hi⟩
  (have F := And.intro @tmz (And.intro @q2 @ht); refine gG ?_; exact gT)
end
end Go.Proofs.YtofklmbljbkdaaaGreat
namespace Go.Proofs.YtofklmbljbkdaaaGreat
open Go.RowKit
noncomputable def heavB (g : Sgn) (ws : List Wt) (e : Eqn) : Bool := gtB g ws e.l e.r
noncomputable def decB (m : Mdl) (ws : List Wt) : Bool := isMdl m && (isIn m.sig ws && m.eqs.all (heavB m.sig ws))
theorem mdl_len {m : Mdl} (h : isMdl m = true) : m.eqs.length ≤ 16 := by
  simp only [isMdl, hasEq, Bool.and_eq_true, decide_eq_true_eq] at h
  exact h.2.1
theorem mdl_terms {m : Mdl} (h : isMdl m = true) {e : Eqn} (he : e ∈ m.eqs) : isTerm m.sig e.l = true ∧ isTerm m.sig e.r = true := by
  simp only [isMdl, hasEq, Bool.and_eq_true, List.all_eq_true] at h
  have h1 := h.2.2.2.1 e he
  simp only [eqnB, pairB, Bool.and_eq_true] at h1
  exact ⟨h1.1.1, h1.1.2.1⟩
section
variable {m : Mdl} {ws : List Wt}
set_option maxHeartbeats 8000000 in
set_option maxRecDepth 100000 in
theorem con_specDec (hm : okMdl m) (hwl : ws.length ≤ 1048576) (hb : bulkRow (encMdl m) ≤ 1048576) : Con e0 19 [.agg (encMdl m), .one (.sl (ws.map encWt))] [.one (.lit (.bool (decB m ws)))] := by
  have cM := con_specMod hm hb
  rw [bulk_mdl] at hb
  obtain ⟨hokg, hoe, hou⟩ := hm
  have cO := con_specIn (ws := ws) hokg hwl
  have cH := fun hI (e : Eqn) (he : okEqn e) (hb : bulkRow (encEqn e) ≤ 1048576) => con_specGt (g := m.sig) (ws := ws) hI he.1 he.2.1 (by rw [bulk_eqn] at hb; omega) (by rw [bulk_eqn] at hb; omega)
  have er := eqn_rows
  rw [encSgn] at cO
  have ed : encMdl m = [.sl (m.sig.sorts.names.map encStr), .sl (m.sig.sorts.subs.map encSub), .sl (m.sig.ops.map encOpr), .sl (m.eqs.map encEqn), .sl (m.rules.map encEqn)] := rfl
  rw [ed] at cM ⊢
  refine gI 137440034871 Tryz.func19 ?_
  (have F := And.intro @tmz (And.intro @eqz @er); refine gG ?_; clear F)
  refine gB ?_
  (have F := @tmz; refine gC (cM) ?_; clear F)
  cases hM : isMdl m with
  | false =>
    have hf : decB m ws = false := by rw [decB, hM]; rfl
    (have F := @tmz; refine gR ?_; clear F)
    (have F := And.intro @tmz @hf; refine gG ?_; exact gT)
  | true =>
  (have F := @tmz; refine gC (cO) ?_; clear F)
  cases hO : isIn m.sig ws with
  | false =>
    have hf : decB m ws = false := by rw [decB, hM, hO]; rfl
    (have F := @tmz; refine gR ?_; clear F)
    (have F := And.intro @tmz @hf; refine gG ?_; exact gT)
  | true =>
  have hI := isIn_iff.1 hO
  have ei : decB m ws = m.eqs.all (heavB m.sig ws) := by rw [decB, hM, hO]; rfl
  rw [ei]
  have hl := mdl_len hM
  (have F := @tmz; refine gR ?_; clear F)
  (have F := And.intro @tmz (And.intro @eqz @er); refine gG ?_; clear F)
  (have F := @e0P; refine gL (ι := Nat) [4, 5, 20, 37] [] (fun x => [(5, A.d (.one (.lit (.int .i64 x))))]) (fun x => []) (fun x => x ≤ m.eqs.length ∧ (m.eqs.take x).all (heavB m.sig ws) = true) (fun x => m.eqs.length - x) (0) (⟨Nat.zero_le _, rfl⟩) (fun x hx => ?_); clear F)
  obtain ⟨hxl, hall⟩ := hx
  by_cases hlt : x < m.eqs.length
  rotate_left
  · obtain rfl : x = m.eqs.length := by omega
    have q1 : ¬ ((m.eqs.length : Int) < (m.eqs.length : Int)) := by omega
    rw [List.take_length] at hall
    (have F := And.intro @tmz (And.intro @eqz (And.intro @er (And.intro @q1 @hall))); refine gG ?_; exact gT)
  have q1 : (x : Int) < (m.eqs.length : Int) := by omega
  obtain ⟨e, he⟩ : ∃ a, m.eqs[x]? = some a := ⟨_, List.getElem?_eq_getElem hlt⟩
  have hmm := List.mem_of_getElem? he
  have hw1 := wrap1 (k := x) (by omega)
  have hbb := bulk_eq_mem hmm
  have hnx : heavB m.sig ws e = true → x + 1 ≤ m.eqs.length ∧ (m.eqs.take (x + 1)).all (heavB m.sig ws) = true := fun h => ⟨hlt, by rw [all_take_c he, hall, h]; rfl⟩
  obtain ⟨t1, t2⟩ := mdl_terms hM hmm
  have cE := cH hI e (hoe e hmm) (by omega) (isTerm_iff.1 t1).form (isTerm_iff.1 t2).form
  (have F := And.intro @tmz (And.intro @eqz (And.intro @er @q1)); refine gG ?_; clear F)
  refine gB ?_
  (have F := And.intro @tmz (And.intro @eqz (And.intro @er @he)); refine gC (cE) ?_; clear F)
  cases hh : gtB m.sig ws e.l e.r with
  | false =>
    have hf : m.eqs.all (heavB m.sig ws) = false := all_false hmm hh
    (have F := @tmz; refine gR ?_; clear F)
    (have F := And.intro @tmz @hf; refine gG ?_; exact gT)
  | true =>
    have hq := hnx hh
    (have F := @tmz; refine gR ?_; clear F)
    (have F := And.intro @tmz @hw1; refine gG ?_; exact ⟨x + 1, hq, gw, gw, by omega⟩)
set_option maxHeartbeats 8000000 in
set_option maxRecDepth 100000 in
theorem con_implDec (hm : okMdl m) (hwl : ws.length ≤ 1048576) (hb : bulkRow (encMdl m) ≤ 1048576) : Con e0 21 [.agg (encMdl m), .one (.sl (ws.map encWt))] [.one (.lit (.bool (decB m ws)))] := by
  have cM := con_implMod hm hb
  rw [bulk_mdl] at hb
  obtain ⟨hokg, hoe, hou⟩ := hm
  have cO := con_implIn (ws := ws) hokg hwl
  have cH := fun (e : Eqn) (he : okEqn e) (hb : bulkRow (encEqn e) ≤ 1048576) => con_implHv (g := m.sig) (ws := ws) hokg hwl he.1 he.2.1 (by rw [bulk_eqn] at hb; omega) (by rw [bulk_eqn] at hb; omega)
  have er := eqn_rows
  rw [encSgn] at cO cH
  have ed : encMdl m = [.sl (m.sig.sorts.names.map encStr), .sl (m.sig.sorts.subs.map encSub), .sl (m.sig.ops.map encOpr), .sl (m.eqs.map encEqn), .sl (m.rules.map encEqn)] := rfl
  rw [ed] at cM ⊢
  refine gI 4298965079 Tryz.func21 ?_
  (have F := And.intro @tmz (And.intro @eqz @er); refine gG ?_; clear F)
  refine gB ?_
  (have F := @tmz; refine gC (cM) ?_; clear F)
  cases hM : isMdl m with
  | false =>
    have hf : decB m ws = false := by rw [decB, hM]; rfl
    (have F := @tmz; refine gR ?_; clear F)
    (have F := And.intro @tmz @hf; refine gG ?_; exact gT)
  | true =>
  (have F := @tmz; refine gC (cO) ?_; clear F)
  cases hO : isIn m.sig ws with
  | false =>
    have hf : decB m ws = false := by rw [decB, hM, hO]; rfl
    (have F := @tmz; refine gR ?_; clear F)
    (have F := And.intro @tmz @hf; refine gG ?_; exact gT)
  | true =>
  have hI := isIn_iff.1 hO
  have ei : decB m ws = m.eqs.all (heavB m.sig ws) := by rw [decB, hM, hO]; rfl
  rw [ei]
  have hl := mdl_len hM
  (have F := @tmz; refine gR ?_; clear F)
  (have F := And.intro @tmz (And.intro @eqz @er); refine gG ?_; clear F)
  (have F := @e0P; refine gL (ι := Nat) [4, 6, 20, 21, 32] [] (fun x => [(20, A.d (.one (.lit (.int .i64 x))))]) (fun x => []) (fun x => x ≤ m.eqs.length ∧ (m.eqs.take x).all (heavB m.sig ws) = true) (fun x => m.eqs.length - x) (0) (⟨Nat.zero_le _, rfl⟩) (fun x hx => ?_); clear F)
  obtain ⟨hxl, hall⟩ := hx
  by_cases hlt : x < m.eqs.length
  rotate_left
  · obtain rfl : x = m.eqs.length := by omega
    have q1 : ¬ ((m.eqs.length : Int) < (m.eqs.length : Int)) := by omega
    rw [List.take_length] at hall
    (have F := And.intro @tmz (And.intro @eqz (And.intro @er (And.intro @q1 @hall))); refine gG ?_; exact gT)
  have q1 : (x : Int) < (m.eqs.length : Int) := by omega
  obtain ⟨e, he⟩ : ∃ a, m.eqs[x]? = some a := ⟨_, List.getElem?_eq_getElem hlt⟩
  have hmm := List.mem_of_getElem? he
  have hw1 := wrap1 (k := x) (by omega)
  have hbb := bulk_eq_mem hmm
  have hnx : heavB m.sig ws e = true → x + 1 ≤ m.eqs.length ∧ (m.eqs.take (x + 1)).all (heavB m.sig ws) = true := fun h => ⟨hlt, by rw [all_take_c he, hall, h]; rfl⟩
  obtain ⟨t1, t2⟩ := mdl_terms hM hmm
  have cE := cH e (hoe e hmm) (by omega)
  have ev : hvB m.sig ws e.l e.r = gtB m.sig ws e.l e.r := by rw [hvB, hO, t1, t2]; rfl
  rw [ev] at cE
  (have F := And.intro @tmz (And.intro @eqz (And.intro @er (And.intro @q1 @he))); refine gG ?_; clear F)
  refine gB ?_
  (have F := And.intro @tmz (And.intro @eqz @er); refine gC (cE) ?_; clear F)
  cases hh : gtB m.sig ws e.l e.r with
  | false =>
    have hf : m.eqs.all (heavB m.sig ws) = false := all_false hmm hh
    (have F := @tmz; refine gR ?_; clear F)
    (have F := And.intro @tmz @hf; refine gG ?_; exact gT)
  | true =>
    have hq := hnx hh
    (have F := @tmz; refine gR ?_; clear F)
    (have F := And.intro @tmz @hw1; refine gG ?_; exact ⟨x + 1, hq, gw, gw, by omega⟩)
end
end Go.Proofs.YtofklmbljbkdaaaGreat
namespace Go.Proofs.YtofklmbljbkdaaaGreat
open Go.RowKit
set_option maxHeartbeats 40000000 in
set_option maxRecDepth 100000 in
theorem con_lawDecreases {row0 : List C} (hok0 : okRow (moduleF) row0) {rows1 : List (List C)} (hok1 : okRows (fieldsOf .weight) rows1) {R0 : Bool} (hsp0 : bulkRow row0 ≤ 1048576 → rows1.length + bulkRows rows1 ≤ 1048576 → Con e0 19 [.agg row0, .one (.sl rows1)] [.one (.lit (.bool R0))]) (him0 : bulkRow row0 ≤ 1048576 → rows1.length + bulkRows rows1 ≤ 1048576 → Con e0 21 [.agg row0, .one (.sl rows1)] [.one (.lit (.bool R0))]) : Con e0 4 [.agg row0, .one (.sl rows1)] [.one (.lit (.bool true))] := by
  have okc0 := hok0.cells
  obtain ⟨len0, tk0, dr0⟩ := hok0.take (n := 5) rfl
  refine gI 18159122269175 Tryz.func4 ?_
  (have F := And.intro @okc0 (And.intro @len0 (And.intro @tk0 (And.intro @dr0 @drop0))); refine gG ?_; clear F)
  have hL0_0 : (0 : Int) ≤ 1048576 := by omega
  have hL0_1 : (1048576 : Int) ≤ 1048576 := by omega
  refine gB ?_
  (have F := And.intro @okc0 (And.intro @len0 (And.intro @tk0 (And.intro @dr0 @drop0))); refine gC (con_szModule hok0 hL0_0 hL0_1) ?_; clear F)
  (have F := And.intro @okc0 (And.intro @len0 (And.intro @tk0 (And.intro @dr0 @drop0))); refine gR ?_; clear F)
  by_cases hb0 : ((bulkRow row0) : Int) ≤ 1048576
  rotate_left
  · have n1 : sub 1048576 (bulkRow row0) = -1 := sub_neg (by omega)
    have n2 : (-1 : Int) < 0 := by omega
    (have F := And.intro @n1 @n2; refine gG ?_; exact gT)
  have nq0 : sub 1048576 (bulkRow row0) = 1048576 - ((bulkRow row0) : Nat) := sub_pos (by omega)
  rw [nq0]
  clear nq0
  have hB0 : bulkRow row0 ≤ 1048576 := by omega
  have hL1_0 : (0 : Int) ≤ 1048576 - ((bulkRow row0) : Nat) := by omega
  have hL1_1 : (1048576 : Int) - ((bulkRow row0) : Nat) ≤ 1048576 := by omega
  generalize hgl0 : (1048576 : Int) - ((bulkRow row0) : Nat) = L1 at *
  clear hgl0
  have n2 : ¬ (L1 < 0) := by omega
  (have F := And.intro @n2 (And.intro @okc0 (And.intro @len0 (And.intro @tk0 (And.intro @dr0 @drop0)))); refine gG ?_; clear F)
  clear n2 hb0
  refine gB ?_
  (have F := And.intro @okc0 (And.intro @len0 (And.intro @tk0 (And.intro @dr0 @drop0))); refine gC (con_szWeightS hok1 hL1_0 hL1_1) ?_; clear F)
  (have F := And.intro @okc0 (And.intro @len0 (And.intro @tk0 (And.intro @dr0 @drop0))); refine gR ?_; clear F)
  by_cases hb1 : ((rows1.length + bulkRows rows1 : Nat) : Int) ≤ L1
  rotate_left
  · have n1 : sub L1 (rows1.length + bulkRows rows1 : Nat) = -1 := sub_neg (by omega)
    have n2 : (-1 : Int) < 0 := by omega
    (have F := And.intro @n1 @n2; refine gG ?_; exact gT)
  have nq1 : sub L1 (rows1.length + bulkRows rows1 : Nat) = L1 - ((rows1.length + bulkRows rows1 : Nat) : Nat) := sub_pos (by omega)
  rw [nq1]
  clear nq1
  have hB1 : rows1.length + bulkRows rows1 ≤ 1048576 := by omega
  have hL2_0 : (0 : Int) ≤ L1 - ((rows1.length + bulkRows rows1 : Nat) : Nat) := by omega
  have hL2_1 : (L1 : Int) - ((rows1.length + bulkRows rows1 : Nat) : Nat) ≤ 1048576 := by omega
  generalize hgl1 : (L1 : Int) - ((rows1.length + bulkRows rows1 : Nat) : Nat) = L2 at *
  clear hgl1
  have n2 : ¬ (L2 < 0) := by omega
  (have F := And.intro @n2 (And.intro @okc0 (And.intro @len0 (And.intro @tk0 (And.intro @dr0 @drop0)))); refine gG ?_; clear F)
  clear n2 hb1
  have hsp := hsp0 hB0 hB1
  have him := him0 hB0 hB1
  have cT0 := con_toModule hok0 hB0
  have cT1 := con_toWeightS hok1 hB1
  refine gB ?_
  (have F := And.intro @okc0 (And.intro @len0 (And.intro @tk0 (And.intro @dr0 @drop0))); refine gC (cT0) ?_; clear F)
  (have F := And.intro @okc0 (And.intro @len0 (And.intro @tk0 (And.intro @dr0 @drop0))); refine gC (cT1) ?_; clear F)
  (have F := And.intro @okc0 (And.intro @len0 (And.intro @tk0 (And.intro @dr0 @drop0))); refine gC (hsp) ?_; clear F)
  (have F := And.intro @okc0 (And.intro @len0 (And.intro @tk0 (And.intro @dr0 @drop0))); refine gR ?_; clear F)
  (have F := And.intro @okc0 (And.intro @len0 (And.intro @tk0 (And.intro @dr0 @drop0))); refine gG ?_; clear F)
  refine gB ?_
  (have F := And.intro @okc0 (And.intro @len0 (And.intro @tk0 (And.intro @dr0 @drop0))); refine gC (cT0) ?_; clear F)
  (have F := And.intro @okc0 (And.intro @len0 (And.intro @tk0 (And.intro @dr0 @drop0))); refine gR ?_; clear F)
  (have F := And.intro @okc0 (And.intro @len0 (And.intro @tk0 (And.intro @dr0 @drop0))); refine gG ?_; clear F)
  refine gB ?_
  (have F := And.intro @okc0 (And.intro @len0 (And.intro @tk0 (And.intro @dr0 @drop0))); refine gC (cT1) ?_; clear F)
  (have F := And.intro @okc0 (And.intro @len0 (And.intro @tk0 (And.intro @dr0 @drop0))); refine gR ?_; clear F)
  (have F := And.intro @okc0 (And.intro @len0 (And.intro @tk0 (And.intro @dr0 @drop0))); refine gG ?_; clear F)
  refine gB ?_
  (have F := And.intro @okc0 (And.intro @len0 (And.intro @tk0 (And.intro @dr0 @drop0))); refine gC (him) ?_; clear F)
  (have F := And.intro @okc0 (And.intro @len0 (And.intro @tk0 (And.intro @dr0 @drop0))); refine gR ?_; clear F)
  (have F := And.intro @okc0 (And.intro @len0 (And.intro @tk0 (And.intro @dr0 (And.intro @drop0 @beq_self_eq_true.{0})))); refine gG ?_; clear F)
  refine gB ?_
  (have F := And.intro @okc0 (And.intro @len0 (And.intro @tk0 (And.intro @dr0 @drop0))); refine gC (cT0) ?_; clear F)
  (have F := And.intro @okc0 (And.intro @len0 (And.intro @tk0 (And.intro @dr0 @drop0))); refine gC (con_eqModule hok0) ?_; clear F)
  (have F := And.intro @okc0 (And.intro @len0 (And.intro @tk0 (And.intro @dr0 @drop0))); refine gR ?_; clear F)
  (have F := And.intro @okc0 (And.intro @len0 (And.intro @tk0 (And.intro @dr0 @drop0))); refine gG ?_; clear F)
  refine gB ?_
  (have F := And.intro @okc0 (And.intro @len0 (And.intro @tk0 (And.intro @dr0 @drop0))); refine gC (cT1) ?_; clear F)
  (have F := And.intro @okc0 (And.intro @len0 (And.intro @tk0 (And.intro @dr0 @drop0))); refine gC (con_eqWeightS hok1) ?_; clear F)
  (have F := And.intro @okc0 (And.intro @len0 (And.intro @tk0 (And.intro @dr0 @drop0))); refine gR ?_; clear F)
  (have F := And.intro @okc0 (And.intro @len0 (And.intro @tk0 (And.intro @dr0 @drop0))); refine gG ?_; exact gT)
theorem lawExactDecreases (w : World) (row0 : List C) (S0 : Nat → Prop) (us0 : List Value) (hok0 : okRow (moduleF) row0) (hv0 : RepVals w S0 row0 us0) (rows1 : List (List C)) (S1 : Nat → Prop) (u1 : Value) (hok1 : okRows (fieldsOf .weight) rows1) (hv1 : Rep w S1 (.sl rows1) u1) :
    Calls Tryz.prog 4 #[(.agg us0.toArray : Value), u1] w fun e w' => e = .returned (.bool true) ∧ Below w.heap.size w w' := by
  obtain ⟨m, rfl, k0⟩ := decMod hok0
  obtain ⟨ws, rfl, k1⟩ := decL decWt hok1
  have hc := (con_lawDecreases hok0 hok1 (fun b0 b1 => con_specDec k0 (by simpa using Nat.le_trans (Nat.le_add_right _ _) b1) b0) (fun b0 b1 => con_implDec k0 (by simpa using Nat.le_trans (Nat.le_add_right _ _) b1) b0)).2 w (fun b => b < w.heap.size) [(.agg us0.toArray : Value), u1] (fun b hb => ⟨hb, id⟩) (fun b hb => hb.elim) trivial
    ⟨⟨us0, rfl, hv0.inside'⟩, (Rep.inside _ _ hv1).mono (fun b hb => hb.2), trivial⟩
  refine hc.mono fun e w' ⟨v, h1, h2, _, h4⟩ => ⟨?_, h2.below⟩
  have h4 : v = .bool true := by simpa [retA, ARel, DRel, Rep] using h4
  rw [h1, h4]
end Go.Proofs.YtofklmbljbkdaaaGreat
namespace Go.Proofs.YtofklmbljbkdaaaGreat
open Go.ChangeShapes Go.WideShapes Go.ChangeAt Go.RowKit Go.Deep
set_option maxRecDepth 100000 in
theorem decreases_holds_lifted (os : Os) (started : os.Started) (H : Type) (enc : TypeId × Value → H) :
    ReturnsInHanded {} Tryz.checked os 4 .any (Rows.fnExactDecreasesSpec.pre6 enc Tryz.prog Tryz.f4 Rows.fnExactDecreasesRow.domain false) (Rows.fnExactDecreasesSpec.post enc Tryz.prog Tryz.f4 false true false false) := by
  refine returnsInHanded_of_change (C := Tryz.checked) own started (by kernel_rfl) Tryz.func4
    (ChangeSpec.witness6 (enc := enc) (C := Tryz.checked) false ⟨#[], #[.agg #[.slice none 0 0, .slice none 0 0, .slice none 0 0, .slice none 0 0, .slice none 0 0], .slice none 0 0], []⟩ 8 (by kernel_rfl) (by kernel_rfl) (by kernel_rfl) (by kernel_rfl)) ?_
  intro W base args ds gs before hval0 hW _ _
  have hval : ∀ (j : Nat) t v, Tryz.f4.params[j]? = some t → args[j]? = some v → Value.okWide Tryz.prog W .any base t v := hval0
  have hW' := hW
  obtain ⟨p, q, hA0, hV, rfl, _, _⟩ := hW
  have hA : DataW.TrodAll enc Tryz.prog W 0 (fun _ => true) true Tryz.f4.params.toList args.toList ds p := hA0
  rw [Tryz.params4] at hA hval
  obtain ⟨v0, vs0, d0, ds0, p0, q0, hargs0, hd0, hp0, h0, r0⟩ := trodAll_cons hA
  obtain ⟨v1, vs1, d1, ds1, p1, q1, hargs1, hd1, hp1, h1, r1⟩ := trodAll_cons r0
  obtain ⟨e2, e2d, _⟩ := trodAll_nil r1
  rw [e2] at hargs1
  rw [hargs1] at hargs0
  obtain rfl : args = #[v0, v1] := by cases args; simp_all
  rw [e2d] at hd1
  rw [hd1] at hd0
  subst hd0
  obtain ⟨rfl, rfl⟩ := trodVars_none hV
  obtain ⟨cs0, rfl, _⟩ := okWide_struct Tryz.underlying31 (hval 0 31 v0 rfl rfl)
  obtain ⟨fuel0, hf0⟩ := h0
  obtain ⟨row0, hok0, hrep0⟩ := open_row seatTR fuel0 _ _ _ _ ty_Module hf0
  have e0c : (Value.agg cs0).cells.toList.toArray = cs0 := by simp [Value.cells]
  obtain ⟨fuel1, hf1⟩ := h1
  have hone1 := okWide_one Tryz.underlying53 (hval 1 53 v1 rfl rfl)
  rw [hone1] at hf1
  obtain ⟨row1, hok1, hrep1⟩ := open_row seatTR fuel1 _ _ _ _ ty_s_weight hf1
  obtain ⟨rows1, hok1', hrep1'⟩ := open_sl hok1 hrep1
  have hlaw := lawExactDecreases W row0 _ _ hok0 hrep0 rows1 _ _ hok1' hrep1'
  rw [e0c] at hlaw
  refine hlaw.mono fun e W' ⟨he, hb⟩ => ?_
  subst he
  exact ⟨_, rfl, law_post laidOut rfl rfl Tryz.underlying4 (by rw [Tryz.params4]; decide +kernel) hW' rfl hb⟩
set_option maxHeartbeats 400000000 in
set_option maxRecDepth 100000 in
theorem decreases_holds_closed : joinedFacts Tryz.checked.prog 4 Tryz.f4 Rows.fnExactDecreasesSpec Rows.fnExactDecreasesRow = true := by
  unfold joinedFacts
  simp only [Bool.and_eq_true]
  and_intros
  all_goals as_aux_lemma => kernel_rfl
theorem decreases_holds_named : Tryz.checked.prog.funcNamed Rows.fnExactDecreasesRow.func = some 4 := by kernel_rfl
theorem decreases_holds : Rows.FnExactDecreasesSaid :=
  OpenClaim.holds_of_wide 4 Tryz.f4 rfl rfl rfl rfl rfl rfl rfl ⟨rfl, rfl, rfl, rfl, rfl⟩ rfl rfl rfl rfl rfl decreases_holds_named Tryz.func4 decreases_holds_closed
    (of_decide_eq_true (by kernel_rfl)) (by unfold Func.isWrapper; rw [if_neg (of_decide_eq_false (by kernel_rfl))]; exact ⟨rfl, rfl⟩)
    (fun os started H enc _ => decreases_holds_lifted os started H enc)
#print axioms decreases_holds
end Go.Proofs.YtofklmbljbkdaaaGreat
