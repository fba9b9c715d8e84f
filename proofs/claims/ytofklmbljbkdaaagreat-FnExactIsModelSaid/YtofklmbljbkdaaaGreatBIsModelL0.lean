/-
  FnExactIsModel returns true for every module and algebra, and turns nothing: proved without conditions.
-/
import Derived.Test.YtofklmbljbkdaaaGreatBBase0
import Derived.Test.YtofklmbljbkdaaaGreatBBase1
import Derived.Test.YtofklmbljbkdaaaGreatBBase2
import Derived.Test.YtofklmbljbkdaaaGreatBBase3
import Derived.Test.YtofklmbljbkdaaaGreatBBase4
import Derived.Test.YtofklmbljbkdaaaGreatBIsModel0
import Derived.Test.YtofklmbljbkdaaaGreatBBaseL0
set_option linter.unusedSimpArgs false
set_option linter.unusedVariables false
namespace Go.Proofs.YtofklmbljbkdaaaGreat
open Go.RowKit
theorem valTm_var {g : Sgn} {a : Alg} {vs : List Tm} {xs : List Int} {t : Tm} (h : t.op < 0) : valTm g a vs xs t = valV vs xs t := by
  obtain ⟨op, nm, so, args⟩ := t
  simp only [Tm.op] at h
  rw [valTm, if_pos h]
theorem valTm_app {g : Sgn} {a : Alg} {vs : List Tm} {xs : List Int} {t : Tm} (h : ¬ t.op < 0) : valTm g a vs xs t = opV (isAs g t.op) a.size (a.tables.getD t.op.toNat []) (valTms g a vs xs t.args) := by
  obtain ⟨op, nm, so, args⟩ := t
  simp only [Tm.op, Tm.args] at h ⊢
  rw [valTm, if_neg h]
theorem var_self {g : Sgn} {t : Tm} (h : VarOk g t) : t ∈ varsTm t := by
  obtain ⟨op, nm, so, args⟩ := t
  have e1 := h.1
  have e2 := h.2.2.2.2
  simp only [Tm.op, Tm.args] at e1 e2
  subst e1 e2
  simp [varsTm]
theorem vars_arg {t b : Tm} (hop : 0 ≤ t.op) (hb : b ∈ t.args) : ∀ v ∈ varsTm b, v ∈ varsTm t := by
  obtain ⟨op, nm, so, args⟩ := t
  simp only [Tm.op, Tm.args] at hop hb
  have h : ¬ op = -1 := by omega
  intro v hv
  simp only [varsTm, if_neg h]
  clear hop h
  induction args with
  | nil => cases hb
  | cons x xs ih =>
    simp only [varsTms, List.mem_append]
    rcases List.mem_cons.1 hb with rfl | hb
    · exact .inl hv
    · exact .inr (ih hb)
set_option maxHeartbeats 4000000 in
set_option maxRecDepth 100000 in
theorem con_indexAt {ts : List Tm} {f : FuncId} {caps : List C} {P : Tm → Bool} (hl : ts.length ≤ big) (h : ∀ a ∈ ts, Con e0 f (.agg (encTm a) :: caps.map .one) [.one (.lit (.bool (P a)))]) :
    ∃ r : Int, ((∃ (k : Nat) (a : Tm), r = k ∧ ts[k]? = some a ∧ P a = true ∧ ∀ (j : Nat) a, j < k → ts[j]? = some a → P a = false) ∨ (r = -1 ∧ ts.any P = false)) ∧ Con e0 151 [.one (.sl (encTms ts)), .one (.fn f caps)] [.one (.lit (.int .i64 r))] := by
  unfold big at hl
  by_cases hA : ts.any P = true
  · obtain ⟨k, hk, hbef⟩ : ∃ k : Nat, (∃ a, ts[k]? = some a ∧ P a = true) ∧ ∀ (j : Nat) a, j < k → ts[j]? = some a → P a = false := by
      have hex : ∃ k : Nat, ∃ a, ts[k]? = some a ∧ P a = true := by
        obtain ⟨a, ha, hp⟩ := List.any_eq_true.1 hA
        obtain ⟨k, hk⟩ := List.getElem?_of_mem ha
        exact ⟨k, a, hk, hp⟩
      obtain ⟨k, hk, hmin⟩ := least hex
      refine ⟨k, hk, fun j a hj ha => ?_⟩
      cases hp : P a with
      | false => rfl
      | true => exact absurd ⟨a, ha, hp⟩ (hmin j hj)
    obtain ⟨a0, ha0, hp0⟩ := hk
    have hkl := (List.getElem?_eq_some_iff.1 ha0).1
    refine ⟨(k : Int), .inl ⟨k, a0, rfl, ha0, hp0, hbef⟩, ?_⟩
    refine gI 66483 Tryz.func151 ?_
    (have F := @tmz; refine gG ?_; clear F)
    (have F := @e0P; refine gL (ι := Nat) [4, 5, 8, 9, 16] [] (fun i => [(8, A.d (.one (.lit (.int .i64 i))))]) (fun i => []) (fun i => i ≤ k) (fun i => k + 1 - i) (0) (by omega) (fun i hi => ?_); clear F)
    have hl' : (i : Int) < (ts.length : Int) := by omega
    obtain ⟨a, ha⟩ : ∃ a, ts[i]? = some a := ⟨_, List.getElem?_eq_getElem (by omega)⟩
    have hw1 := wrap1 (k := i) (by omega)
    (have F := And.intro @tmz @hl'; refine gG ?_; clear F)
    refine gB ?_
    (have F := And.intro @tmz @ha; refine gC (h a (List.mem_of_getElem? ha)) ?_; clear F)
    by_cases hik : i = k
    · subst hik
      rw [ha] at ha0
      injection ha0 with ha0
      subst ha0
      (have F := And.intro @tmz @hp0; refine gR ?_; clear F)
      (have F := @tmz; refine gG ?_; exact gT)
    · have hpf := hbef i a (by omega) ha
      (have F := And.intro @tmz @hpf; refine gR ?_; clear F)
      (have F := And.intro @hw1 @tmz; refine gG ?_; exact ⟨i + 1, by omega, gw, gw, by omega⟩)
  · have hbef : ∀ (j : Nat) a, ts[j]? = some a → P a = false := fun j a ha => by
      cases hp : P a with
      | false => rfl
      | true => exact absurd (List.any_eq_true.2 ⟨a, List.mem_of_getElem? ha, hp⟩) hA
    refine ⟨-1, .inr ⟨rfl, by simpa using hA⟩, ?_⟩
    refine gI 66483 Tryz.func151 ?_
    (have F := @tmz; refine gG ?_; clear F)
    (have F := @e0P; refine gL (ι := Nat) [4, 5, 8, 9, 16] [] (fun i => [(8, A.d (.one (.lit (.int .i64 i))))]) (fun i => []) (fun i => i ≤ ts.length) (fun i => ts.length - i) (0) (by omega) (fun i hi => ?_); clear F)
    by_cases hi' : i < ts.length
    rotate_left
    · have hl' : ¬ ((i : Int) < (ts.length : Int)) := by omega
      (have F := And.intro @tmz @hl'; refine gG ?_; exact gT)
    have hl' : (i : Int) < (ts.length : Int) := by omega
    obtain ⟨a, ha⟩ : ∃ a, ts[i]? = some a := ⟨_, List.getElem?_eq_getElem (by omega)⟩
    have hw1 := wrap1 (k := i) (by omega)
    have hpf := hbef i a ha
    (have F := And.intro @tmz @hl'; refine gG ?_; clear F)
    refine gB ?_
    (have F := And.intro @tmz @ha; refine gC (h a (List.mem_of_getElem? ha)) ?_; clear F)
    (have F := And.intro @tmz @hpf; refine gR ?_; clear F)
    (have F := And.intro @hw1 @tmz; refine gG ?_; exact ⟨i + 1, by omega, gw, gw, by omega⟩)
theorem con_valC (t v : Tm) : Con e0 195 [.agg (encTm v), .one (.ptr (encTm t))] [.one (.lit (.bool (decide (cmpTm v t = 0))))] := by
  refine gI 15 Tryz.func195 ?_
  (have F := @tmz; refine gG ?_; clear F)
  refine gB ?_
  (have F := @tmz; refine gC (con_implSame v t) ?_; clear F)
  (have F := @tmz; refine gR ?_; clear F)
  (have F := @tmz; refine gG ?_; exact gT)
set_option maxHeartbeats 8000000 in
set_option maxRecDepth 100000 in
theorem con_implVal_all {g : Sgn} {a : Alg} {vs : List Tm} {xs : List Int} (hA : AlgOk g a) (hv : ValOk a vs xs) (hvs : vs.length ≤ big) : ∀ (n : Nat) (t : Tm), sizeTm t < n → FormOk g t → (∀ v ∈ varsTm t, v ∈ vs) → sizeTm t ≤ big →
    Con e0 132 [.agg (encSgn g), .agg (encAlg a), .agg (encTm t), .one (.sl (encTms vs)), .one (.sl (xs.map encInt))] [.one (.lit (.int .i64 (valTm g a vs xs t)))] := by
  intro n
  induction n with
  | zero => exact fun _ h => by omega
  | succ n ih =>
    intro t hn hf hin hbig
    rw [encSgn, encAlg] at ih ⊢
    refine gI 2361201255833835568383 Tryz.func132 ?_
    rcases op_cases hf.node with ⟨hvar, hop⟩ | ⟨hop, o, d, hap⟩
    · have q1 : (t.op < 0) = True := eq_true hop
      rw [valTm_var hop]
      have c := con_indexAt (ts := vs) (f := 195) (caps := [.ptr (encTm t)]) (P := fun v => decide (cmpTm v t = 0)) hvs fun v _ => con_valC t v
      obtain ⟨r, hr, c⟩ := c
      have hmem := hin t (var_self hvar)
      rcases hr with ⟨k, v, rfl, hk, hp, hbef⟩ | ⟨rfl, hno⟩
      rotate_left
      · have := List.any_eq_false.1 hno t hmem
        simp [cmpTm_self] at this
      have hkl := (List.getElem?_eq_some_iff.1 hk).1
      obtain ⟨x, hx⟩ : ∃ x, xs[k]? = some x := ⟨_, List.getElem?_eq_getElem (by rw [hv.len]; exact hkl)⟩
      have e := valV_get hk hx (by simpa using hp) fun j u hj hu => by simpa using hbef j u hj hu
      rw [e]
      (have F := And.intro @tmz @q1; refine gG ?_; clear F)
      refine gB ?_
      (have F := @tmz; refine gC (c) ?_; clear F)
      (have F := And.intro @tmz (And.intro @encInt_u @hx); refine gR ?_; clear F)
      (have F := @tmz; refine gG ?_; exact gT)
    · have q1 : (t.op < 0) = False := eq_false (by omega)
      rw [valTm_app (by omega)]
      obtain ⟨l, hl, hT, has⟩ := tab_of hA hap
      have el : a.tables.getD t.op.toNat [] = l := by simp [List.getD_eq_getElem?_getD, hl]
      rw [has, el]
      have hws : ∀ x ∈ valTms g a vs xs t.args, In0 a.size x := valTms_in hA hv (by have := (FormOk_iff.1 hf).2.1; exact FormOks_iff.2 this) fun v hvm => by
        refine hin v ?_
        obtain ⟨op, nm, so, args⟩ := t
        simp only [Tm.op, Tm.args] at hop hvm
        have : ¬ op = -1 := by omega
        simpa only [varsTm, if_neg this] using hvm
      have hlen := valTms_len (g := g) (a := a) (vs := vs) (xs := xs) t.args
      have hnas := hap.nas
      have hat := hap.at'
      have hwg : ∀ (i : Nat) b, t.args[i]? = some b → (valTms g a vs xs t.args)[i]? = some (valTm g a vs xs b) := fun i b hb => by rw [valTms_eq, List.getElem?_map, hb]; rfl
      generalize valTms g a vs xs t.args = ws at *
      have hal : t.args.length ≤ 4611686018427387904 := by
        have : ∀ l : List Tm, l.length ≤ sizeTms l := fun l => by
          induction l with
          | nil => exact Nat.zero_le _
          | cons x xs ih => cases x; simp only [sizeTms, sizeTm, List.length_cons]; omega
        have h1 := this t.args
        have h2 : sizeTm t = 1 + sizeTms t.args := by obtain ⟨op, nm, so, args⟩ := t; rfl
        unfold big at hbig
        omega
      (have F := And.intro @tmz @q1; refine gG ?_; clear F)
      (have F := @accV_0; refine gL (ι := Nat) [11, 12, 13, 14, 27, 28, 54] [] (fun i => [(27, A.d (.one (.lit (.int .i64 i)))), (11, .d (.one (.lit (.int .i64 (accV o.assoc a.size l ws i)))))]) (fun i => []) (fun i => i ≤ t.args.length) (fun i => t.args.length - i) (0) (Nat.zero_le _) (fun i hi => ?_); clear F)
      by_cases hlt : i < t.args.length
      rotate_left
      · have q2 : ¬ ((i : Int) < (t.args.length : Int)) := by omega
        obtain rfl : i = t.args.length := by omega
        cases hac : o.assoc with
        | true =>
          have e : opV true a.size l ws = accV true a.size l ws t.args.length := by rw [opV, if_pos rfl, hlen]
          rw [e]
          (have F := And.intro @tmz (And.intro @q2 (And.intro @hop (And.intro @hat (And.intro @encOpr_u @hac)))); refine gG ?_; exact gT)
        | false =>
          rw [hac] at hT
          have hb := accF_in (l := l) hT.lo hws ws.length (Nat.le_refl _)
          rw [hlen] at hb
          have hg := (hT.get hb.1 (by rw [← hnas hac]; exact hb.2)).1
          have e : opV false a.size l ws = l.getD (accV false a.size l ws t.args.length).toNat 0 := by simp [opV, hlen]
          have hb0 := hb.1
          rw [e]
          generalize l.getD (accV false a.size l ws t.args.length).toNat 0 = y at hg ⊢
          (have F := And.intro @tmz (And.intro @q2 (And.intro @hop (And.intro @hat (And.intro @encOpr_u (And.intro @hac (And.intro @encInts_u (And.intro @encInt_u (And.intro @hl (And.intro @hb0 @hg))))))))); refine gG ?_; exact gT)
      have q2 : (i : Int) < (t.args.length : Int) := by omega
      obtain ⟨b, hb⟩ : ∃ b, t.args[i]? = some b := ⟨_, List.getElem?_eq_getElem hlt⟩
      have hbm := List.mem_of_getElem? hb
      have hw1 := wrap1 (k := i) (by omega)
      have hsz : sizeTm b < sizeTm t := by
        have h1 := sizeTms_mem hbm
        have h2 : sizeTm t = 1 + sizeTms t.args := by obtain ⟨op, nm, so, args⟩ := t; rfl
        omega
      have cI := ih b (by omega) ((FormOk_iff.1 hf).2.1 b hbm) (fun v hvm => hin v (vars_arg hop hbm v hvm)) (by omega)
      obtain ⟨s1, s2, s3, s4, s5⟩ := acc_step hT hws (fun h => by rw [hlen]; exact hnas h) (hwg i b hb)
      (have F := And.intro @tmz (And.intro @q2 @hb); refine gG ?_; clear F)
      refine gB ?_
      (have F := And.intro @tmz @hb; refine gC (cI) ?_; clear F)
      (have F := @tmz; refine gR ?_; clear F)
      cases hac : o.assoc with
      | false =>
        rw [hac] at s1 s2 s3 s5
        have s5 := s5 (.inl rfl)
        (have F := And.intro @tmz (And.intro @s1 (And.intro @s2 (And.intro @hop (And.intro @hat (And.intro @encOpr_u (And.intro @hac (And.intro @hw1 @s5))))))); refine gG ?_; exact ⟨i + 1, hlt, gw, gw, by omega⟩)
      | true =>
        rw [hac] at s1 s2 s3 s4 s5
        rcases Nat.eq_zero_or_pos i with hi0 | hi0
        · have s5 := s5 (.inr hi0)
          have q3 : ((0 : Int) < (i : Int)) = False := eq_false (by omega)
          (have F := And.intro @tmz (And.intro @s1 (And.intro @s2 (And.intro @hop (And.intro @hat (And.intro @encOpr_u (And.intro @hac (And.intro @hw1 (And.intro @q3 @s5)))))))); refine gG ?_; exact ⟨i + 1, hlt, gw, gw, by omega⟩)
        · have s4 := s4 rfl hi0
          have q3 : ((0 : Int) < (i : Int)) = True := eq_true (by omega)
          (have F := And.intro @tmz (And.intro @s1 (And.intro @s2 (And.intro @s3 (And.intro @hop (And.intro @hat (And.intro @encOpr_u (And.intro @hac (And.intro @hw1 (And.intro @q3 (And.intro @encInts_u (And.intro @encInt_u (And.intro @hl @s4)))))))))))); refine gG ?_; exact ⟨i + 1, hlt, gw, gw, by omega⟩)
end Go.Proofs.YtofklmbljbkdaaaGreat
namespace Go.Proofs.YtofklmbljbkdaaaGreat
open Go.RowKit
def curV (z : Int) (l ws : List Int) : Nat → Int
  | 0 => ws.getD 0 0
  | j + 1 => l.getD (curV z l ws j * z + ws.getD (j + 1) 0).toNat 0
theorem curV_0 {z : Int} {l ws : List Int} {w : Int} (h : ws[0]? = some w) : curV z l ws 0 = w := by simp [curV, List.getD_eq_getElem?_getD, h]
theorem acc_cur {z : Int} {l ws : List Int} : ∀ j : Nat, accV true z l ws (j + 1) = curV z l ws j
  | 0 => by simp [accV, curV]
  | j + 1 => by
    have ih := acc_cur (z := z) (l := l) (ws := ws) j
    rw [accV, if_pos ⟨rfl, by omega⟩, ih, curV]
structure TabT (z : Int) (l : List Int) : Prop where
  lo : 1 ≤ z
  hi : z ≤ 4
  len : l.length = z.toNat * z.toNat
  all : ∀ x ∈ l, In0 z x
theorem curV_in {z : Int} {l ws : List Int} (hT : TabT z l) (hw : ∀ x ∈ ws, In0 z x) : ∀ j : Nat, j < ws.length → In0 z (curV z l ws j)
  | 0, h => by
    rw [curV_0 (List.getElem?_eq_getElem h)]
    exact hw _ (List.getElem_mem _)
  | j + 1, h => by
    have ih := curV_in hT hw j (by omega)
    have hwi : In0 z (ws.getD (j + 1) 0) := by
      rw [List.getD_eq_getElem?_getD, List.getElem?_eq_getElem h]
      exact hw _ (List.getElem_mem _)
    have hm := mul_add_lt ih.1 ih.2 hT.lo hwi
    have hz : ((z.toNat * z.toNat : Nat) : Int) = z * z := by rw [Int.natCast_mul, Int.toNat_of_nonneg (by have := hT.lo; omega)]
    have hl : (curV z l ws j * z + ws.getD (j + 1) 0).toNat < l.length := by rw [hT.len]; omega
    rw [curV, List.getD_eq_getElem?_getD, List.getElem?_eq_getElem hl]
    exact hT.all _ (List.getElem_mem hl)
theorem pairs_ok {z : Int} {n : Nat} {ac : Bool} {l ws : List Int} (hT : TabN z n ac l) (hw : ∀ x ∈ ws, In0 z x) (hn : ac = false → ws.length = n) (h2 : 2 ≤ ws.length) (hno : ws.length = 3 → l.length = z.toNat * z.toNat * z.toNat → z = 1) :
    TabT z l ∧ opV ac z l ws = curV z l ws (ws.length - 1) := by
  have hlo := hT.lo
  have hhi := hT.hi
  have hlen := hT.len
  cases ac with
  | true =>
    have e2 := hT.as2 rfl
    subst e2
    rw [Nat.pow_succ, Nat.pow_succ, Nat.pow_zero, Nat.one_mul] at hlen
    refine ⟨⟨hlo, hhi, hlen, hT.all⟩, ?_⟩
    rw [opV, if_pos rfl, ← acc_cur]
    congr 1
    omega
  | false =>
    have hn := hn rfl
    have h3 := hT.le3
    rcases (by omega : ws.length = 2 ∨ ws.length = 3) with h | h
    · have e2 : n = 2 := by omega
      subst e2
      rw [Nat.pow_succ, Nat.pow_succ, Nat.pow_zero, Nat.one_mul] at hlen
      refine ⟨⟨hlo, hhi, hlen, hT.all⟩, ?_⟩
      simp [opV, accV, curV, h]
    · have e3 : n = 3 := by omega
      subst e3
      rw [Nat.pow_succ, Nat.pow_succ, Nat.pow_succ, Nat.pow_zero, Nat.one_mul] at hlen
      have e1 := hno h hlen
      subst e1
      have hTT : TabT 1 l := ⟨hlo, hhi, by rw [hlen]; rfl, hT.all⟩
      have i1 := opV_in hT hw (fun _ => hn)
      have i2 := curV_in hTT hw (ws.length - 1) (by omega)
      simp only [In0] at i1 i2
      exact ⟨hTT, by omega⟩
set_option maxHeartbeats 16000000 in
set_option maxRecDepth 100000 in
theorem con_specVal_all {g : Sgn} {a : Alg} {vs : List Tm} {xs : List Int} (hA : AlgOk g a) (hv : ValOk a vs xs) (hvs : vs.length ≤ big) (hvok : okTms vs) : ∀ (n : Nat) (t : Tm), sizeTm t < n → okTm t → FormOk g t → (∀ v ∈ varsTm t, v ∈ vs) → sizeTm t ≤ big →
    Con e0 126 [.agg (encAlg a), .agg (encTm t), .one (.sl (encTms vs)), .one (.sl (xs.map encInt))] [.one (.lit (.int .i64 (valTm g a vs xs t)))] := by
  intro n
  induction n with
  | zero => exact fun _ h => by omega
  | succ n ih =>
    intro t hn hok hf hin hbig
    have hTw := fun (i : Nat) (x y : Int) (ht : Tab2 a i) (hx : Inz a x) (hy : Inz a y) => con_l22Two ht hx hy
    rw [encAlg] at ih hTw ⊢
    unfold big at hvs
    refine gI 340282366922176403502678002122424078143 Tryz.func126 ?_
    rcases op_cases hf.node with ⟨hvar, hop⟩ | ⟨hop, o, d, hap⟩
    · have q1 : (t.op = -1) = True := eq_true hvar.1
      rw [valTm_var hop]
      have hmem := hin t (var_self hvar)
      (have F := And.intro @tmz @q1; refine gG ?_; clear F)
      (have F := @e0P; refine gL (ι := Nat) [8, 9, 18, 26] [] (fun i => [(9, A.d (.one (.lit (.int .i64 i))))]) (fun i => []) (fun i => i ≤ vs.length ∧ ∀ j u, j < i → vs[j]? = some u → cmpTm u t ≠ 0) (fun i => vs.length - i) (0) (⟨Nat.zero_le _, fun j u h => absurd h (by omega)⟩) (fun i hi => ?_); clear F)
      obtain ⟨hil, hbef⟩ := hi
      by_cases hlt : i < vs.length
      rotate_left
      · obtain ⟨k, hk⟩ := List.getElem?_of_mem hmem
        have hkl := (List.getElem?_eq_some_iff.1 hk).1
        exact absurd (cmpTm_self t) (hbef k t (by omega) hk)
      have q2 : (i : Int) < (vs.length : Int) := by omega
      obtain ⟨v, hk⟩ : ∃ v, vs[i]? = some v := ⟨_, List.getElem?_eq_getElem hlt⟩
      obtain ⟨x, hx⟩ : ∃ x, xs[i]? = some x := ⟨_, List.getElem?_eq_getElem (by rw [hv.len]; exact hlt)⟩
      have hw1 := wrap1 (k := i) (by omega)
      (have F := And.intro @tmz (And.intro @q2 @hk); refine gG ?_; clear F)
      refine gB ?_
      (have F := And.intro @tmz (And.intro @q2 @hk); refine gC (con_l5Same (hvok.mem (List.mem_of_getElem? hk)) hok) ?_; clear F)
      by_cases h0 : cmpTm v t = 0
      · have q3 : decide (cmpTm v t = 0) = true := decide_eq_true h0
        have e := valV_get hk hx h0 hbef
        rw [e]
        (have F := And.intro @tmz @q3; refine gR ?_; clear F)
        (have F := And.intro @tmz (And.intro @encInt_u @hx); refine gG ?_; exact gT)
      · have q3 : decide (cmpTm v t = 0) = false := decide_eq_false h0
        have hq : i + 1 ≤ vs.length ∧ ∀ j u, j < i + 1 → vs[j]? = some u → cmpTm u t ≠ 0 := ⟨hlt, fun j u hj hu => by
          by_cases e : j = i
          · subst e
            rw [hk] at hu
            injection hu with hu
            subst hu
            exact h0
          · exact hbef j u (by omega) hu⟩
        (have F := And.intro @tmz @q3; refine gR ?_; clear F)
        (have F := And.intro @tmz @hw1; refine gG ?_; exact ⟨i + 1, hq, gw, gw, by omega⟩)
    · have q1 : (t.op = -1) = False := eq_false (by omega)
      rw [valTm_app (by omega)]
      obtain ⟨l, hl, hT, has⟩ := tab_of hA hap
      have el : a.tables.getD t.op.toNat [] = l := by simp [List.getD_eq_getElem?_getD, hl]
      rw [has, el]
      have hws : ∀ x ∈ valTms g a vs xs t.args, In0 a.size x := valTms_in hA hv (by have := (FormOk_iff.1 hf).2.1; exact FormOks_iff.2 this) fun v hvm => by
        refine hin v ?_
        obtain ⟨op, nm, so, args⟩ := t
        simp only [Tm.op, Tm.args] at hop hvm
        have : ¬ op = -1 := by omega
        simpa only [varsTm, if_neg this] using hvm
      have hlen := valTms_len (g := g) (a := a) (vs := vs) (xs := xs) t.args
      have hnas := hap.nas
      have hasc := hap.asc
      have hwg : ∀ (i : Nat) b, t.args[i]? = some b → (valTms g a vs xs t.args)[i]? = some (valTm g a vs xs b) := fun i b hb => by rw [valTms_eq, List.getElem?_map, hb]; rfl
      have hal3 : t.args.length ≤ 7 := by
        cases hac : o.assoc with
        | true => exact (hasc hac).2
        | false => have := hnas hac; have := hT.le3; omega
      have hoka : okTms t.args := by obtain ⟨op, nm, so, args⟩ := t; simp only [okTm] at hok; exact hok.2.2.2
      have cI := fun (b : Tm) (hbm : b ∈ t.args) => ih b (by
        have h1 := sizeTms_mem hbm
        have h2 : sizeTm t = 1 + sizeTms t.args := by obtain ⟨op, nm, so, args⟩ := t; rfl
        omega) (hoka.mem hbm) ((FormOk_iff.1 hf).2.1 b hbm) (fun v hvm => hin v (vars_arg hop hbm v hvm)) (by
        have h1 := sizeTms_mem hbm
        have h2 : sizeTm t = 1 + sizeTms t.args := by obtain ⟨op, nm, so, args⟩ := t; rfl
        omega)
      generalize valTms g a vs xs t.args = ws at *
      have hlo := hT.lo
      have hhi := hT.hi
      by_cases n0 : t.args.length = 0
      · have hac : o.assoc = false := by
          cases hac : o.assoc with
          | true => have := (hasc hac).1; omega
          | false => rfl
        have q2 : ((t.args.length : Int) = 0) = True := eq_true (by omega)
        have hd0 := hnas hac
        have hg := (hT.get (k := 0) (Int.le_refl _) (by rw [← hd0, n0, Int.pow_zero]; decide)).1
        have e : opV o.assoc a.size l ws = l.getD (0 : Int).toNat 0 := by simp [opV, hac, hlen, n0, accV]
        rw [e]
        generalize l.getD (0 : Int).toNat 0 = y at hg ⊢
        have hg' : l[0]? = some y := hg
        (have F := And.intro @tmz (And.intro @q1 (And.intro @q2 (And.intro @encInts_u (And.intro @encInt_u (And.intro @hop (And.intro @hl (And.intro @hg @hg'))))))); refine gG ?_; exact gT)
      have q2 : ((t.args.length : Int) = 0) = False := eq_false (by omega)
      obtain ⟨b0, hb0⟩ : ∃ b, t.args[0]? = some b := ⟨_, List.getElem?_eq_getElem (by omega)⟩
      have hw0 := hwg 0 b0 hb0
      have i0 := hws _ (List.mem_of_getElem? hw0)
      have ev0 : ws.getD 0 0 = valTm g a vs xs b0 := by rw [List.getD_eq_getElem?_getD, hw0]; rfl
      have q0 : (0 < t.args.length) = True := eq_true (by omega)
      (have F := And.intro @tmz (And.intro @q1 (And.intro @q2 @hb0)); refine gG ?_; clear F)
      refine gB ?_
      (have F := And.intro @tmz (And.intro @hb0 @q0); refine gC (cI b0 (List.mem_of_getElem? hb0)) ?_; clear F)
      (have F := @tmz; refine gR ?_; clear F)
      by_cases n1 : t.args.length = 1
      · have hac : o.assoc = false := by
          cases hac : o.assoc with
          | true => have := (hasc hac).1; omega
          | false => rfl
        have q3 : ((t.args.length : Int) = 1) = True := eq_true (by omega)
        have hd0 := hnas hac
        have hg := (hT.get i0.1 (by rw [← hd0, n1, Int.pow_succ, Int.pow_zero, Int.one_mul]; exact i0.2)).1
        have e : opV o.assoc a.size l ws = l.getD (valTm g a vs xs b0).toNat 0 := by rw [hac, opV, if_neg (by decide), hlen, n1, accV, if_neg (by simp), accV, ev0, Int.zero_mul, Int.zero_add]
        rw [e]
        have i00 := i0.1
        generalize l.getD (valTm g a vs xs b0).toNat 0 = y at hg ⊢
        (have F := And.intro @tmz (And.intro @q3 (And.intro @encInts_u (And.intro @encInt_u (And.intro @hop (And.intro @hl (And.intro @i00 @hg)))))); refine gG ?_; exact gT)
      have q3 : ((t.args.length : Int) = 1) = False := eq_false (by omega)
      have hTl := hT.len
      have zz : ((a.size.toNat : Nat) : Int) = a.size := Int.toNat_of_nonneg (by omega)
      have zb : a.size * a.size ≤ 16 ∧ 0 ≤ a.size * a.size := by
        have h1 := Int.mul_le_mul hhi hhi (by omega) (by omega)
        have h2 := Int.mul_nonneg (show 0 ≤ a.size by omega) (show 0 ≤ a.size by omega)
        omega
      have zc : a.size * a.size * a.size ≤ 64 ∧ 0 ≤ a.size * a.size * a.size := by
        have h1 := Int.mul_le_mul zb.1 hhi (by omega) (by omega)
        have h2 := Int.mul_nonneg zb.2 (show 0 ≤ a.size by omega)
        omega
      have w1 : IntKind.i64.wrap (a.size * a.size) = a.size * a.size := IntWalk.i64_in _ (by omega)
      have w2 : IntKind.i64.wrap (a.size * a.size * a.size) = a.size * a.size * a.size := IntWalk.i64_in _ (by omega)
      by_cases n3 : t.args.length = 3 ∧ (l.length : Int) = a.size * a.size * a.size ∧ 1 < a.size
      · obtain ⟨h3, hL, hz⟩ := n3
        have hac : o.assoc = false := by
          cases hac : o.assoc with
          | false => rfl
          | true =>
            have e2 := hT.as2 hac
            rw [e2] at hTl
            have e3 : (l.length : Int) = a.size * a.size := by rw [hTl, Nat.pow_succ, Nat.pow_succ, Nat.pow_zero, Nat.one_mul, Int.natCast_mul, zz]
            rw [e3] at hL
            have : a.size * a.size * 2 ≤ a.size * a.size * a.size := Int.mul_le_mul_of_nonneg_left (by omega) zb.2
            have : 1 ≤ a.size * a.size := by
              have := Int.mul_le_mul (show 1 ≤ a.size by omega) (show 1 ≤ a.size by omega) (by omega) (by omega)
              omega
            omega
        have hd0 := hnas hac
        obtain ⟨b1, hb1⟩ : ∃ b, t.args[1]? = some b := ⟨_, List.getElem?_eq_getElem (by omega)⟩
        obtain ⟨b2, hb2⟩ : ∃ b, t.args[2]? = some b := ⟨_, List.getElem?_eq_getElem (by omega)⟩
        have hw1 := hwg 1 b1 hb1
        have hw2 := hwg 2 b2 hb2
        have i1 := hws _ (List.mem_of_getElem? hw1)
        have i2 := hws _ (List.mem_of_getElem? hw2)
        have e1 : ws.getD 1 0 = valTm g a vs xs b1 := by rw [List.getD_eq_getElem?_getD, hw1]; rfl
        have e2 : ws.getD 2 0 = valTm g a vs xs b2 := by rw [List.getD_eq_getElem?_getD, hw2]; rfl
        have c1 := cI b1 (List.mem_of_getElem? hb1)
        have c2 := cI b2 (List.mem_of_getElem? hb2)
        have e : opV o.assoc a.size l ws = l.getD ((valTm g a vs xs b0 * a.size + valTm g a vs xs b1) * a.size + valTm g a vs xs b2).toNat 0 := by
          rw [hac, opV, if_neg (by decide), hlen, h3, accV, if_neg (by simp), accV, if_neg (by simp), accV, if_neg (by simp), accV, ev0, e1, e2, Int.zero_mul, Int.zero_add]
        rw [e]
        clear e ev0 e1 e2 hw0 hw1 hw2
        generalize valTm g a vs xs b0 = x0 at *
        generalize valTm g a vs xs b1 = x1 at *
        generalize valTm g a vs xs b2 = x2 at *
        have m1 := mul_add_lt i0.1 i0.2 hlo i1
        have m2 := mul_add_lt m1.2.1 m1.2.2 hlo i2
        have hx1 := i1.1
        have hx2 := i2.1
        have hg := (hT.get m2.2.1 (by rw [← hd0, h3, Int.pow_succ, Int.pow_succ, Int.pow_succ, Int.pow_zero, Int.one_mul]; exact m2.2.2)).1
        have u1 : IntKind.i64.wrap (x0 * a.size) = x0 * a.size := IntWalk.i64_in _ (by omega)
        have u2 : IntKind.i64.wrap (x0 * a.size + x1) = x0 * a.size + x1 := IntWalk.i64_in _ (by omega)
        have u3 : IntKind.i64.wrap ((x0 * a.size + x1) * a.size) = (x0 * a.size + x1) * a.size := IntWalk.i64_in _ (by omega)
        have u4 : IntKind.i64.wrap ((x0 * a.size + x1) * a.size + x2) = (x0 * a.size + x1) * a.size + x2 := IntWalk.i64_in _ (by omega)
        have u5 := m2.2.1
        generalize l.getD ((x0 * a.size + x1) * a.size + x2).toNat 0 = y at hg ⊢
        have q4 : ((t.args.length : Int) = 3) = True := eq_true (by omega)
        have q5 : ((l.length : Int) = a.size * a.size * a.size) = True := eq_true hL
        have q6 : (1 < a.size) = True := eq_true hz
        have q7 : (1 < t.args.length) = True := eq_true (by omega)
        have q8 : (2 < t.args.length) = True := eq_true (by omega)
        (have F := And.intro @tmz (And.intro @q3 (And.intro @q4 (And.intro @q5 (And.intro @q6 (And.intro @w1 (And.intro @w2 (And.intro @encInts_u (And.intro @encInt_u (And.intro @hop @hl))))))))); refine gG ?_; clear F)
        refine gB ?_
        (have F := And.intro @tmz (And.intro @hb1 (And.intro @q7 (And.intro @encInts_u (And.intro @encInt_u (And.intro @hop (And.intro @hl @u1)))))); refine gC (c1) ?_; clear F)
        (have F := And.intro @tmz (And.intro @hb2 (And.intro @q8 (And.intro @u2 @u3))); refine gC (c2) ?_; clear F)
        (have F := And.intro @tmz (And.intro @encInts_u (And.intro @encInt_u (And.intro @u4 (And.intro @u5 @hg)))); refine gR ?_; clear F)
        (have F := @tmz; refine gG ?_; exact gT)
      have hno : ws.length = 3 → l.length = a.size.toNat * a.size.toNat * a.size.toNat → a.size = 1 := fun h3 hL => by
        have : ¬ 1 < a.size := fun hz => n3 ⟨by omega, by rw [hL, Int.natCast_mul, Int.natCast_mul, zz], hz⟩
        omega
      obtain ⟨hTT, eo⟩ := pairs_ok hT hws (fun h => by rw [hlen]; exact hnas h) (by omega) hno
      rw [eo]
      have hcur0 := curV_0 (z := a.size) (l := l) hw0
      have hT2 : Tab2 a t.op.toNat := ⟨hlo, hhi, l, hl, hTT.len, hTT.all⟩
      (have F := And.intro @tmz @q3; refine gG ?_; clear F)
      refine gM (ι := Unit) [90] [] (fun u => [(90, A.d (.one (.lit (.bool false))))]) (fun u => []) (fun u => True) ?_ (fun u hu => Exists.intro _ (And.intro (Wk.refl _) ?_))
      · by_cases h3 : t.args.length = 3
        · have q4 : ((t.args.length : Int) = 3) = True := eq_true (by omega)
          by_cases hL : (l.length : Int) = a.size * a.size * a.size
          · have q5 : ((l.length : Int) = a.size * a.size * a.size) = True := eq_true hL
            have q6 : (1 < a.size) = False := eq_false fun hz => n3 ⟨h3, hL, hz⟩
            (have F := And.intro @tmz (And.intro @q4 (And.intro @q5 (And.intro @q6 (And.intro @w1 (And.intro @w2 (And.intro @encInts_u (And.intro @encInt_u (And.intro @hop @hl)))))))); refine gG ?_; exact ⟨(), trivial, gw, gw⟩)
          · have q5 : ((l.length : Int) = a.size * a.size * a.size) = False := eq_false hL
            (have F := And.intro @tmz (And.intro @q4 (And.intro @q5 (And.intro @w1 (And.intro @w2 (And.intro @encInts_u (And.intro @encInt_u (And.intro @hop @hl))))))); refine gG ?_; exact ⟨(), trivial, gw, gw⟩)
        · have q4 : ((t.args.length : Int) = 3) = False := eq_false (by omega)
          (have F := And.intro @tmz @q4; refine gG ?_; exact ⟨(), trivial, gw, gw⟩)
      (have F := @tmz; refine gG ?_; clear F)
      (have F := @hcur0; refine gL (ι := Nat) [10, 11, 128] [] (fun j => [(11, A.d (.one (.lit (.int .i64 (j + 1))))), (10, .d (.one (.lit (.int .i64 (curV a.size l ws j)))))]) (fun j => []) (fun j => j + 1 ≤ t.args.length) (fun j => t.args.length - j) (0) ((by omega)) (fun j hj => ?_); clear F)
      by_cases hlt : j + 1 < t.args.length
      rotate_left
      · have q5 : ((j : Int) + 1 < (t.args.length : Int)) = False := eq_false (by omega)
        have ej : ws.length - 1 = j := by omega
        rw [ej]
        (have F := And.intro @tmz @q5; refine gG ?_; exact gT)
      have q5 : ((j : Int) + 1 < (t.args.length : Int)) = True := eq_true (by omega)
      obtain ⟨b, hb⟩ : ∃ b, t.args[j + 1]? = some b := ⟨_, List.getElem?_eq_getElem hlt⟩
      have hwb := hwg (j + 1) b hb
      have ib := hws _ (List.mem_of_getElem? hwb)
      have eb : ws.getD (j + 1) 0 = valTm g a vs xs b := by rw [List.getD_eq_getElem?_getD, hwb]; rfl
      have hci := curV_in hTT hws j (by omega)
      have c1 := cI b (List.mem_of_getElem? hb)
      have c2 := hTw t.op.toNat (curV a.size l ws j) (valTm g a vs xs b) hT2 hci ib
      have htw : tw2 a t.op.toNat (curV a.size l ws j) (valTm g a vs xs b) = curV a.size l ws (j + 1) := by rw [tw2, el, curV, eb]
      rw [Int.toNat_of_nonneg hop, htw] at c2
      have hwr : IntKind.i64.wrap ((j : Int) + 1 + 1) = (j : Int) + 1 + 1 := IntWalk.i64_in _ (by omega)
      have hnn : (0 ≤ (j : Int) + 1) = True := eq_true (by omega)
      have htn : ((j : Int) + 1).toNat = j + 1 := by omega
      (have F := And.intro @tmz @q5; refine gG ?_; clear F)
      refine gB ?_
      (have F := And.intro @tmz (And.intro @hnn (And.intro @htn (And.intro @hb @hlt))); refine gC (c1) ?_; clear F)
      (have F := @tmz; refine gC (c2) ?_; clear F)
      (have F := @tmz; refine gR ?_; clear F)
      (have F := And.intro @tmz @hwr; refine gG ?_; exact ⟨j + 1, (by omega), gw, gw, by omega⟩)
end Go.Proofs.YtofklmbljbkdaaaGreat
namespace Go.Proofs.YtofklmbljbkdaaaGreat
open Go.RowKit
theorem mem_varsOf {t v : Tm} : v ∈ varsTm t → v ∈ varsOf t := fun h => mem_distTm.2 h
set_option maxHeartbeats 8000000 in
set_option maxRecDepth 100000 in
theorem con_implIsTerm {g : Sgn} {t : Tm} (hok : okSgn g) (ht : okTm t) (hb : bulkRow (encTm t) ≤ 1048576) : Con e0 88 [.agg (encSgn g), .agg (encTm t)] [.one (.lit (.bool (isSgn g && isTerm g t)))] := by
  by_cases hg : SgnOk g
  rotate_left
  · have hf : isSgn g = false := isSgn_false hg
    have c := con_newAlg_not hok hg
    rw [encSgn] at c
    refine gI 127 Tryz.func88 ?_
    (have F := And.intro @tmz @encSgn_u; refine gG ?_; clear F)
    refine gB ?_
    (have F := @tmz; refine gC (c) ?_; clear F)
    (have F := @tmz; refine gR ?_; clear F)
    (have F := And.intro @tmz @hf; refine gG ?_; exact gT)
  have hs := isSgn_true hg
  have c := conE_newAlg hok hg
  rw [encSgn] at c
  refine gI 127 Tryz.func88 ?_
  (have F := And.intro @tmz @encSgn_u; refine gG ?_; clear F)
  refine gB ?_
  (have F := @tmz; refine gCE (c) ?_; clear F)
  rintro r ⟨b, rfl⟩
  have c1 := con_implIsT (mc := .lit (.map (some b))) hg ht (big_of_bulk hb)
  generalize C.lit (.map (some b)) = mc at c1 ⊢
  (have F := And.intro @retA_u @sa_some; refine gR ?_; clear F)
  (have F := @tmz; refine gG ?_; clear F)
  refine gB ?_
  (have F := @tmz; refine gC (c1) ?_; clear F)
  (have F := @tmz; refine gR ?_; clear F)
  (have F := And.intro @tmz @hs; refine gG ?_; exact gT)
section
variable {g : Sgn} {a : Alg} {t : Tm} {xs : List Int}
theorem form_of (h : isTerm g t = true) : FormOk g t := (isTerm_iff.1 h).form
end
end Go.Proofs.YtofklmbljbkdaaaGreat
namespace Go.Proofs.YtofklmbljbkdaaaGreat
open Go.RowKit
def unv (a : Alg) (o : Opr) : Int := (a.tables.getD (o.unit.toNat - 1) []).getD 0 0
structure OpOk (a : Alg) (i : Nat) (o : Opr) : Prop where
  unit : o.unit ≠ 0 → ∀ x, Inz a x → tw2 a i x (unv a o) = x ∧ tw2 a i (unv a o) x = x
  comm : o.comm = true → ∀ x y, Inz a x → Inz a y → tw2 a i x y = tw2 a i y x
  assoc : o.assoc = true → ∀ x y z, Inz a x → Inz a y → Inz a z → tw2 a i (tw2 a i x y) z = tw2 a i x (tw2 a i y z)
open Classical in
noncomputable def isOp (a : Alg) (i : Nat) (o : Opr) : Bool := decide (OpOk a i o)
theorem isOp_true {a : Alg} {i : Nat} {o : Opr} (h : OpOk a i o) : isOp a i o = true := by simp [isOp, h]
theorem isOp_false {a : Alg} {i : Nat} {o : Opr} (h : ¬ OpOk a i o) : isOp a i o = false := by simp [isOp, h]
structure ObOk (g : Sgn) (a : Alg) : Prop where
  alg : AlgOk g a
  all : ∀ (i : Nat) (o : Opr), g.ops[i]? = some o → OpOk a i o
open Classical in
noncomputable def isOb (g : Sgn) (a : Alg) : Bool := decide (ObOk g a)
theorem isOb_true {g : Sgn} {a : Alg} (h : ObOk g a) : isOb g a = true := by simp [isOb, h]
theorem isOb_false {g : Sgn} {a : Alg} (h : ¬ ObOk g a) : isOb g a = false := by simp [isOb, h]
structure AtOp (g : Sgn) (a : Alg) (i : Nat) (o : Opr) : Prop where
  lo : 1 ≤ a.size
  hi : a.size ≤ 4
  tab : (o.assoc = true ∨ o.comm = true ∨ o.unit ≠ 0) → Tab2 a i
  unit : o.unit ≠ 0 → ∃ (q : Nat) (l : List Int), o.unit = (q : Int) + 1 ∧ q < 14 ∧ a.tables[q]? = some l ∧ l[0]? = some (unv a o) ∧ Inz a (unv a o)
theorem AlgOk.atOp {g : Sgn} {a : Alg} (h : AlgOk g a) {i : Nat} {o : Opr} (ho : g.ops[i]? = some o) : AtOp g a i o := by
  have hm := List.mem_of_getElem? ho
  obtain ⟨d, hd, _⟩ := (h.sgn.decls o hm).first
  have hax := h.sgn.axs o hm
  have hil : i < g.ops.length := (List.getElem?_eq_some_iff.1 ho).1
  have hl14 := h.sgn.len
  refine ⟨h.lo, h.hi, fun ha => ?_, fun hu => ?_⟩
  · have h2 := (hax.two ha d hd).1
    obtain ⟨l, ht⟩ : ∃ l, a.tables[i]? = some l := ⟨_, List.getElem?_eq_getElem (by rw [h.len]; exact hil)⟩
    have hT := h.tab i o d l ho hd ht
    have hTl := hT.len
    rw [h2, Nat.pow_two] at hTl
    exact ⟨h.lo, h.hi, l, ht, hTl, hT.all⟩
  · have hlo := hax.lo
    have hhi := hax.hi
    have hq : o.unit.toNat - 1 < g.ops.length := by omega
    obtain ⟨p, hp⟩ : ∃ p, g.ops[o.unit.toNat - 1]? = some p := ⟨_, List.getElem?_eq_getElem hq⟩
    obtain ⟨u, hu', _⟩ := (h.sgn.decls p (List.mem_of_getElem? hp)).first
    obtain ⟨h2, h3⟩ := hax.two (.inr (.inr hu)) d hd
    obtain ⟨d0, hd0⟩ : ∃ x, d.args[0]? = some x := ⟨_, List.getElem?_eq_getElem (by omega)⟩
    obtain ⟨d1, hd1⟩ : ∃ x, d.args[1]? = some x := ⟨_, List.getElem?_eq_getElem (by omega)⟩
    have hz := ((h3 d0 d1 hd0 hd1).2.2 hu p u hp hu').1
    obtain ⟨l, ht⟩ : ∃ l, a.tables[o.unit.toNat - 1]? = some l := ⟨_, List.getElem?_eq_getElem (by rw [h.len]; exact hq)⟩
    have hT := h.tab _ p u l hp hu' ht
    have hTl := hT.len
    rw [hz, Nat.pow_zero] at hTl
    obtain ⟨v, hv⟩ : ∃ v, l[0]? = some v := ⟨_, List.getElem?_eq_getElem (by omega)⟩
    have e1 : unv a o = v := by unfold unv; simp [List.getD_eq_getElem?_getD, ht, hv]
    refine ⟨o.unit.toNat - 1, l, by omega, by omega, ht, by rw [e1]; exact hv, ?_⟩
    rw [e1]
    exact hT.all v (List.mem_of_getElem? hv)
theorem szN {a : Alg} (h0 : 1 ≤ a.size) (h1 : a.size ≤ 4) : ∃ n : Nat, a.size = (n : Int) ∧ 1 ≤ n ∧ n ≤ 4 := ⟨a.size.toNat, by omega, by omega, by omega⟩
def RowY (a : Alg) (i : Nat) (o : Opr) (n x y : Nat) : Prop := (o.comm = true → tw2 a i x y = tw2 a i y x) ∧ (o.assoc = true → ∀ z : Nat, z < n → tw2 a i (tw2 a i x y) z = tw2 a i x (tw2 a i y z))
def RowX (a : Alg) (i : Nat) (o : Opr) (n x : Nat) : Prop := (o.unit ≠ 0 → tw2 a i x (unv a o) = x ∧ tw2 a i (unv a o) x = x) ∧ ∀ y : Nat, y < n → RowY a i o n x y
theorem op_of {a : Alg} {i : Nat} {o : Opr} {n : Nat} (hn : a.size = (n : Int)) (h : ∀ x : Nat, x < n → RowX a i o n x) : OpOk a i o := by
  have zin : ∀ {x : Int}, Inz a x → ∃ k : Nat, x = (k : Int) ∧ k < n := fun hx => ⟨_, (Int.toNat_of_nonneg hx.1).symm, by have h0 := hx.1; have := hx.2; omega⟩
  refine ⟨fun hu x hx => ?_, fun hc x y hx hy => ?_, fun hc x y z hx hy hz => ?_⟩
  · obtain ⟨k, rfl, hk⟩ := zin hx
    exact (h k hk).1 hu
  · obtain ⟨k, rfl, hk⟩ := zin hx
    obtain ⟨k2, rfl, hk2⟩ := zin hy
    exact ((h k hk).2 k2 hk2).1 hc
  · obtain ⟨k, rfl, hk⟩ := zin hx
    obtain ⟨k2, rfl, hk2⟩ := zin hy
    obtain ⟨k3, rfl, hk3⟩ := zin hz
    exact ((h k hk).2 k2 hk2).2 hc k3 hk3
theorem row_next {P : Nat → Prop} {x : Nat} (h : ∀ y : Nat, y < x → P y) (hx : P x) : ∀ y : Nat, y < x + 1 → P y := fun y hy => by
  by_cases e : y = x
  · subst e; exact hx
  · exact h y (by omega)
set_option maxHeartbeats 40000000 in
set_option maxRecDepth 100000 in
theorem con_l22Axioms {g : Sgn} {a : Alg} {i : Nat} {o : Opr} (ho : g.ops[i]? = some o) (hA : AtOp g a i o) : Con e0 123 [.agg (encSgn g), .agg (encAlg a), .one (.lit (.int .i64 i))] [.one (.lit (.bool (isOp a i o)))] := by
  obtain ⟨n, hn, hn1, hn4⟩ := szN hA.lo hA.hi
  have inz : ∀ {x : Nat}, x < n → Inz a x := fun hx => ⟨by omega, by omega⟩
  have cT : ∀ {x y : Int}, Tab2 a i → Inz a x → Inz a y → _ := fun h1 h2 h3 => con_l22Two (a := a) (i := i) h1 h2 h3
  have hno := isOp_false (a := a) (i := i) (o := o)
  have hil := (List.getElem?_eq_some_iff.1 ho).1
  rw [encAlg] at cT
  rw [encSgn, encAlg]
  refine gI 324518709005399160074923339157471 Tryz.func123 ?_
  (have F := And.intro @ho @encOpr_u; refine gG ?_; clear F)
  (have F := @e0P; refine gL (ι := Nat) [6, 8, 9, 10, 11, 20, 25, 50, 62, 79, 87, 108] [] (fun x => [(8, A.d (.one (.lit (.int .i64 x))))]) (fun x => []) (fun x => x ≤ n ∧ ∀ x' : Nat, x' < x → RowX a i o n x') (fun x => n - x) (0) (⟨by omega, fun x' h => absurd h (by omega)⟩) (fun x hx => ?_); clear F)
  obtain ⟨hxn, hall⟩ := hx
  by_cases hlt : x < n
  rotate_left
  · have q2 : ¬ ((x : Int) < a.size) := by omega
    have ht := isOp_true (op_of hn fun x' h => hall x' (by omega))
    (have F := And.intro @q2 @ht; refine gG ?_; exact gT)
  have q2 : (x : Int) < a.size := by omega
  have hX := inz hlt
  have hwx := wrap1 (k := x) (by omega)
  (have F := @q2; refine gG ?_; clear F)
  refine gM (ι := Unit) [9, 25, 50] [] (fun u => []) (fun u => []) (fun u => o.unit ≠ 0 → tw2 a i x (unv a o) = x ∧ tw2 a i (unv a o) x = x) ?_ (fun u hu => Exists.intro _ (And.intro (Wk.refl _) ?_))
  · by_cases hu : o.unit = 0
    · have z1 : decide ((0 : Int) < o.unit) = false := decide_eq_false (by omega)
      (have F := @z1; refine gG ?_; exact ⟨(), fun h => absurd hu h, gw, gw⟩)
    obtain ⟨q, l, hq, hq14, hl, hl0, hE⟩ := hA.unit hu
    have ht := hA.tab (.inr (.inr hu))
    have z1 : decide ((0 : Int) < o.unit) = true := decide_eq_true (by omega)
    have hsub : IntKind.i64.wrap (o.unit - 1) = (q : Int) := by rw [hq]; exact wrapN (by omega) (by omega) (by omega)
    (have F := And.intro @z1 (And.intro @hsub (And.intro @encInts_u (And.intro @encInt_u (And.intro @hl @hl0)))); refine gG ?_; clear F)
    refine gB ?_
    (have F := @e0P; refine gC (cT ht hX hE) ?_; clear F)
    by_cases h1 : tw2 a i x (unv a o) = x
    rotate_left
    · have hf := hno fun hO => h1 (hO.unit hu x hX).1
      have y1 : (tw2 a i x (unv a o) = (x : Int)) = False := eq_false h1
      (have F := @y1; refine gR ?_; clear F)
      (have F := @hf; refine gG ?_; exact gT)
    have y1 : (tw2 a i x (unv a o) = (x : Int)) = True := eq_true h1
    (have F := @y1; refine gC (cT ht hE hX) ?_; clear F)
    by_cases h2 : tw2 a i (unv a o) x = x
    rotate_left
    · have hf := hno fun hO => h2 (hO.unit hu x hX).2
      have y2 : (tw2 a i (unv a o) x = (x : Int)) = False := eq_false h2
      (have F := And.intro @y1 @y2; refine gR ?_; clear F)
      (have F := @hf; refine gG ?_; exact gT)
    have y2 : (tw2 a i (unv a o) x = (x : Int)) = True := eq_true h2
    (have F := And.intro @y1 @y2; refine gR ?_; clear F)
    (have F := @e0P; refine gG ?_; exact ⟨(), fun _ => ⟨h1, h2⟩, gw, gw⟩)
  (have F := @e0P; refine gG ?_; clear F)
  (have F := @e0P; refine gL (ι := Nat) [6, 10, 11, 62, 79, 87, 108] [] (fun y => [(10, A.d (.one (.lit (.int .i64 y))))]) (fun y => []) (fun y => y ≤ n ∧ ∀ y' : Nat, y' < y → RowY a i o n x y') (fun y => n - y) (0) (⟨by omega, fun x' h => absurd h (by omega)⟩) (fun y hy => ?_); clear F)
  obtain ⟨hyn, hally⟩ := hy
  have hwy := wrap1 (k := y) (by omega)
  have nxt : (∀ y' : Nat, y' < n → RowY a i o n x y') → x + 1 ≤ n ∧ ∀ x' : Nat, x' < x + 1 → RowX a i o n x' := fun h => ⟨hlt, row_next hall ⟨hu, h⟩⟩
  by_cases hyl : y < n
  rotate_left
  · have q3 : ¬ ((y : Int) < a.size) := by omega
    have hq := nxt fun y' hy' => hally y' (by omega)
    (have F := And.intro @q3 @hwx; refine gG ?_; exact ⟨x + 1, hq, gw, gw, by omega⟩)
  have q3 : (y : Int) < a.size := by omega
  have hY := inz hyl
  by_cases hcm : o.comm = true ∨ o.assoc = true
  rotate_left
  · have hc1 : o.comm = false := by simpa using fun h => hcm (.inl h)
    have hc2 : o.assoc = false := by simpa using fun h => hcm (.inr h)
    have hq := nxt fun y' hy' => ⟨fun h => absurd h (by simp [hc1]), fun h => absurd h (by simp [hc2])⟩
    (have F := And.intro @q3 (And.intro @hwx (And.intro @encOpr_u (And.intro @hc1 @hc2))); refine gG ?_; exact ⟨x + 1, hq, gw, gw, by omega⟩)
  have ht := hA.tab (by rcases hcm with h | h; exact .inr (.inl h); exact .inl h)
  repeat (with_reducible refine pwp_seqW ?_)
  refine gM (ι := Unit) [62] [] (fun u1 => [(62, A.d (.one (.lit (.bool true))))]) (fun u1 => []) (fun u1 => True) ?_ (fun u1 hu1 => Exists.intro _ (And.intro (Wk.refl _) ?_))
  · cases hc : o.comm with
    | true =>
      (have F := And.intro @q3 (And.intro @encOpr_u @hc); refine gG ?_; exact ⟨(), trivial, gw, gw⟩)
    | false =>
      have hc2 : o.assoc = true := by rcases hcm with h | h; simp [hc] at h; exact h
      (have F := And.intro @q3 (And.intro @encOpr_u (And.intro @hc @hc2)); refine gG ?_; exact ⟨(), trivial, gw, gw⟩)
  (have F := @e0P; refine gG ?_; clear F)
  refine gM (ι := Bool) [79] [] (fun u2 => [(79, A.d (.one (.lit (.bool u2))))]) (fun u2 => []) (fun u2 => (u2 = true → ¬ OpOk a i o) ∧ (u2 = false → o.comm = true → tw2 a i x y = tw2 a i y x)) ?_ (fun u2 hu2 => Exists.intro _ (And.intro (Wk.refl _) ?_))
  · cases hc : o.comm with
    | false =>
      (have F := And.intro @encOpr_u @hc; refine gG ?_; exact ⟨false, ⟨fun h => (by cases h), fun _ h => (by cases h)⟩, gw, gw⟩)
    | true =>
      refine gB ?_
      (have F := And.intro @encOpr_u @hc; refine gC (cT ht hX hY) ?_; clear F)
      (have F := And.intro @encOpr_u @hc; refine gC (cT ht hY hX) ?_; clear F)
      by_cases h1 : tw2 a i x y = tw2 a i y x
      · have y1 : (tw2 a i x y = tw2 a i y x) = True := eq_true h1
        (have F := And.intro @y1 @hc; refine gR ?_; clear F)
        exact ⟨false, ⟨fun h => (by cases h), fun _ _ => h1⟩, (have F := hc; gw), (have F := hc; gw)⟩
      · have y1 : (tw2 a i x y = tw2 a i y x) = False := eq_false h1
        (have F := And.intro @y1 @hc; refine gR ?_; clear F)
        exact ⟨true, ⟨fun _ hO => h1 (hO.comm hc x y hX hY), fun h => (by cases h)⟩, (have F := hc; gw), (have F := hc; gw)⟩
  obtain ⟨hu1, hu2⟩ := hu2
  cases u2 with
  | true =>
    have hf := hno (hu1 rfl)
    (have F := @hf; refine gG ?_; exact gT)
  | false =>
  have hCM := hu2 rfl
  have nyt : (o.assoc = true → ∀ z : Nat, z < n → tw2 a i (tw2 a i x y) z = tw2 a i x (tw2 a i y z)) → y + 1 ≤ n ∧ ∀ y' : Nat, y' < y + 1 → RowY a i o n x y' := fun h => ⟨hyl, row_next hally ⟨hCM, h⟩⟩
  (have F := @e0P; refine gG ?_; clear F)
  (have F := @e0P; refine gL (ι := Nat) [6, 11, 87, 108] [] (fun z => [(11, A.d (.one (.lit (.int .i64 z))))]) (fun z => []) (fun z => z ≤ n ∧ (o.assoc = true → ∀ z' : Nat, z' < z → tw2 a i (tw2 a i x y) z' = tw2 a i x (tw2 a i y z'))) (fun z => n - z) (0) (⟨by omega, fun _ z' h => absurd h (by omega)⟩) (fun z hz => ?_); clear F)
  obtain ⟨hzn, hallz⟩ := hz
  have hwz := wrap1 (k := z) (by omega)
  by_cases hzl : z < n
  rotate_left
  · have q4 : ¬ ((z : Int) < a.size) := by omega
    have hq := nyt fun ha z' hz' => hallz ha z' (by omega)
    (have F := And.intro @q4 @hwy; refine gG ?_; exact ⟨y + 1, hq, gw, gw, by omega⟩)
  have q4 : (z : Int) < a.size := by omega
  have hZ := inz hzl
  cases ha : o.assoc with
  | false =>
    have hq := nyt fun h => by simp [ha] at h
    (have F := And.intro @q4 (And.intro @hwy (And.intro @encOpr_u @ha)); refine gG ?_; exact ⟨y + 1, hq, gw, gw, by omega⟩)
  | true =>
  obtain ⟨_, _, _, _, _, _, hXY⟩ := ht.get hX hY
  obtain ⟨_, _, _, _, _, _, hYZ⟩ := ht.get hY hZ
  (have F := And.intro @q4 (And.intro @encOpr_u @ha); refine gG ?_; clear F)
  refine gB ?_
  (have F := @e0P; refine gC (cT ht hX hY) ?_; clear F)
  (have F := @e0P; refine gC (cT ht hXY hZ) ?_; clear F)
  (have F := @e0P; refine gC (cT ht hY hZ) ?_; clear F)
  (have F := @e0P; refine gC (cT ht hX hYZ) ?_; clear F)
  by_cases h1 : tw2 a i (tw2 a i x y) z = tw2 a i x (tw2 a i y z)
  · have y1 : (tw2 a i (tw2 a i x y) z = tw2 a i x (tw2 a i y z)) = True := eq_true h1
    have hq : z + 1 ≤ n ∧ (o.assoc = true → ∀ z' : Nat, z' < z + 1 → tw2 a i (tw2 a i x y) z' = tw2 a i x (tw2 a i y z')) := ⟨hzl, fun h => row_next (hallz h) h1⟩
    rw [ha] at hq
    (have F := @y1; refine gR ?_; clear F)
    (have F := @hwz; refine gG ?_; exact ⟨z + 1, hq, gw, gw, by omega⟩)
  · have y1 : (tw2 a i (tw2 a i x y) z = tw2 a i x (tw2 a i y z)) = False := eq_false h1
    have hf := hno fun hO => h1 (hO.assoc ha x y z hX hY hZ)
    (have F := @y1; refine gR ?_; clear F)
    (have F := @hf; refine gG ?_; exact gT)
section
variable {g : Sgn} {a : Alg}
theorem ob_no {i : Nat} {o : Opr} (ho : g.ops[i]? = some o) (h : ¬ OpOk a i o) : isOb g a = false := isOb_false fun hI => h (hI.all i o ho)
set_option maxHeartbeats 40000000 in
set_option maxRecDepth 100000 in
theorem con_specOb (hok : okSgn g) (ha : okAlg a) : Con e0 59 [.agg (encSgn g), .agg (encAlg a)] [.one (.lit (.bool (isOb g a)))] := by
  have cA := con_specAlg hok ha
  have cX := fun (i : Nat) (o : Opr) h1 h2 => con_l22Axioms (g := g) (a := a) (i := i) (o := o) h1 h2
  rw [encSgn, encAlg] at cA cX ⊢
  refine gI 2114111 Tryz.func59 ?_
  (have F := @e0P; refine gG ?_; clear F)
  refine gB ?_
  (have F := @e0P; refine gC (cA) ?_; clear F)
  cases hA : isAlg g a with
  | false =>
    have hf := isOb_false (fun h : ObOk g a => by rw [isAlg_true h.alg] at hA; cases hA)
    (have F := @e0P; refine gR ?_; clear F)
    (have F := @hf; refine gG ?_; exact gT)
  | true =>
  have hO := isAlg_iff.1 hA
  have hl14 := hO.sgn.len
  (have F := @e0P; refine gR ?_; clear F)
  (have F := @e0P; refine gG ?_; clear F)
  (have F := @e0P; refine gL (ι := Nat) [4, 5, 14, 21] [] (fun i => [(5, A.d (.one (.lit (.int .i64 i))))]) (fun i => []) (fun i => i ≤ g.ops.length ∧ ∀ (i' : Nat) (o : Opr), i' < i → g.ops[i']? = some o → OpOk a i' o) (fun i => g.ops.length - i) (0) (⟨by omega, fun i' o h => absurd h (by omega)⟩) (fun i hi => ?_); clear F)
  obtain ⟨hin, hall⟩ := hi
  have hwi := wrap1 (k := i) (by omega)
  by_cases hil : i < g.ops.length
  rotate_left
  · have q2 : ¬ ((i : Int) < (g.ops.length : Int)) := by omega
    have ht := isOb_true (g := g) (a := a) ⟨hO, fun i' o ho => hall i' o (by have := (List.getElem?_eq_some_iff.1 ho).1; omega) ho⟩
    (have F := And.intro @q2 @ht; refine gG ?_; exact gT)
  have q2 : (i : Int) < (g.ops.length : Int) := by omega
  obtain ⟨o, ho⟩ : ∃ o, g.ops[i]? = some o := ⟨_, List.getElem?_eq_getElem hil⟩
  (have F := @q2; refine gG ?_; clear F)
  refine gB ?_
  (have F := @e0P; refine gC (cX i o ho (hO.atOp ho)) ?_; clear F)
  by_cases hop : OpOk a i o
  · have e1 := isOp_true hop
    have hq : i + 1 ≤ g.ops.length ∧ ∀ (i' : Nat) (o : Opr), i' < i + 1 → g.ops[i']? = some o → OpOk a i' o := ⟨hil, fun i' o' h ho' => by
      by_cases e : i' = i
      · subst e; rw [ho] at ho'; injection ho' with ho'; subst ho'; exact hop
      · exact hall i' o' (by omega) ho'⟩
    (have F := @e1; refine gR ?_; clear F)
    (have F := @hwi; refine gG ?_; exact ⟨i + 1, hq, gw, gw, by omega⟩)
  · have e1 := isOp_false hop
    have hf := ob_no ho hop
    (have F := @e1; refine gR ?_; clear F)
    (have F := @hf; refine gG ?_; exact gT)
set_option maxHeartbeats 4000000 in
set_option maxRecDepth 100000 in
theorem con_implTwo {i : Nat} {x y : Int} (ht : Tab2 a i) (hx : Inz a x) (hy : Inz a y) : Con e0 129 [.one (.lit (.int .i64 x)), .one (.lit (.int .i64 y)), .one (.ptr [.lit (.int .i64 a.size), .sl (a.tables.map encInts)]), .one (.ptr [.lit (.int .i64 i)])] [.one (.lit (.int .i64 (tw2 a i x y)))] := by
  obtain ⟨l, h, hw, hw2, h0, hv, _⟩ := ht.get hx hy
  refine gI 79 Tryz.func129 ?_
  (have F := And.intro @encInts_u (And.intro @encInt_u (And.intro @h (And.intro @hw (And.intro @hw2 (And.intro @h0 @hv))))); refine gG ?_; exact gT)
set_option maxHeartbeats 40000000 in
set_option maxRecDepth 100000 in
theorem con_implOb (hok : okSgn g) (ha : okAlg a) : Con e0 64 [.agg (encSgn g), .agg (encAlg a)] [.one (.lit (.bool (isOb g a)))] := by
  have cA := con_implAlg hok ha
  rw [encSgn, encAlg] at cA ⊢
  refine gI 158456598926829516744826982399 Tryz.func64 ?_
  (have F := @e0P; refine gG ?_; clear F)
  refine gB ?_
  (have F := @e0P; refine gC (cA) ?_; clear F)
  cases hA : isAlg g a with
  | false =>
    have hf := isOb_false (fun h : ObOk g a => by rw [isAlg_true h.alg] at hA; cases hA)
    (have F := @e0P; refine gR ?_; clear F)
    (have F := @hf; refine gG ?_; exact gT)
  | true =>
  have hO := isAlg_iff.1 hA
  have hl14 := hO.sgn.len
  obtain ⟨n, hn, hn1, hn4⟩ := szN hO.lo hO.hi
  have inz : ∀ {x : Nat}, x < n → Inz a x := fun hx => ⟨by omega, by omega⟩
  have cT : ∀ {i : Nat} {x y : Int}, Tab2 a i → Inz a x → Inz a y → _ := fun h1 h2 h3 => con_implTwo h1 h2 h3
  (have F := @e0P; refine gR ?_; clear F)
  (have F := @e0P; have NN : StopAt 3 := trivial; refine gGn ?_; clear F NN)
  (have F := @e0P; refine gF [3] ?_; clear F)
  (have F := @e0P; refine gG ?_; clear F)
  (have F := @e0P; refine gL (ι := Nat) [4, 5, 6, 7, 8, 9, 10, 11, 19, 20, 26, 27, 28, 32, 55, 57, 58, 59, 73, 75, 76, 77, 97] [] (fun i => [(19, A.d (.one (.lit (.int .i64 i))))]) (fun i => []) (fun i => i ≤ g.ops.length ∧ ∀ (i' : Nat) (o : Opr), i' < i → g.ops[i']? = some o → OpOk a i' o) (fun i => g.ops.length - i) (0) (⟨by omega, fun i' o h => absurd h (by omega)⟩) (fun i hi => ?_); clear F)
  obtain ⟨hin, hall⟩ := hi
  have hwi := wrap1 (k := i) (by omega)
  by_cases hil : i < g.ops.length
  rotate_left
  · have q2 : ¬ ((i : Int) < (g.ops.length : Int)) := by omega
    have ht := isOb_true (g := g) (a := a) ⟨hO, fun i' o ho => hall i' o (by have := (List.getElem?_eq_some_iff.1 ho).1; omega) ho⟩
    (have F := And.intro @q2 @ht; refine gG ?_; exact gT)
  have q2 : (i : Int) < (g.ops.length : Int) := by omega
  obtain ⟨o, ho⟩ : ∃ o, g.ops[i]? = some o := ⟨_, List.getElem?_eq_getElem hil⟩
  have hAt := hO.atOp ho
  have hno := ob_no (a := a) ho
  (have F := And.intro @q2 (And.intro @ho @encOpr_u); refine gG ?_; clear F)
  (have F := @e0P; refine gL (ι := Nat) [4, 8, 9, 10, 11, 27, 28, 32, 55, 57, 58, 59, 73, 75, 76, 77, 97] [] (fun x => [(27, A.d (.one (.lit (.int .i64 x))))]) (fun x => []) (fun x => x ≤ n ∧ ∀ x' : Nat, x' < x → RowX a i o n x') (fun x => n - x) (0) (⟨by omega, fun x' h => absurd h (by omega)⟩) (fun x hx => ?_); clear F)
  obtain ⟨hxn, hallx⟩ := hx
  have hwx := wrap1 (k := x) (by omega)
  by_cases hlt : x < n
  rotate_left
  · have q3 : ¬ ((x : Int) < a.size) := by omega
    have hop := op_of hn fun x' h => hallx x' (by omega)
    have hq : i + 1 ≤ g.ops.length ∧ ∀ (i' : Nat) (o : Opr), i' < i + 1 → g.ops[i']? = some o → OpOk a i' o := ⟨hil, fun i' o' h ho' => by
      by_cases e : i' = i
      · subst e; rw [ho] at ho'; injection ho' with ho'; subst ho'; exact hop
      · exact hall i' o' (by omega) ho'⟩
    (have F := And.intro @q3 @hwi; refine gG ?_; exact ⟨i + 1, hq, gw, gw, by omega⟩)
  have q3 : (x : Int) < a.size := by omega
  have hX := inz hlt
  (have F := @q3; refine gG ?_; clear F)
  refine gM (ι := Unit) [9, 32, 55] [] (fun u => []) (fun u => []) (fun u => o.unit ≠ 0 → tw2 a i x (unv a o) = x ∧ tw2 a i (unv a o) x = x) ?_ (fun u hu => Exists.intro _ (And.intro (Wk.refl _) ?_))
  · by_cases hu : o.unit = 0
    · have z1 : decide (o.unit = 0) = true := decide_eq_true hu
      (have F := @z1; refine gG ?_; exact ⟨(), fun h => absurd hu h, gw, gw⟩)
    obtain ⟨q, l, hq, hq14, hl, hl0, hE⟩ := hAt.unit hu
    have ht := hAt.tab (.inr (.inr hu))
    have z1 : decide (o.unit = 0) = false := decide_eq_false hu
    have hsub : IntKind.i64.wrap (o.unit - 1) = (q : Int) := by rw [hq]; exact wrapN (by omega) (by omega) (by omega)
    (have F := And.intro @z1 (And.intro @hsub (And.intro @encInts_u (And.intro @encInt_u (And.intro @hl @hl0)))); refine gG ?_; clear F)
    refine gB ?_
    (have F := @e0P; refine gC (cT ht hE hX) ?_; clear F)
    by_cases h1 : tw2 a i (unv a o) x = x
    rotate_left
    · have hf := hno fun hO => h1 (hO.unit hu x hX).2
      have y1 : (tw2 a i (unv a o) x = (x : Int)) = False := eq_false h1
      (have F := @y1; refine gR ?_; clear F)
      (have F := @hf; refine gG ?_; exact gT)
    have y1 : (tw2 a i (unv a o) x = (x : Int)) = True := eq_true h1
    (have F := @y1; refine gC (cT ht hX hE) ?_; clear F)
    by_cases h2 : tw2 a i x (unv a o) = x
    rotate_left
    · have hf := hno fun hO => h2 (hO.unit hu x hX).1
      have y2 : (tw2 a i x (unv a o) = (x : Int)) = False := eq_false h2
      (have F := And.intro @y1 @y2; refine gR ?_; clear F)
      (have F := @hf; refine gG ?_; exact gT)
    have y2 : (tw2 a i x (unv a o) = (x : Int)) = True := eq_true h2
    (have F := And.intro @y1 @y2; refine gR ?_; clear F)
    (have F := @e0P; refine gG ?_; exact ⟨(), fun _ => ⟨h2, h1⟩, gw, gw⟩)
  (have F := @e0P; refine gG ?_; clear F)
  (have F := @e0P; refine gL (ι := Nat) [4, 10, 11, 58, 59, 73, 75, 76, 77, 97] [] (fun y => [(58, A.d (.one (.lit (.int .i64 y))))]) (fun y => []) (fun y => y ≤ n ∧ ∀ y' : Nat, y' < y → RowY a i o n x y') (fun y => n - y) (0) (⟨by omega, fun x' h => absurd h (by omega)⟩) (fun y hy => ?_); clear F)
  obtain ⟨hyn, hally⟩ := hy
  have hwy := wrap1 (k := y) (by omega)
  by_cases hyl : y < n
  rotate_left
  · have q4 : ¬ ((y : Int) < a.size) := by omega
    have hq : x + 1 ≤ n ∧ ∀ x' : Nat, x' < x + 1 → RowX a i o n x' := ⟨hlt, row_next hallx ⟨hu, fun y' hy' => hally y' (by omega)⟩⟩
    (have F := And.intro @q4 @hwx; refine gG ?_; exact ⟨x + 1, hq, gw, gw, by omega⟩)
  have q4 : (y : Int) < a.size := by omega
  have hY := inz hyl
  (have F := @q4; refine gG ?_; clear F)
  refine gM (ι := Bool) [73] [] (fun u2 => [(73, A.d (.one (.lit (.bool u2))))]) (fun u2 => []) (fun u2 => (u2 = true → ¬ OpOk a i o) ∧ (u2 = false → o.comm = true → tw2 a i x y = tw2 a i y x)) ?_ (fun u2 hu2 => Exists.intro _ (And.intro (Wk.refl _) ?_))
  · cases hc : o.comm with
    | false =>
      (have F := And.intro @encOpr_u @hc; refine gG ?_; exact ⟨false, ⟨fun h => (by cases h), fun _ h => (by cases h)⟩, gw, gw⟩)
    | true =>
      have ht := hAt.tab (.inr (.inl hc))
      refine gB ?_
      (have F := And.intro @encOpr_u @hc; refine gC (cT ht hX hY) ?_; clear F)
      (have F := And.intro @encOpr_u @hc; refine gC (cT ht hY hX) ?_; clear F)
      by_cases h1 : tw2 a i x y = tw2 a i y x
      · have y1 : (tw2 a i x y = tw2 a i y x) = True := eq_true h1
        (have F := And.intro @y1 @hc; refine gR ?_; clear F)
        exact ⟨false, ⟨fun h => (by cases h), fun _ _ => h1⟩, (have F := hc; gw), (have F := hc; gw)⟩
      · have y1 : (tw2 a i x y = tw2 a i y x) = False := eq_false h1
        (have F := And.intro @y1 @hc; refine gR ?_; clear F)
        exact ⟨true, ⟨fun _ hO => h1 (hO.comm hc x y hX hY), fun h => (by cases h)⟩, (have F := hc; gw), (have F := hc; gw)⟩
  obtain ⟨hu1, hu2⟩ := hu2
  cases u2 with
  | true =>
    have hf := hno (hu1 rfl)
    (have F := @hf; refine gG ?_; exact gT)
  | false =>
  have hCM := hu2 rfl
  (have F := @e0P; refine gG ?_; clear F)
  (have F := @e0P; refine gL (ι := Nat) [4, 11, 76, 77, 97] [] (fun z => [(76, A.d (.one (.lit (.int .i64 z))))]) (fun z => []) (fun z => z ≤ n ∧ (o.assoc = true → ∀ z' : Nat, z' < z → tw2 a i (tw2 a i x y) z' = tw2 a i x (tw2 a i y z'))) (fun z => n - z) (0) (⟨by omega, fun _ z' h => absurd h (by omega)⟩) (fun z hz => ?_); clear F)
  obtain ⟨hzn, hallz⟩ := hz
  have hwz := wrap1 (k := z) (by omega)
  by_cases hzl : z < n
  rotate_left
  · have q5 : ¬ ((z : Int) < a.size) := by omega
    have hq : y + 1 ≤ n ∧ ∀ y' : Nat, y' < y + 1 → RowY a i o n x y' := ⟨hyl, row_next hally ⟨hCM, fun ha z' hz' => hallz ha z' (by omega)⟩⟩
    (have F := And.intro @q5 @hwy; refine gG ?_; exact ⟨y + 1, hq, gw, gw, by omega⟩)
  have q5 : (z : Int) < a.size := by omega
  have hZ := inz hzl
  cases ha : o.assoc with
  | false =>
    have hq : z + 1 ≤ n ∧ (o.assoc = true → ∀ z' : Nat, z' < z + 1 → tw2 a i (tw2 a i x y) z' = tw2 a i x (tw2 a i y z')) := ⟨hzl, fun h => by rw [ha] at h; cases h⟩
    rw [ha] at hq
    (have F := And.intro @q5 (And.intro @hwz (And.intro @encOpr_u @ha)); refine gG ?_; exact ⟨z + 1, hq, gw, gw, by omega⟩)
  | true =>
  have ht := hAt.tab (.inl ha)
  obtain ⟨_, _, _, _, _, _, hXY⟩ := ht.get hX hY
  obtain ⟨_, _, _, _, _, _, hYZ⟩ := ht.get hY hZ
  (have F := @q5; have NN : StopAt 22 := trivial; refine gGn ?_; clear F NN)
  refine gB ?_
  (have F := And.intro @encOpr_u @ha; refine gC (cT ht hX hY) ?_; clear F)
  (have F := And.intro @encOpr_u @ha; refine gC (cT ht hXY hZ) ?_; clear F)
  (have F := And.intro @encOpr_u @ha; refine gC (cT ht hY hZ) ?_; clear F)
  (have F := And.intro @encOpr_u @ha; refine gC (cT ht hX hYZ) ?_; clear F)
  by_cases h1 : tw2 a i (tw2 a i x y) z = tw2 a i x (tw2 a i y z)
  · have y1 : (tw2 a i (tw2 a i x y) z = tw2 a i x (tw2 a i y z)) = True := eq_true h1
    have hq : z + 1 ≤ n ∧ (o.assoc = true → ∀ z' : Nat, z' < z + 1 → tw2 a i (tw2 a i x y) z' = tw2 a i x (tw2 a i y z')) := ⟨hzl, fun h => row_next (hallz h) h1⟩
    rw [ha] at hq
    (have F := And.intro @y1 @ha; refine gR ?_; clear F)
    (have F := @hwz; refine gG ?_; exact ⟨z + 1, hq, gw, gw, by omega⟩)
  · have y1 : (tw2 a i (tw2 a i x y) z = tw2 a i x (tw2 a i y z)) = False := eq_false h1
    have hf := hno fun hO => h1 (hO.assoc ha x y z hX hY hZ)
    (have F := And.intro @y1 @ha; refine gR ?_; clear F)
    (have F := @hf; refine gG ?_; exact gT)
end
end Go.Proofs.YtofklmbljbkdaaaGreat
namespace Go.Proofs.YtofklmbljbkdaaaGreat
open Go.RowKit
def qd (z : Int) (k : Int) : Nat → Int
  | 0 => k
  | j + 1 => qd z k j / z
theorem qd_0 (z k : Int) : qd z k 0 = k := rfl
theorem qd_shift (z k : Int) : ∀ j : Nat, qd z (k / z) j = qd z k (j + 1)
  | 0 => rfl
  | j + 1 => by rw [qd, qd_shift z k j]; rfl
theorem digL_get (z : Int) : ∀ (n : Nat) (k : Int) (j : Nat), j < n → (digL z n k)[j]? = some (qd z k j % z)
  | 0, _, _, h => by omega
  | n + 1, k, 0, _ => rfl
  | n + 1, k, j + 1, h => by
    rw [digL, List.getElem?_cons_succ, digL_get z n (k / z) j (by omega), qd_shift]
theorem qd_nonneg {z k : Int} (hz : 1 ≤ z) (hk : 0 ≤ k) : ∀ j : Nat, 0 ≤ qd z k j ∧ qd z k j ≤ k
  | 0 => ⟨hk, Int.le_refl _⟩
  | j + 1 => by
    obtain ⟨h0, h1⟩ := qd_nonneg hz hk j
    refine ⟨Int.ediv_nonneg h0 (by omega), Int.le_trans (Int.ediv_le_self _ h0) h1⟩
def hvs (l r : Tm) : List Tm := distTm (varsOf l ++ varsOf r)
theorem hvs_col (l r : Tm) : colT (varsOf r) (varsOf l) = hvs l r := by
  have e : distTm (varsOf l) = varsOf l := distTm_eq (distTm_asc _) fun t => Iff.rfl
  rw [hvs, show distTm (varsOf l ++ varsOf r) = colT (varsOf l ++ varsOf r) [] from rfl, colT_app, show colT (varsOf l) [] = distTm (varsOf l) from rfl, e]
def Holds (g : Sgn) (a : Alg) (l r : Tm) (vs : List Tm) : Prop := ∀ xs : List Int, xs.length = vs.length → AllIn a.size xs → valTm g a vs xs l = valTm g a vs xs r
open Classical in
noncomputable def holdsB (g : Sgn) (a : Alg) (l r : Tm) : Bool := decide (isAlg g a = true ∧ isTerm g l = true ∧ isTerm g r = true ∧ (hvs l r).length ≤ 6 ∧ Holds g a l r (hvs l r))
theorem holds_no {g : Sgn} {a : Alg} {l r : Tm} (h : ¬ (isAlg g a = true ∧ isTerm g l = true ∧ isTerm g r = true ∧ (hvs l r).length ≤ 6 ∧ Holds g a l r (hvs l r))) : holdsB g a l r = false := by simp only [holdsB, decide_eq_false_iff_not]; exact h
theorem holds_yes {g : Sgn} {a : Alg} {l r : Tm} (h : isAlg g a = true ∧ isTerm g l = true ∧ isTerm g r = true ∧ (hvs l r).length ≤ 6 ∧ Holds g a l r (hvs l r)) : holdsB g a l r = true := by simp only [holdsB, decide_eq_true_eq]; exact h
theorem mem_hvs {l r v : Tm} : v ∈ hvs l r ↔ v ∈ varsOf l ∨ v ∈ varsOf r := by rw [hvs, mem_distTm, List.mem_append]
theorem pF {e : Env} {mask : Nat} {Q : PX → St → Prop} {c : Code} {σ σ1 : St} (ks : List Nat) (hK : pwp e mask c σ1 Q) (hf : frzs ks σ = σ1 := by simp only [pz, ↓reduceIte, Nat.reduceEqDiff, Nat.reduceAdd, Nat.reduceSub, Nat.reduceMul, Nat.reduceLeDiff, Nat.reduceBEq, Bool.false_eq_true, decide_true, decide_false, Int.reduceLE, Int.reduceToNat, Int.reduceLT, Int.reduceEq, eq_self, Nat.reduceShiftRight, Nat.reduceAnd, Nat.reduceBneDiff]; exact rfl) : pwp e mask c σ Q :=
  pwp_turn (turn_frzs ks hf) fun σ' h => by subst h; exact hK
end Go.Proofs.YtofklmbljbkdaaaGreat
namespace Go.Proofs.YtofklmbljbkdaaaGreat
open Go.RowKit
theorem okTms_hvs {l r : Tm} (hl : okTm l) (hr : okTm r) : okTms (hvs l r) := by
  rw [hvs]
  exact okTms_dist (okTms_app (okTms_vars hl) (okTms_vars hr))
def hcol (l r : Tm) (i : Nat) : List Tm := colT ((varsOf r).take i) (varsOf l)
theorem hcol_0 (l r : Tm) : hcol l r 0 = varsOf l := by simp [hcol, colT]
theorem hcol_step {l r t : Tm} {i : Nat} (h : (varsOf r)[i]? = some t) : insTm t (hcol l r i) = hcol l r (i + 1) := by
  rw [hcol, hcol, List.take_add_one, h, Option.toList_some, colT_app]
  rfl
theorem hcol_end (l r : Tm) : hcol l r (varsOf r).length = hvs l r := by rw [hcol, List.take_length, hvs_col]
theorem hcol_len (l r : Tm) (i : Nat) : (hcol l r i).length ≤ (varsOf l).length + (varsOf r).length := by
  have := colT_len ((varsOf r).take i) (varsOf l)
  rw [List.length_take] at this
  unfold hcol
  omega
theorem hcol_ok {l r : Tm} (hl : okTm l) (hr : okTm r) (i : Nat) : okTms (hcol l r i) := colT_ok (okTms_take i (okTms_vars hr)) (okTms_vars hl)
def dRow (z : Int) (n : Nat) (k : Int) (j : Nat) : List (List C) := ((digL z n k).take j).map encInt
theorem dRow_0 (z : Int) (n : Nat) (k : Int) : dRow z n k 0 = [] := by simp [dRow]
theorem dRow_step {z k : Int} {n j : Nat} (h : j < n) : dRow z n k j ++ [[.lit (.int .i64 (qd z k j % z))]] = dRow z n k (j + 1) := by
  rw [dRow, dRow, List.take_add_one, digL_get z n k j h]
  simp [encInt]
theorem dRow_n (z : Int) (n : Nat) (k : Int) : dRow z n k n = (digL z n k).map encInt := by
  rw [dRow, List.take_of_length_le (by rw [digL_len]; exact Nat.le_refl _)]
theorem dRow_len (z : Int) (n : Nat) (k : Int) (j : Nat) : (dRow z n k j).length ≤ n := by
  rw [dRow, List.length_map, List.length_take, digL_len]; omega
theorem dRow_rows (z : Int) (n : Nat) (k : Int) (j : Nat) : rowsB 1 (dRow z n k j) = true := rb_int _
section
variable {g : Sgn} {a : Alg} {l r : Tm}
set_option maxHeartbeats 16000000 in
set_option maxRecDepth 100000 in
theorem con_specHolds (hok : okSgn g) (ha : okAlg a) (hl : okTm l) (hr : okTm r) (hbl : bulkRow (encTm l) ≤ 1048576) (hbr : bulkRow (encTm r) ≤ 1048576) : Con e0 60 [.agg (encSgn g), .agg (encAlg a), .agg (encTm l), .agg (encTm r)] [.one (.lit (.bool (holdsB g a l r)))] := by
  have cVl := con_specVars hl hbl
  have cVr := con_specVars hr hbr
  have cA := con_specAlg hok ha
  have cTl := con_specIsTerm hok hl (big_of_bulk hbl)
  have cTr := con_specIsTerm hok hr (big_of_bulk hbr)
  have cW := fun hA vs xs hv hvs hvok (t : Tm) => con_specVal_all (g := g) (a := a) (vs := vs) (xs := xs) hA hv hvs hvok (sizeTm t + 1) t (Nat.lt_succ_self _)
  have hvl := varsOf_len l
  have hvr := varsOf_len r
  rw [encSgn] at cA cTl cTr ⊢
  rw [encAlg] at cA cW ⊢
  refine gI 2475880226723426795398496255 Tryz.func60 ?_
  (have F := @tmz; refine gG ?_; clear F)
  refine gB ?_
  (have F := @tmz; refine gC (cA) ?_; clear F)
  cases hA : isAlg g a with
  | false =>
    have hf := holds_no (g := g) (a := a) (l := l) (r := r) fun h => by rw [hA] at h; exact absurd h.1 (by decide)
    (have F := @tmz; refine gR ?_; clear F)
    (have F := @hf; refine gG ?_; exact gT)
  | true =>
  have hO := isAlg_iff.1 hA
  have hs := isSgn_true hO.sgn
  rw [hs, Bool.true_and] at cTl cTr
  (have F := @tmz; refine gC (cTl) ?_; clear F)
  cases hTl : isTerm g l with
  | false =>
    have hf := holds_no (g := g) (a := a) (l := l) (r := r) fun h => by rw [hTl] at h; exact absurd h.2.1 (by decide)
    (have F := @tmz; refine gR ?_; clear F)
    (have F := @hf; refine gG ?_; exact gT)
  | true =>
  (have F := @tmz; refine gC (cTr) ?_; clear F)
  cases hTr : isTerm g r with
  | false =>
    have hf := holds_no (g := g) (a := a) (l := l) (r := r) fun h => by rw [hTr] at h; exact absurd h.2.2.1 (by decide)
    (have F := @tmz; refine gR ?_; clear F)
    (have F := @hf; refine gG ?_; exact gT)
  | true =>
  have hlo := hO.lo
  have hhi := hO.hi
  (have F := @tmz; refine gR ?_; clear F)
  (have F := @tmz; refine gG ?_; clear F)
  refine gB ?_
  (have F := @tmz; refine gC (cVl) ?_; clear F)
  (have F := @tmz; refine gR ?_; clear F)
  (have F := @tmz; refine gG ?_; clear F)
  refine gB ?_
  (have F := @tmz; refine gC (cVr) ?_; clear F)
  (have F := @tmz; refine gR ?_; clear F)
  (have F := @tmz; refine gG ?_; clear F)
  (have F := ((hcol_0 l r)); refine gL (ι := Nat) [9, 11, 40] [] (fun i => [(11, A.d (.one (.lit (.int .i64 i)))), (9, .d (.one (.sl (encTms (hcol l r i)))))]) (fun i => []) (fun i => i ≤ (varsOf r).length) (fun i => (varsOf r).length - i) (0) (Nat.zero_le _) (fun i hi => ?_); clear F)
  by_cases hlt : i < (varsOf r).length
  · have q1 : (i : Int) < ((varsOf r).length : Int) := by omega
    obtain ⟨t, ht⟩ : ∃ t, (varsOf r)[i]? = some t := ⟨_, List.getElem?_eq_getElem hlt⟩
    have hw1 := wrap1 (k := i) (by omega)
    have hcl := hcol_len l r i
    have cI := con_l5Insert (hcol l r i) t (hcol_ok hl hr i) ((okTms_vars hr).mem (List.mem_of_getElem? ht)) (by omega)
    rw [hcol_step ht] at cI
    (have F := And.intro @tmz (And.intro @q1 @ht); refine gG ?_; clear F)
    refine gB ?_
    (have F := And.intro @tmz @ht; refine gC (cI) ?_; clear F)
    (have F := @tmz; refine gR ?_; clear F)
    (have F := And.intro @tmz @hw1; refine gG ?_; exact ⟨i + 1, hlt, gw, gw, by omega⟩)
  obtain rfl : i = (varsOf r).length := by omega
  have q1 : ¬ (((varsOf r).length : Int) < ((varsOf r).length : Int)) := by omega
  rw [hcol_end]
  have hmem := fun v => mem_hvs (l := l) (r := r) (v := v)
  have hvok := okTms_hvs hl hr
  have hyes := holds_yes (g := g) (a := a) (l := l) (r := r)
  have hno := holds_no (g := g) (a := a) (l := l) (r := r)
  rw [hA, hTl, hTr] at hyes hno
  generalize hvs l r = vs at *
  by_cases h6 : vs.length ≤ 6
  rotate_left
  · have hf := hno fun h => h6 h.2.2.2.1
    have q2 : (6 : Int) < (vs.length : Int) := by omega
    (have F := And.intro @tmz (And.intro @q1 (And.intro @q2 @hf)); refine gG ?_; exact gT)
  have q2 : ¬ ((6 : Int) < (vs.length : Int)) := by omega
  have cP := con_power (z := a.size) (k := vs.length) (by omega) hhi h6
  (have F := And.intro @tmz (And.intro @q1 @q2); refine gG ?_; clear F)
  refine gB ?_
  (have F := @tmz; refine gC (cP) ?_; clear F)
  (have F := @tmz; refine gR ?_; clear F)
  (have F := @tmz; refine gG ?_; clear F)
  have hn0 : ∀ xs : List Int, xs.length = vs.length → AllIn a.size xs → ValOk a vs xs := fun xs h1 h2 => ⟨h1, h2⟩
  have hpw : (0 : Int) ≤ a.size ^ vs.length ∧ a.size ^ vs.length ≤ 4096 := by
    have h1 : ∀ i : Nat, (0 : Int) ≤ a.size ^ i ∧ a.size ^ i ≤ 4 ^ i := fun i => by
      induction i with
      | zero => simp
      | succ i ih =>
        rw [Int.pow_succ, Int.pow_succ]
        exact ⟨Int.mul_nonneg ih.1 (by omega), Int.mul_le_mul ih.2 hhi (by omega) (Int.pow_nonneg (by decide))⟩
    have h2 : (4 : Int) ^ vs.length ≤ 4096 := by
      have : vs.length = 0 ∨ vs.length = 1 ∨ vs.length = 2 ∨ vs.length = 3 ∨ vs.length = 4 ∨ vs.length = 5 ∨ vs.length = 6 := by omega
      rcases this with h | h | h | h | h | h | h <;> rw [h] <;> decide
    exact ⟨(h1 _).1, Int.le_trans (h1 _).2 h2⟩
  have hfin : (∀ k' : Nat, (k' : Int) < a.size ^ vs.length → valTm g a vs (digL a.size vs.length k') l = valTm g a vs (digL a.size vs.length k') r) → Holds g a l r vs := fun h xs hxl hxs => by
    have hb := numL_in hlo hxs
    have hd := digL_num hlo hxs
    rw [hxl] at hb hd
    have h := h (numL a.size xs).toNat (by rw [Int.toNat_of_nonneg hb.1]; exact hb.2)
    rw [Int.toNat_of_nonneg hb.1, hd] at h
    exact h
  generalize hPW : a.size ^ vs.length = PW at *
  (have F := @e0P; refine gL (ι := Nat) [8, 13, 14, 15, 16, 59, 67, 91] [] (fun k => [(13, A.d (.one (.lit (.int .i64 k))))]) (fun k => []) (fun k => (k : Int) ≤ PW ∧ ∀ k' : Nat, k' < k → valTm g a vs (digL a.size vs.length k') l = valTm g a vs (digL a.size vs.length k') r) (fun k => PW.toNat - k) (0) (⟨hpw.1, fun k' h => absurd h (by omega)⟩) (fun k hk => ?_); clear F)
  obtain ⟨hkl, hbef⟩ := hk
  by_cases hlk : (k : Int) < PW
  rotate_left
  · have q3 : ((k : Int) < PW) = False := eq_false hlk
    have ht := hyes ⟨rfl, rfl, rfl, h6, hfin fun k' hk' => hbef k' (by omega)⟩
    (have F := And.intro @q3 @ht; refine gG ?_; exact gT)
  have q3 : ((k : Int) < PW) = True := eq_true hlk
  have hwk := wrap1 (k := k) (by omega)
  (have F := @q3; refine gG ?_; clear F)
  (have F := And.intro @dRow_0 @qd_0; refine gL (ι := Nat) [14, 15, 16, 67] [14] (fun j => [(16, A.d (.one (.lit (.int .i64 j)))), (15, .d (.one (.lit (.int .i64 (qd a.size k j))))), (14, .buf 14)]) (fun j => [(14, .buf none 3 1 (dRow a.size vs.length k j))]) (fun j => j ≤ vs.length) (fun j => vs.length - j) (0) (Nat.zero_le _) (fun j hj => ?_); clear F)
  by_cases hlj : j < vs.length
  · have q4 : (j : Int) < (vs.length : Int) := by omega
    have hwj := wrap1 (k := j) (by omega)
    obtain ⟨hq0, hq1⟩ := qd_nonneg (z := a.size) (k := (k : Int)) hlo (by omega) j
    have hst := dRow_step (z := a.size) (k := (k : Int)) hlj
    have hdl := dRow_len a.size vs.length k j
    have hdr := dRow_rows a.size vs.length k j
    have hmx : (dRow a.size vs.length k j).length + 1 ≤ maxApp := by unfold maxApp; omega
    have hz0 : (a.size = 0) = False := eq_false (by omega)
    have htm : (qd a.size k j).tmod a.size = qd a.size k j % a.size := Int.tmod_eq_emod_of_nonneg hq0
    have htd : IntKind.i64.wrap ((qd a.size k j).tdiv a.size) = qd a.size k (j + 1) := by
      rw [Int.tdiv_eq_ediv_of_nonneg hq0, qd]
      have h1 := Int.ediv_nonneg hq0 (show 0 ≤ a.size by omega)
      have h2 := Int.ediv_le_self a.size hq0
      exact IntWalk.i64_in _ (by omega)
    (have F := And.intro @tmz (And.intro @q4 (And.intro @hdr (And.intro @hmx (And.intro @hz0 (And.intro @htm (And.intro @htd (And.intro @hst @hwj))))))); refine gG ?_; exact ⟨j + 1, hlj, gw, gw, by omega⟩)
  obtain rfl : j = vs.length := by omega
  have q4 : ¬ ((vs.length : Int) < (vs.length : Int)) := by omega
  rw [dRow_n]
  have hdi := digL_in (z := a.size) hlo vs.length k
  have hdl := digL_len a.size vs.length k
  have hnx : valTm g a vs (digL a.size vs.length k) l = valTm g a vs (digL a.size vs.length k) r → ((k + 1 : Nat) : Int) ≤ PW ∧ ∀ k' : Nat, k' < k + 1 → valTm g a vs (digL a.size vs.length k') l = valTm g a vs (digL a.size vs.length k') r := fun he => ⟨by omega, fun k' hk' => by
    by_cases hkk : k' = k
    · subst hkk; exact he
    · exact hbef k' (by omega)⟩
  generalize digL a.size vs.length (k : Int) = xs at hdi hdl hnx ⊢
  have hval : ValOk a vs xs := hn0 xs hdl hdi
  have cL := cW hO vs xs hval (by unfold big; omega) hvok l hl (form_of hTl) (fun v hv => (hmem v).2 (.inl (mem_varsOf hv))) (big_of_bulk hbl)
  have cR := cW hO vs xs hval (by unfold big; omega) hvok r hr (form_of hTr) (fun v hv => (hmem v).2 (.inr (mem_varsOf hv))) (big_of_bulk hbr)
  (have F := And.intro @tmz @q4; refine gG ?_; clear F)
  refine pF [14] ?_
  refine gB ?_
  (have F := @tmz; refine gC (cL) ?_; clear F)
  (have F := @tmz; refine gC (cR) ?_; clear F)
  by_cases he : valTm g a vs xs l = valTm g a vs xs r
  rotate_left
  · have hf := hno fun h => he (h.2.2.2.2 xs hdl hdi)
    have q5 : (valTm g a vs xs l = valTm g a vs xs r) = False := eq_false he
    (have F := And.intro @tmz @q5; refine gR ?_; clear F)
    (have F := @hf; refine gG ?_; exact gT)
  have q5 : (valTm g a vs xs l = valTm g a vs xs r) = True := eq_true he
  (have F := And.intro @tmz @q5; refine gR ?_; clear F)
  have hnx := hnx he
  (have F := And.intro @tmz @hwk; refine gG ?_; exact ⟨k + 1, hnx, gw, gw, by omega⟩)
end
end Go.Proofs.YtofklmbljbkdaaaGreat
namespace Go.Proofs.YtofklmbljbkdaaaGreat
open Go.RowKit
def RNew (ty sz : Nat) (rows : List (List C)) (r : List D) (pm : List Bk) : Prop := ∃ a cap, r = [.one (.lit (.slice a rows.length cap))] ∧ pm = [.buf (some (a, cap)) ty sz rows]
set_option maxHeartbeats 8000000 in
set_option maxRecDepth 100000 in
theorem conP_implVars (t : Tm) (hb : bulkRow (encTm t) ≤ 1048576) : ConP e0 90 [.agg (encTm t)] [] (RNew 73 4 (encTms (varsOf t))) := by
  have hv := vars_len2 hb
  refine gIP (ts := [.slot 2]) [] 31 Tryz.func90 ?_
  (have F := @tmz; have NN : StopAt 1 := trivial; refine gGn ?_; clear F NN)
  refine gB ?_
  (have F := @tmz; refine gP 1 ?_; clear F)
  refine gO 5 73 4 ?_
  refine gS 5 fun a cap => ?_
  (have F := @tmz; refine gR ?_; clear F)
  (have F := And.intro @otF (And.intro @ztF @tmz); have NN : StopAt 3 := trivial; refine gGn ?_; clear F NN)
  refine pV 3 fun b3 hb3 => ?_
  refine pV 4 fun b4 hb4 => ?_
  have hne : b3 ≠ b4 := fun e => hb4 3 b3 _ (by decide) rfl e.symm
  clear hb3 hb4
  have hn1 : (b3 = b4) = False := eq_false hne
  have hn2 : (b4 = b3) = False := eq_false (fun e => hne e.symm)
  (have F := And.intro @ktF (And.intro @ztF (And.intro @okNilF (And.intro @okFn (And.intro @hn1 (And.intro @hn2 @tmz))))); have NN : StopAt 4 := trivial; refine gGn ?_; clear F NN)
  refine gB ?_
  have hcon := conP_visit_n b3 b4 hne _ t (Nat.lt_succ_self _) (by omega) [] a cap (by simp; omega)
  have hdis := fun (a : Option Addr) (cap : Nat) => conP_distinct (varsTm t) (by omega) a cap
  simp only [ptr0, List.length_nil, List.nil_append, encTms_nil'] at hcon
  (have F := And.intro @ktF (And.intro @hn1 (And.intro @hn2 @tmz)); refine gCP [3, 5, 4] [3, 5, 4] (hcon) ?_; clear F)
  rintro r pm ⟨a2, cap2, rfl, rfl⟩
  simp only [ptr0, setA, retA, zipM, List.cons_append, List.nil_append]
  (have F := @tmz; refine gR ?_; clear F)
  (have F := @tmz; refine gG ?_; clear F)
  refine gB ?_
  (have F := And.intro @hn1 (And.intro @hn2 @tmz); refine gCP [5] [5] (hdis a2 cap2) ?_; clear F)
  rintro r pm ⟨rfl, rfl⟩
  simp only [setA, retA, zipM, List.cons_append, List.nil_append]
  (have F := @tmz; refine gR ?_; clear F)
  exact (have F := encTms_len; gTP (R := RNew 73 4 (encTms (varsOf t))) [5] ⟨a2, cap2, rfl, rfl⟩)
end Go.Proofs.YtofklmbljbkdaaaGreat
namespace Go.Proofs.YtofklmbljbkdaaaGreat
open Go.RowKit
def InvH (z : Int) (n : Nat) (P : List Int → Prop) (x : Bool × List Int) : Prop := x.2.length = n ∧ AllIn z x.2 ∧ ∀ ys : List Int, ys.length = n → AllIn z ys → (x.1 = true → numB z ys < numB z x.2) → P ys
def muH (z : Int) (n : Nat) (x : Bool × List Int) : Nat := if x.1 = true then (z ^ n - numB z x.2).toNat + 1 else 0
theorem numB_in {z : Int} (hz : 1 ≤ z) {xs : List Int} (h : AllIn z xs) : 0 ≤ numB z xs ∧ numB z xs < z ^ xs.length := by
  have := numL_in hz (xs := xs.reverse) fun y hy => h y (by simpa using hy)
  rwa [List.length_reverse] at this
theorem invH_0 {z : Int} {n : Nat} {P : List Int → Prop} (hz : 1 ≤ z) : InvH z n P (true, List.replicate n 0) := by
  refine ⟨List.length_replicate, fun x hx => ?_, fun ys hl hy h => ?_⟩
  · obtain rfl := List.eq_of_mem_replicate hx
    exact ⟨Int.le_refl _, by omega⟩
  · have h1 := h rfl
    have h2 := numB_zeros z n []
    simp only [List.nil_append] at h2
    have h3 : numB z [] = 0 := rfl
    rw [h3, Int.mul_zero] at h2
    rw [h2] at h1
    have := (numB_in hz hy).1
    omega
theorem invH_step {z : Int} {n : Nat} {P : List Int → Prop} {xs : List Int} (hz : 1 ≤ z) (h : InvH z n P (true, xs)) (hp : P xs) : InvH z n P (nxB z xs, nxt z xs) ∧ muH z n (nxB z xs, nxt z xs) < muH z n (true, xs) := by
  obtain ⟨h1, h2, h3⟩ := h
  simp only at h1 h2 h3
  have hb := numB_in hz h2
  rw [h1] at hb
  have hq : ∀ b, nxB z xs = b → (b = true → numB z (nxt z xs) = numB z xs + 1) ∧ (b = false → numB z xs + 1 = z ^ n) := fun b hb => ⟨fun e => nxt_num hz h2 (hb.trans e), fun e => by rw [← h1]; exact nxt_last hz h2 (hb.trans e)⟩
  refine ⟨⟨by rw [nxt_len hz h2, h1], nxt_in hz h2, fun ys hl hy hlt => ?_⟩, ?_⟩
  · rcases Int.lt_trichotomy (numB z ys) (numB z xs) with h4 | h4 | h4
    · exact h3 ys hl hy fun _ => h4
    · rw [numB_inj hz hy h2 (by omega) h4]; exact hp
    · exfalso
      have hy' := (numB_in hz hy).2
      rw [hl] at hy'
      cases hnb : nxB z xs with
      | true =>
        have h5 := (hq _ hnb).1 rfl
        have h6 := hlt hnb
        simp only at h6
        omega
      | false =>
        have h5 := (hq _ hnb).2 rfl
        omega
  · cases hnb : nxB z xs with
    | true =>
      have h5 := (hq _ hnb).1 rfl
      simp only [muH, if_true, h5]
      omega
    | false => simp [muH]
section
variable {g : Sgn} {a : Alg} {l r : Tm}
set_option maxHeartbeats 16000000 in
set_option maxRecDepth 100000 in
theorem con_implHolds (hok : okSgn g) (ha : okAlg a) (hl : okTm l) (hr : okTm r) (hbl : bulkRow (encTm l) ≤ 1048576) (hbr : bulkRow (encTm r) ≤ 1048576) : Con e0 65 [.agg (encSgn g), .agg (encAlg a), .agg (encTm l), .agg (encTm r)] [.one (.lit (.bool (holdsB g a l r)))] := by
  have cVl := conP_implVars l hbl
  have cVr := conP_implVars r hbr
  have cA := con_implAlg hok ha
  have cTl := con_implIsTerm hok hl hbl
  have cTr := con_implIsTerm hok hr hbr
  have cW := fun hA vs xs hv hvs (t : Tm) => con_implVal_all (g := g) (a := a) (vs := vs) (xs := xs) hA hv hvs (sizeTm t + 1) t (Nat.lt_succ_self _)
  have hvl := varsOf_len l
  have hvr := varsOf_len r
  have hdis := fun (a : Option Addr) (cap : Nat) => conP_distinct (varsOf l ++ varsOf r) (by rw [List.length_append]; omega) a cap
  rw [← hvs, encTms_app, List.length_append] at hdis
  have hmx : (varsOf l).length + (varsOf r).length ≤ maxApp := by unfold maxApp; omega
  rw [encSgn] at cA cTl cTr cW ⊢
  rw [encAlg] at cA cW ⊢
  refine gI 576465425227845631 Tryz.func65 ?_
  (have F := @tmz; refine gG ?_; clear F)
  refine gM (ι := Unit) [9] [] (fun u => [(9, .d (.one (.sl (encTms (hvs l r)))))]) (fun u => []) (fun u => True) ?_ (fun u hu => Exists.intro _ (And.intro (Wk.refl _) ?_))
  · refine gTree 0 ?_
    refine gO2 0 2 ?_ ?_
    · refine (have F := tmz; gO3 ?_)
      refine gO2 1 2 ?_ ?_
      · (have F := @tmz; refine gCP [] [13] (cVl) ?_; clear F)
        rintro r pm ⟨a1, c1, rfl, rfl⟩
        simp only [setA, retA, zipM, List.cons_append, List.nil_append]
        refine runs_nil ?_
        refine gO1 2 ?_
        refine (have F := tmz; gO3 ?_)
        refine gO1 3 ?_
        (have F := @tmz; refine gCP [] [15] (cVr) ?_; clear F)
        rintro r pm ⟨a2, c2, rfl, rfl⟩
        simp only [setA, retA, zipM, List.cons_append, List.nil_append]
        refine gD 15 [15] [] ?_
        refine runs_nil ?_
        refine gO1 4 ?_
        refine (have F := And.intro hmx tmz; gO3 ?_)
        refine gO1 5 ?_
        refine gS 16 fun a3 c3 => ?_
        (have F := @tmz; refine gCP [16] [16] (hdis a3 c3) ?_; clear F)
        rintro r pm ⟨rfl, rfl⟩
        simp only [setA, retA, zipM, List.cons_append, List.nil_append]
        refine gD 16 [17] [] ?_
        refine runs_nil ?_
        refine gO1 6 ?_
        refine (have F := tmz; gO3 ?_)
        refine gT0 ?_
        exact ⟨(), trivial, (have F := tmz; gw), (have F := tmz; gw)⟩
      · refine (have F := tmz; gO3 ?_)
        refine gO1 1 ?_
        (have F := @tmz; refine gCP [] [13] (cVl) ?_; clear F)
        rintro r pm ⟨a1, c1, rfl, rfl⟩
        simp only [setA, retA, zipM, List.cons_append, List.nil_append]
        refine runs_nil ?_
        refine gO1 3 ?_
        (have F := @tmz; refine gCP [] [15] (cVr) ?_; clear F)
        rintro r pm ⟨a2, c2, rfl, rfl⟩
        simp only [setA, retA, zipM, List.cons_append, List.nil_append]
        refine gD 15 [15] [] ?_
        refine runs_nil ?_
        refine gO1 4 ?_
        refine (have F := And.intro hmx tmz; gO3 ?_)
        refine gO1 5 ?_
        refine gS 16 fun a3 c3 => ?_
        (have F := @tmz; refine gCP [16] [16] (hdis a3 c3) ?_; clear F)
        rintro r pm ⟨rfl, rfl⟩
        simp only [setA, retA, zipM, List.cons_append, List.nil_append]
        refine gD 16 [17] [] ?_
        refine runs_nil ?_
        refine gO1 6 ?_
        refine (have F := tmz; gO3 ?_)
        refine gT0 ?_
        exact ⟨(), trivial, (have F := tmz; gw), (have F := tmz; gw)⟩
    · refine (have F := tmz; gO3 ?_)
      refine gO1 0 ?_
      refine (have F := tmz; gO3 ?_)
      refine gO1 1 ?_
      (have F := @tmz; refine gCP [] [13] (cVl) ?_; clear F)
      rintro r pm ⟨a1, c1, rfl, rfl⟩
      simp only [setA, retA, zipM, List.cons_append, List.nil_append]
      refine runs_nil ?_
      refine gO1 3 ?_
      (have F := @tmz; refine gCP [] [15] (cVr) ?_; clear F)
      rintro r pm ⟨a2, c2, rfl, rfl⟩
      simp only [setA, retA, zipM, List.cons_append, List.nil_append]
      refine gD 15 [15] [] ?_
      refine runs_nil ?_
      refine gO1 4 ?_
      refine (have F := And.intro hmx tmz; gO3 ?_)
      refine gO1 5 ?_
      refine gS 16 fun a3 c3 => ?_
      (have F := @tmz; refine gCP [16] [16] (hdis a3 c3) ?_; clear F)
      rintro r pm ⟨rfl, rfl⟩
      simp only [setA, retA, zipM, List.cons_append, List.nil_append]
      refine gD 16 [17] [] ?_
      refine runs_nil ?_
      refine gO1 6 ?_
      refine (have F := tmz; gO3 ?_)
      refine gT0 ?_
      exact ⟨(), trivial, (have F := tmz; gw), (have F := tmz; gw)⟩
  clear u hu cVl cVr hdis
  (have F := @tmz; refine gG ?_; clear F)
  refine gB ?_
  (have F := @tmz; refine gC (cA) ?_; clear F)
  cases hA : isAlg g a with
  | false =>
    have hf := holds_no (g := g) (a := a) (l := l) (r := r) fun h => by rw [hA] at h; exact absurd h.1 (by decide)
    (have F := @tmz; refine gR ?_; clear F)
    (have F := @hf; refine gG ?_; exact gT)
  | true =>
  have hO := isAlg_iff.1 hA
  have hs := isSgn_true hO.sgn
  rw [hs, Bool.true_and] at cTl cTr
  (have F := @tmz; refine gC (cTl) ?_; clear F)
  cases hTl : isTerm g l with
  | false =>
    have hf := holds_no (g := g) (a := a) (l := l) (r := r) fun h => by rw [hTl] at h; exact absurd h.2.1 (by decide)
    (have F := @tmz; refine gR ?_; clear F)
    (have F := @hf; refine gG ?_; exact gT)
  | true =>
  (have F := @tmz; refine gC (cTr) ?_; clear F)
  cases hTr : isTerm g r with
  | false =>
    have hf := holds_no (g := g) (a := a) (l := l) (r := r) fun h => by rw [hTr] at h; exact absurd h.2.2.1 (by decide)
    (have F := @tmz; refine gR ?_; clear F)
    (have F := @hf; refine gG ?_; exact gT)
  | true =>
  have hlo := hO.lo
  have hhi := hO.hi
  have hmem := fun v => mem_hvs (l := l) (r := r) (v := v)
  have hyes := holds_yes (g := g) (a := a) (l := l) (r := r)
  have hno := holds_no (g := g) (a := a) (l := l) (r := r)
  rw [hA, hTl, hTr] at hyes hno
  have hvsl : (hvs l r).length ≤ (varsOf l).length + (varsOf r).length := by have := dist_len (varsOf l ++ varsOf r); rw [List.length_append] at this; exact this
  generalize hvs l r = vs at *
  by_cases h6 : vs.length ≤ 6
  rotate_left
  · have hf := hno fun h => h6 h.2.2.2.1
    have q2 : ((6 : Int) < (vs.length : Int)) = True := eq_true (by omega)
    (have F := And.intro @tmz @q2; refine gR ?_; clear F)
    (have F := And.intro @tmz @hf; refine gG ?_; exact gT)
  have q2 : ((6 : Int) < (vs.length : Int)) = False := eq_false (by omega)
  have hm6 : ((vs.length : Int) ≤ (maxApp : Int)) = True := eq_true (by unfold maxApp; omega)
  (have F := And.intro @tmz @q2; refine gR ?_; clear F)
  (have F := And.intro @tmz (And.intro @hm6 @Int.toNat_natCast); refine gG ?_; clear F)
  have hz0 : List.replicate vs.length [C.lit (.int .i64 0)] = (List.replicate vs.length (0 : Int)).map encInt := by simp [encInt]
  rw [hz0]
  refine pS 10 fun a0 c0 => ?_
  simp only [List.length_map, List.length_replicate]
  (have F := @e0P; refine gL (ι := Bool × List Int) [8, 11, 42, 59] [10] (fun x => [(11, .d (.one (.lit (.bool x.1))))]) (fun x => [(10, .buf (some (a0, c0)) 3 1 (x.2.map encInt))]) (fun x => InvH a.size vs.length (fun ys => valTm g a vs ys l = valTm g a vs ys r) x) (fun x => muH a.size vs.length x) ((true, List.replicate vs.length 0)) (invH_0 hlo) (fun x hx => ?_); clear F)
  obtain ⟨more, xs⟩ := x
  have hx' := hx
  obtain ⟨hxl, hxi, hbef⟩ := hx
  simp only at hxl hxi hbef
  dsimp only
  cases more with
  | false =>
    have ht := hyes ⟨rfl, rfl, rfl, h6, fun ys h1 h2 => hbef ys h1 h2 fun h => absurd h (by decide)⟩
    (have F := And.intro @tmz @ht; refine gG ?_; exact gT)
  | true =>
  have hval : ValOk a vs xs := ⟨hxl, hxi⟩
  have cL := cW hO vs xs hval (by unfold big; omega) l (form_of hTl) (fun v hv => (hmem v).2 (.inl (mem_varsOf hv))) (big_of_bulk hbl)
  have cR := cW hO vs xs hval (by unfold big; omega) r (form_of hTr) (fun v hv => (hmem v).2 (.inr (mem_varsOf hv))) (big_of_bulk hbr)
  have cN := conP_next (z := a.size) (xs := xs) hlo hhi hxi (by omega) a0 c0
  rw [hxl] at cN
  have hxl' : (xs.map encInt).length = vs.length := by rw [List.length_map, hxl]
  (have F := @tmz; refine gG ?_; clear F)
  refine gB ?_
  (have F := And.intro hxl tmz; refine gCB 10 cL ?_; clear F)
  (have F := And.intro hxl tmz; refine gCS 10 cR ?_; clear F)
  simp only [setA, retA, zipM, List.cons_append, List.nil_append]
  by_cases he : valTm g a vs xs l = valTm g a vs xs r
  rotate_left
  · have hf := hno fun h => he (h.2.2.2.2 xs hxl hxi)
    have q5 : (valTm g a vs xs l = valTm g a vs xs r) = False := eq_false he
    (have F := And.intro @tmz @q5; refine gR ?_; clear F)
    (have F := @hf; refine gG ?_; exact gT)
  have q5 : (valTm g a vs xs l = valTm g a vs xs r) = True := eq_true he
  (have F := And.intro @tmz @q5; refine gR ?_; clear F)
  (have F := @tmz; refine gG ?_; clear F)
  refine gB ?_
  (have F := And.intro @tmz @hxl; refine gCP [10] [10] (cN) ?_; clear F)
  rintro r pm ⟨rfl, rfl⟩
  simp only [setA, retA, zipM, List.cons_append, List.nil_append]
  obtain ⟨hi2, hmu⟩ := invH_step hlo hx' he
  refine (have F := tmz; gR ?_)
  exact (have F := tmz; ⟨(nxB a.size xs, nxt a.size xs), hi2, gw, gw, hmu⟩)
end
end Go.Proofs.YtofklmbljbkdaaaGreat
namespace Go.Proofs.YtofklmbljbkdaaaGreat
open Go.RowKit
noncomputable def heldB (g : Sgn) (a : Alg) (e : Eqn) : Bool := !(decide (e.cs.length = 0) && !(holdsB g a e.l e.r))
noncomputable def modelB (m : Mdl) (a : Alg) : Bool := isMdl m && (isOb m.sig a && m.eqs.all (heldB m.sig a))
theorem isMdl_len {m : Mdl} (h : isMdl m = true) : m.eqs.length ≤ 16 := by
  simp only [isMdl, hasEq, Bool.and_eq_true, decide_eq_true_eq] at h
  exact h.2.1
section
variable {m : Mdl} {a : Alg}
set_option maxHeartbeats 8000000 in
set_option maxRecDepth 100000 in
theorem con_specModel (hm : okMdl m) (ha : okAlg a) (hb : bulkRow (encMdl m) ≤ 1048576) : Con e0 12 [.agg (encMdl m), .agg (encAlg a)] [.one (.lit (.bool (modelB m a)))] := by
  have cM := con_specMod hm hb
  rw [bulk_mdl] at hb
  obtain ⟨hokg, hoe, hou⟩ := hm
  have cO := con_specOb hokg ha
  have cH := fun (e : Eqn) (he : okEqn e) (hb : bulkRow (encEqn e) ≤ 1048576) => con_specHolds (g := m.sig) (a := a) hokg ha he.1 he.2.1 (by rw [bulk_eqn] at hb; omega) (by rw [bulk_eqn] at hb; omega)
  have er := eqn_rows
  rw [encSgn, encAlg] at cO cH
  rw [encAlg]
  have ed : encMdl m = [.sl (m.sig.sorts.names.map encStr), .sl (m.sig.sorts.subs.map encSub), .sl (m.sig.ops.map encOpr), .sl (m.eqs.map encEqn), .sl (m.rules.map encEqn)] := rfl
  rw [ed] at cM ⊢
  refine gI 562949954502719 Tryz.func12 ?_
  (have F := And.intro @tmz (And.intro @eqz @er); refine gG ?_; clear F)
  refine gB ?_
  (have F := @tmz; refine gC (cM) ?_; clear F)
  cases hM : isMdl m with
  | false =>
    have hf : modelB m a = false := by rw [modelB, hM]; rfl
    (have F := @tmz; refine gR ?_; clear F)
    (have F := @hf; refine gG ?_; exact gT)
  | true =>
  (have F := @tmz; refine gC (cO) ?_; clear F)
  cases hO : isOb m.sig a with
  | false =>
    have hf : modelB m a = false := by rw [modelB, hM, hO]; rfl
    (have F := @tmz; refine gR ?_; clear F)
    (have F := @hf; refine gG ?_; exact gT)
  | true =>
  have ei : modelB m a = m.eqs.all (heldB m.sig a) := by rw [modelB, hM, hO]; rfl
  rw [ei]
  have hl := isMdl_len hM
  (have F := @tmz; refine gR ?_; clear F)
  (have F := And.intro @tmz (And.intro @eqz @er); refine gG ?_; clear F)
  (have F := @e0P; refine gL (ι := Nat) [4, 5, 20, 49] [] (fun x => [(5, A.d (.one (.lit (.int .i64 x))))]) (fun x => []) (fun x => x ≤ m.eqs.length ∧ (m.eqs.take x).all (heldB m.sig a) = true) (fun x => m.eqs.length - x) (0) (⟨Nat.zero_le _, rfl⟩) (fun x hx => ?_); clear F)
  obtain ⟨hxl, hall⟩ := hx
  by_cases hlt : x < m.eqs.length
  rotate_left
  · obtain rfl : x = m.eqs.length := by omega
    have q1 : ¬ ((m.eqs.length : Int) < (m.eqs.length : Int)) := by omega
    rw [List.take_length] at hall
    (have F := And.intro @tmz (And.intro @eqz (And.intro @er (And.intro @q1 @hall))); refine gG ?_; exact gT)
  have q1 : (x : Int) < (m.eqs.length : Int) := by omega
  obtain ⟨e, he⟩ : ∃ a, m.eqs[x]? = some a := ⟨_, List.getElem?_eq_getElem hlt⟩
  have hmm := List.mem_of_getElem? he
  have hw1 := wrap1 (k := x) (by omega)
  have hbb := bulk_eq_mem hmm
  have hnx : heldB m.sig a e = true → x + 1 ≤ m.eqs.length ∧ (m.eqs.take (x + 1)).all (heldB m.sig a) = true := fun h => ⟨hlt, by rw [all_take_c he, hall, h]; rfl⟩
  by_cases hc : e.cs.length = 0
  rotate_left
  · have z1 : ((e.cs.length : Int) = 0) = False := eq_false (by omega)
    have hq := hnx (by simp [heldB, hc])
    (have F := And.intro @tmz (And.intro @eqz (And.intro @er (And.intro @q1 (And.intro @he (And.intro @z1 @hw1))))); refine gG ?_; exact ⟨x + 1, hq, gw, gw, by omega⟩)
  have z1 : ((e.cs.length : Int) = 0) = True := eq_true (by omega)
  (have F := And.intro @tmz (And.intro @eqz (And.intro @er @q1)); refine gG ?_; clear F)
  refine gB ?_
  (have F := And.intro @tmz (And.intro @eqz (And.intro @er (And.intro @he @z1))); refine gC (cH e (hoe e hmm) (by omega)) ?_; clear F)
  cases hh : holdsB m.sig a e.l e.r with
  | false =>
    have hf : m.eqs.all (heldB m.sig a) = false := all_false hmm (by simp [heldB, hc, hh])
    (have F := @tmz; refine gR ?_; clear F)
    (have F := @hf; refine gG ?_; exact gT)
  | true =>
    have hq := hnx (by simp [heldB, hh])
    (have F := @tmz; refine gR ?_; clear F)
    (have F := And.intro @tmz @hw1; refine gG ?_; exact ⟨x + 1, hq, gw, gw, by omega⟩)
set_option maxHeartbeats 8000000 in
set_option maxRecDepth 100000 in
theorem con_implModel (hm : okMdl m) (ha : okAlg a) (hb : bulkRow (encMdl m) ≤ 1048576) : Con e0 15 [.agg (encMdl m), .agg (encAlg a)] [.one (.lit (.bool (modelB m a)))] := by
  have cM := con_implMod hm hb
  rw [bulk_mdl] at hb
  obtain ⟨hokg, hoe, hou⟩ := hm
  have cO := con_implOb hokg ha
  have cH := fun (e : Eqn) (he : okEqn e) (hb : bulkRow (encEqn e) ≤ 1048576) => con_implHolds (g := m.sig) (a := a) hokg ha he.1 he.2.1 (by rw [bulk_eqn] at hb; omega) (by rw [bulk_eqn] at hb; omega)
  have er := eqn_rows
  rw [encSgn, encAlg] at cO cH
  rw [encAlg]
  have ed : encMdl m = [.sl (m.sig.sorts.names.map encStr), .sl (m.sig.sorts.subs.map encSub), .sl (m.sig.ops.map encOpr), .sl (m.eqs.map encEqn), .sl (m.rules.map encEqn)] := rfl
  rw [ed] at cM ⊢
  refine gI 274881904735 Tryz.func15 ?_
  (have F := And.intro @tmz (And.intro @eqz @er); refine gG ?_; clear F)
  refine gB ?_
  (have F := @tmz; refine gC (cM) ?_; clear F)
  cases hM : isMdl m with
  | false =>
    have hf : modelB m a = false := by rw [modelB, hM]; rfl
    (have F := @tmz; refine gR ?_; clear F)
    (have F := @hf; refine gG ?_; exact gT)
  | true =>
  (have F := @tmz; refine gC (cO) ?_; clear F)
  cases hO : isOb m.sig a with
  | false =>
    have hf : modelB m a = false := by rw [modelB, hM, hO]; rfl
    (have F := @tmz; refine gR ?_; clear F)
    (have F := @hf; refine gG ?_; exact gT)
  | true =>
  have ei : modelB m a = m.eqs.all (heldB m.sig a) := by rw [modelB, hM, hO]; rfl
  rw [ei]
  have hl := isMdl_len hM
  (have F := @tmz; refine gR ?_; clear F)
  (have F := And.intro @tmz (And.intro @eqz @er); refine gG ?_; clear F)
  (have F := @e0P; refine gL (ι := Nat) [4, 6, 20, 21, 38] [] (fun x => [(20, A.d (.one (.lit (.int .i64 x))))]) (fun x => []) (fun x => x ≤ m.eqs.length ∧ (m.eqs.take x).all (heldB m.sig a) = true) (fun x => m.eqs.length - x) (0) (⟨Nat.zero_le _, rfl⟩) (fun x hx => ?_); clear F)
  obtain ⟨hxl, hall⟩ := hx
  by_cases hlt : x < m.eqs.length
  rotate_left
  · obtain rfl : x = m.eqs.length := by omega
    have q1 : ¬ ((m.eqs.length : Int) < (m.eqs.length : Int)) := by omega
    rw [List.take_length] at hall
    (have F := And.intro @tmz (And.intro @eqz (And.intro @er (And.intro @q1 @hall))); refine gG ?_; exact gT)
  have q1 : (x : Int) < (m.eqs.length : Int) := by omega
  obtain ⟨e, he⟩ : ∃ a, m.eqs[x]? = some a := ⟨_, List.getElem?_eq_getElem hlt⟩
  have hmm := List.mem_of_getElem? he
  have hw1 := wrap1 (k := x) (by omega)
  have hbb := bulk_eq_mem hmm
  have hnx : heldB m.sig a e = true → x + 1 ≤ m.eqs.length ∧ (m.eqs.take (x + 1)).all (heldB m.sig a) = true := fun h => ⟨hlt, by rw [all_take_c he, hall, h]; rfl⟩
  by_cases hc : e.cs.length = 0
  rotate_left
  · have z1 : ((e.cs.length : Int) = 0) = False := eq_false (by omega)
    have hq := hnx (by simp [heldB, hc])
    (have F := And.intro @tmz (And.intro @eqz (And.intro @er (And.intro @q1 (And.intro @he (And.intro @z1 @hw1))))); refine gG ?_; exact ⟨x + 1, hq, gw, gw, by omega⟩)
  have z1 : ((e.cs.length : Int) = 0) = True := eq_true (by omega)
  (have F := And.intro @tmz (And.intro @eqz (And.intro @er (And.intro @q1 @he))); refine gG ?_; clear F)
  refine gB ?_
  (have F := And.intro @tmz (And.intro @eqz (And.intro @er @z1)); refine gC (cH e (hoe e hmm) (by omega)) ?_; clear F)
  cases hh : holdsB m.sig a e.l e.r with
  | false =>
    have hf : m.eqs.all (heldB m.sig a) = false := all_false hmm (by simp [heldB, hc, hh])
    (have F := @tmz; refine gR ?_; clear F)
    (have F := @hf; refine gG ?_; exact gT)
  | true =>
    have hq := hnx (by simp [heldB, hh])
    (have F := @tmz; refine gR ?_; clear F)
    (have F := And.intro @tmz @hw1; refine gG ?_; exact ⟨x + 1, hq, gw, gw, by omega⟩)
end
end Go.Proofs.YtofklmbljbkdaaaGreat
namespace Go.Proofs.YtofklmbljbkdaaaGreat
open Go.RowKit
set_option maxHeartbeats 40000000 in
set_option maxRecDepth 100000 in
theorem con_lawIsModel {row0 : List C} (hok0 : okRow (moduleF) row0) {row1 : List C} (hok1 : okRow (algF) row1) {R0 : Bool} (hsp0 : bulkRow row0 ≤ 1048576 → bulkRow row1 ≤ 1048576 → Con e0 12 [.agg row0, .agg row1] [.one (.lit (.bool R0))]) (him0 : bulkRow row0 ≤ 1048576 → bulkRow row1 ≤ 1048576 → Con e0 15 [.agg row0, .agg row1] [.one (.lit (.bool R0))]) : Con e0 3 [.agg row0, .agg row1] [.one (.lit (.bool true))] := by
  have okc0 := hok0.cells
  obtain ⟨len0, tk0, dr0⟩ := hok0.take (n := 5) rfl
  have okc1 := hok1.cells
  obtain ⟨len1, tk1, dr1⟩ := hok1.take (n := 2) rfl
  refine gI 18159122269183 Tryz.func3 ?_
  (have F := And.intro @okc0 (And.intro @len0 (And.intro @tk0 (And.intro @dr0 (And.intro @okc1 (And.intro @len1 (And.intro @tk1 (And.intro @dr1 @drop0))))))); refine gG ?_; clear F)
  have hL0_0 : (0 : Int) ≤ 1048576 := by omega
  have hL0_1 : (1048576 : Int) ≤ 1048576 := by omega
  refine gB ?_
  (have F := And.intro @okc0 (And.intro @len0 (And.intro @tk0 (And.intro @dr0 (And.intro @okc1 (And.intro @len1 (And.intro @tk1 (And.intro @dr1 @drop0))))))); refine gC (con_szModule hok0 hL0_0 hL0_1) ?_; clear F)
  (have F := And.intro @okc0 (And.intro @len0 (And.intro @tk0 (And.intro @dr0 (And.intro @okc1 (And.intro @len1 (And.intro @tk1 (And.intro @dr1 @drop0))))))); refine gR ?_; clear F)
  by_cases hb0 : ((bulkRow row0) : Int) ≤ 1048576
  rotate_left
  · have n1 : sub 1048576 (bulkRow row0) = -1 := sub_neg (by omega)
    have n2 : (-1 : Int) < 0 := by omega
    (have F := And.intro @n1 @n2; refine gG ?_; exact gT)
  have nq0 : sub 1048576 (bulkRow row0) = 1048576 - ((bulkRow row0) : Nat) := sub_pos (by omega)
  rw [nq0]
  clear nq0
  have hB0 : bulkRow row0 ≤ 1048576 := by omega
  have hL1_0 : (0 : Int) ≤ 1048576 - ((bulkRow row0) : Nat) := by omega
  have hL1_1 : (1048576 : Int) - ((bulkRow row0) : Nat) ≤ 1048576 := by omega
  generalize hgl0 : (1048576 : Int) - ((bulkRow row0) : Nat) = L1 at *
  clear hgl0
  have n2 : ¬ (L1 < 0) := by omega
  (have F := And.intro @n2 (And.intro @okc0 (And.intro @len0 (And.intro @tk0 (And.intro @dr0 (And.intro @okc1 (And.intro @len1 (And.intro @tk1 (And.intro @dr1 @drop0)))))))); refine gG ?_; clear F)
  clear n2 hb0
  refine gB ?_
  (have F := And.intro @okc0 (And.intro @len0 (And.intro @tk0 (And.intro @dr0 (And.intro @okc1 (And.intro @len1 (And.intro @tk1 (And.intro @dr1 @drop0))))))); refine gC (con_szAlgebra hok1 hL1_0 hL1_1) ?_; clear F)
  (have F := And.intro @okc0 (And.intro @len0 (And.intro @tk0 (And.intro @dr0 (And.intro @okc1 (And.intro @len1 (And.intro @tk1 (And.intro @dr1 @drop0))))))); refine gR ?_; clear F)
  by_cases hb1 : ((bulkRow row1) : Int) ≤ L1
  rotate_left
  · have n1 : sub L1 (bulkRow row1) = -1 := sub_neg (by omega)
    have n2 : (-1 : Int) < 0 := by omega
    (have F := And.intro @n1 @n2; refine gG ?_; exact gT)
  have nq1 : sub L1 (bulkRow row1) = L1 - ((bulkRow row1) : Nat) := sub_pos (by omega)
  rw [nq1]
  clear nq1
  have hB1 : bulkRow row1 ≤ 1048576 := by omega
  have hL2_0 : (0 : Int) ≤ L1 - ((bulkRow row1) : Nat) := by omega
  have hL2_1 : (L1 : Int) - ((bulkRow row1) : Nat) ≤ 1048576 := by omega
  generalize hgl1 : (L1 : Int) - ((bulkRow row1) : Nat) = L2 at *
  clear hgl1
  have n2 : ¬ (L2 < 0) := by omega
  (have F := And.intro @n2 (And.intro @okc0 (And.intro @len0 (And.intro @tk0 (And.intro @dr0 (And.intro @okc1 (And.intro @len1 (And.intro @tk1 (And.intro @dr1 @drop0)))))))); refine gG ?_; clear F)
  clear n2 hb1
  have hsp := hsp0 hB0 hB1
  have him := him0 hB0 hB1
  have cT0 := con_toModule hok0 hB0
  have cT1 := con_toAlgebra hok1 hB1
  refine gB ?_
  (have F := And.intro @okc0 (And.intro @len0 (And.intro @tk0 (And.intro @dr0 (And.intro @okc1 (And.intro @len1 (And.intro @tk1 (And.intro @dr1 @drop0))))))); refine gC (cT0) ?_; clear F)
  (have F := And.intro @okc0 (And.intro @len0 (And.intro @tk0 (And.intro @dr0 (And.intro @okc1 (And.intro @len1 (And.intro @tk1 (And.intro @dr1 @drop0))))))); refine gC (cT1) ?_; clear F)
  (have F := And.intro @okc0 (And.intro @len0 (And.intro @tk0 (And.intro @dr0 (And.intro @okc1 (And.intro @len1 (And.intro @tk1 (And.intro @dr1 @drop0))))))); refine gC (hsp) ?_; clear F)
  (have F := And.intro @okc0 (And.intro @len0 (And.intro @tk0 (And.intro @dr0 (And.intro @okc1 (And.intro @len1 (And.intro @tk1 (And.intro @dr1 @drop0))))))); refine gR ?_; clear F)
  (have F := And.intro @okc0 (And.intro @len0 (And.intro @tk0 (And.intro @dr0 (And.intro @okc1 (And.intro @len1 (And.intro @tk1 (And.intro @dr1 @drop0))))))); refine gG ?_; clear F)
  refine gB ?_
  (have F := And.intro @okc0 (And.intro @len0 (And.intro @tk0 (And.intro @dr0 (And.intro @okc1 (And.intro @len1 (And.intro @tk1 (And.intro @dr1 @drop0))))))); refine gC (cT0) ?_; clear F)
  (have F := And.intro @okc0 (And.intro @len0 (And.intro @tk0 (And.intro @dr0 (And.intro @okc1 (And.intro @len1 (And.intro @tk1 (And.intro @dr1 @drop0))))))); refine gR ?_; clear F)
  (have F := And.intro @okc0 (And.intro @len0 (And.intro @tk0 (And.intro @dr0 (And.intro @okc1 (And.intro @len1 (And.intro @tk1 (And.intro @dr1 @drop0))))))); refine gG ?_; clear F)
  refine gB ?_
  (have F := And.intro @okc0 (And.intro @len0 (And.intro @tk0 (And.intro @dr0 (And.intro @okc1 (And.intro @len1 (And.intro @tk1 (And.intro @dr1 @drop0))))))); refine gC (cT1) ?_; clear F)
  (have F := And.intro @okc0 (And.intro @len0 (And.intro @tk0 (And.intro @dr0 (And.intro @okc1 (And.intro @len1 (And.intro @tk1 (And.intro @dr1 @drop0))))))); refine gR ?_; clear F)
  (have F := And.intro @okc0 (And.intro @len0 (And.intro @tk0 (And.intro @dr0 (And.intro @okc1 (And.intro @len1 (And.intro @tk1 (And.intro @dr1 @drop0))))))); refine gG ?_; clear F)
  refine gB ?_
  (have F := And.intro @okc0 (And.intro @len0 (And.intro @tk0 (And.intro @dr0 (And.intro @okc1 (And.intro @len1 (And.intro @tk1 (And.intro @dr1 @drop0))))))); refine gC (him) ?_; clear F)
  (have F := And.intro @okc0 (And.intro @len0 (And.intro @tk0 (And.intro @dr0 (And.intro @okc1 (And.intro @len1 (And.intro @tk1 (And.intro @dr1 @drop0))))))); refine gR ?_; clear F)
  (have F := And.intro @okc0 (And.intro @len0 (And.intro @tk0 (And.intro @dr0 (And.intro @okc1 (And.intro @len1 (And.intro @tk1 (And.intro @dr1 (And.intro @drop0 @beq_self_eq_true.{0})))))))); refine gG ?_; clear F)
  refine gB ?_
  (have F := And.intro @okc0 (And.intro @len0 (And.intro @tk0 (And.intro @dr0 (And.intro @okc1 (And.intro @len1 (And.intro @tk1 (And.intro @dr1 @drop0))))))); refine gC (cT0) ?_; clear F)
  (have F := And.intro @okc0 (And.intro @len0 (And.intro @tk0 (And.intro @dr0 (And.intro @okc1 (And.intro @len1 (And.intro @tk1 (And.intro @dr1 @drop0))))))); refine gC (con_eqModule hok0) ?_; clear F)
  (have F := And.intro @okc0 (And.intro @len0 (And.intro @tk0 (And.intro @dr0 (And.intro @okc1 (And.intro @len1 (And.intro @tk1 (And.intro @dr1 @drop0))))))); refine gR ?_; clear F)
  (have F := And.intro @okc0 (And.intro @len0 (And.intro @tk0 (And.intro @dr0 (And.intro @okc1 (And.intro @len1 (And.intro @tk1 (And.intro @dr1 @drop0))))))); refine gG ?_; clear F)
  refine gB ?_
  (have F := And.intro @okc0 (And.intro @len0 (And.intro @tk0 (And.intro @dr0 (And.intro @okc1 (And.intro @len1 (And.intro @tk1 (And.intro @dr1 @drop0))))))); refine gC (cT1) ?_; clear F)
  (have F := And.intro @okc0 (And.intro @len0 (And.intro @tk0 (And.intro @dr0 (And.intro @okc1 (And.intro @len1 (And.intro @tk1 (And.intro @dr1 @drop0))))))); refine gC (con_eqAlgebra hok1) ?_; clear F)
  (have F := And.intro @okc0 (And.intro @len0 (And.intro @tk0 (And.intro @dr0 (And.intro @okc1 (And.intro @len1 (And.intro @tk1 (And.intro @dr1 @drop0))))))); refine gR ?_; clear F)
  (have F := And.intro @okc0 (And.intro @len0 (And.intro @tk0 (And.intro @dr0 (And.intro @okc1 (And.intro @len1 (And.intro @tk1 (And.intro @dr1 @drop0))))))); refine gG ?_; exact gT)
theorem lawExactIsModel (w : World) (row0 : List C) (S0 : Nat → Prop) (us0 : List Value) (hok0 : okRow (moduleF) row0) (hv0 : RepVals w S0 row0 us0) (row1 : List C) (S1 : Nat → Prop) (us1 : List Value) (hok1 : okRow (algF) row1) (hv1 : RepVals w S1 row1 us1) :
    Calls Tryz.prog 3 #[(.agg us0.toArray : Value), (.agg us1.toArray : Value)] w fun e w' => e = .returned (.bool true) ∧ Below w.heap.size w w' := by
  obtain ⟨m, rfl, k0⟩ := decMod hok0
  obtain ⟨a, rfl, k1⟩ := decAlg hok1
  have hc := (con_lawIsModel hok0 hok1 (fun b0 b1 => con_specModel k0 k1 b0) (fun b0 b1 => con_implModel k0 k1 b0)).2 w (fun b => b < w.heap.size) [(.agg us0.toArray : Value), (.agg us1.toArray : Value)] (fun b hb => ⟨hb, id⟩) (fun b hb => hb.elim) trivial
    ⟨⟨us0, rfl, hv0.inside'⟩, ⟨us1, rfl, hv1.inside'⟩, trivial⟩
  refine hc.mono fun e w' ⟨v, h1, h2, _, h4⟩ => ⟨?_, h2.below⟩
  have h4 : v = .bool true := by simpa [retA, ARel, DRel, Rep] using h4
  rw [h1, h4]
end Go.Proofs.YtofklmbljbkdaaaGreat
namespace Go.Proofs.YtofklmbljbkdaaaGreat
open Go.ChangeShapes Go.WideShapes Go.ChangeAt Go.RowKit Go.Deep
set_option maxRecDepth 100000 in
theorem isModel_holds_lifted (os : Os) (started : os.Started) (H : Type) (enc : TypeId × Value → H) :
    ReturnsInHanded {} Tryz.checked os 3 .any (Rows.fnExactIsModelSpec.pre6 enc Tryz.prog Tryz.f3 Rows.fnExactIsModelRow.domain false) (Rows.fnExactIsModelSpec.post enc Tryz.prog Tryz.f3 false true false false) := by
  refine returnsInHanded_of_change (C := Tryz.checked) own started (by kernel_rfl) Tryz.func3
    (ChangeSpec.witness6 (enc := enc) (C := Tryz.checked) false ⟨#[], #[.agg #[.slice none 0 0, .slice none 0 0, .slice none 0 0, .slice none 0 0, .slice none 0 0], .agg #[.int .i64 0, .slice none 0 0]], []⟩ 8 (by kernel_rfl) (by kernel_rfl) (by kernel_rfl) (by kernel_rfl)) ?_
  intro W base args ds gs before hval0 hW _ _
  have hval : ∀ (j : Nat) t v, Tryz.f3.params[j]? = some t → args[j]? = some v → Value.okWide Tryz.prog W .any base t v := hval0
  have hW' := hW
  obtain ⟨p, q, hA0, hV, rfl, _, _⟩ := hW
  have hA : DataW.TrodAll enc Tryz.prog W 0 (fun _ => true) true Tryz.f3.params.toList args.toList ds p := hA0
  rw [Tryz.params3] at hA hval
  obtain ⟨v0, vs0, d0, ds0, p0, q0, hargs0, hd0, hp0, h0, r0⟩ := trodAll_cons hA
  obtain ⟨v1, vs1, d1, ds1, p1, q1, hargs1, hd1, hp1, h1, r1⟩ := trodAll_cons r0
  obtain ⟨e2, e2d, _⟩ := trodAll_nil r1
  rw [e2] at hargs1
  rw [hargs1] at hargs0
  obtain rfl : args = #[v0, v1] := by cases args; simp_all
  rw [e2d] at hd1
  rw [hd1] at hd0
  subst hd0
  obtain ⟨rfl, rfl⟩ := trodVars_none hV
  obtain ⟨cs0, rfl, _⟩ := okWide_struct Tryz.underlying31 (hval 0 31 v0 rfl rfl)
  obtain ⟨fuel0, hf0⟩ := h0
  obtain ⟨row0, hok0, hrep0⟩ := open_row seatTR fuel0 _ _ _ _ ty_Module hf0
  have e0c : (Value.agg cs0).cells.toList.toArray = cs0 := by simp [Value.cells]
  obtain ⟨cs1, rfl, _⟩ := okWide_struct Tryz.underlying34 (hval 1 34 v1 rfl rfl)
  obtain ⟨fuel1, hf1⟩ := h1
  obtain ⟨row1, hok1, hrep1⟩ := open_row seatTR fuel1 _ _ _ _ ty_Algebra hf1
  have e1c : (Value.agg cs1).cells.toList.toArray = cs1 := by simp [Value.cells]
  have hlaw := lawExactIsModel W row0 _ _ hok0 hrep0 row1 _ _ hok1 hrep1
  rw [e0c, e1c] at hlaw
  refine hlaw.mono fun e W' ⟨he, hb⟩ => ?_
  subst he
  exact ⟨_, rfl, law_post laidOut rfl rfl Tryz.underlying4 (by rw [Tryz.params3]; decide +kernel) hW' rfl hb⟩
set_option maxHeartbeats 400000000 in
set_option maxRecDepth 100000 in
theorem isModel_holds_closed : joinedFacts Tryz.checked.prog 3 Tryz.f3 Rows.fnExactIsModelSpec Rows.fnExactIsModelRow = true := by
  unfold joinedFacts
  simp only [Bool.and_eq_true]
  and_intros
  all_goals as_aux_lemma => kernel_rfl
theorem isModel_holds_named : Tryz.checked.prog.funcNamed Rows.fnExactIsModelRow.func = some 3 := by kernel_rfl
theorem isModel_holds : Rows.FnExactIsModelSaid :=
  OpenClaim.holds_of_wide 3 Tryz.f3 rfl rfl rfl rfl rfl rfl rfl ⟨rfl, rfl, rfl, rfl, rfl⟩ rfl rfl rfl rfl rfl isModel_holds_named Tryz.func3 isModel_holds_closed
    (of_decide_eq_true (by kernel_rfl)) (by unfold Func.isWrapper; rw [if_neg (of_decide_eq_false (by kernel_rfl))]; exact ⟨rfl, rfl⟩)
    (fun os started H enc _ => isModel_holds_lifted os started H enc)
#print axioms isModel_holds
end Go.Proofs.YtofklmbljbkdaaaGreat
