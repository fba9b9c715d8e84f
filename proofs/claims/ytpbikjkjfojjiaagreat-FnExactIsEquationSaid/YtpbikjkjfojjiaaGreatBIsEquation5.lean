/-
  FnExactIsEquation returns true for every signature and equation, and turns nothing: proved without conditions.
-/
import Derived.Test.YtpbikjkjfojjiaaGreatBIsEquation0
import Derived.Test.YtpbikjkjfojjiaaGreatBIsEquation1
import Derived.Test.YtpbikjkjfojjiaaGreatBIsEquation2
import Derived.Test.YtpbikjkjfojjiaaGreatBIsEquation3
import Derived.Test.YtpbikjkjfojjiaaGreatBIsEquation4
set_option linter.unusedSimpArgs false
set_option linter.unusedVariables false
namespace Go.Proofs.YtpbikjkjfojjiaaGreat
open Go.RowKit

structure Eqn where
  l : Tm
  r : Tm
  cs : List (Tm × Tm)
def encCnd (c : Tm × Tm) : List C := encTm c.1 ++ encTm c.2
def encEqn (e : Eqn) : List C := encTm e.l ++ (encTm e.r ++ [.sl (e.cs.map encCnd)])
def okCnd (c : Tm × Tm) : Prop := okTm c.1 ∧ okTm c.2
def okEqn (e : Eqn) : Prop := okTm e.l ∧ okTm e.r ∧ ∀ c ∈ e.cs, okCnd c
theorem decCnd {row : List C} (h : okRow (fieldsOf .cond) row) : ∃ c, row = encCnd c ∧ okCnd c := by
  obtain ⟨i0, t1, i2, r3, i4, t5, i6, r7, rfl, g0, g1, g2, g3, g4, g5, g6, g7⟩ := okRow_Condition h
  obtain ⟨a, rfl, ha⟩ := decTms g3
  obtain ⟨a', rfl, ha'⟩ := decTms g7
  refine ⟨(.mk i0 t1 i2 a, .mk i4 t5 i6 a'), by simp [encCnd, encTm], ?_⟩
  simp only [okCnd, okTm]
  exact ⟨⟨g0, g1, g2, ha⟩, g4, g5, g6, ha'⟩
theorem decCnds : ∀ {rows : List (List C)}, okRows (fieldsOf .cond) rows → ∃ cs : List (Tm × Tm), rows = cs.map encCnd ∧ ∀ c ∈ cs, okCnd c
  | [], _ => ⟨[], rfl, by simp⟩
  | r :: rs, h => by
    simp only [okRows] at h
    obtain ⟨c, rfl, hc⟩ := decCnd h.1
    obtain ⟨cs, rfl, hcs⟩ := decCnds h.2
    exact ⟨c :: cs, rfl, by intro x hx; rcases List.mem_cons.1 hx with rfl | hx; exact hc; exact hcs x hx⟩
theorem decEqn {row : List C} (h : okRow (fieldsOf .eqn) row) : ∃ e, row = encEqn e ∧ okEqn e := by
  obtain ⟨i0, t1, i2, r3, i4, t5, i6, r7, r8, rfl, g0, g1, g2, g3, g4, g5, g6, g7, g8⟩ := okRow_Equation h
  obtain ⟨a, rfl, ha⟩ := decTms g3
  obtain ⟨a', rfl, ha'⟩ := decTms g7
  obtain ⟨cs, rfl, hcs⟩ := decCnds g8
  refine ⟨⟨.mk i0 t1 i2 a, .mk i4 t5 i6 a', cs⟩, by simp [encEqn, encTm], ?_, ?_, hcs⟩
  · simp only [okTm]; exact ⟨g0, g1, g2, ha⟩
  · simp only [okTm]; exact ⟨g4, g5, g6, ha'⟩
theorem tm4 (t : Tm) : ∃ a b c d, encTm t = [a, b, c, d] := by
  obtain ⟨op, nm, so, args⟩ := t
  simp only [encTm]
  exact ⟨_, _, _, _, rfl⟩
theorem take_tm (t : Tm) (l : List C) : (encTm t ++ l).take 4 = encTm t := by obtain ⟨a, b, c, d, h⟩ := tm4 t; rw [h]; rfl
theorem drop_tm (t : Tm) (l : List C) : (encTm t ++ l).drop 4 = l := by obtain ⟨a, b, c, d, h⟩ := tm4 t; rw [h]; rfl
theorem eq_take4 (e : Eqn) : (encEqn e).take 4 = encTm e.l := take_tm _ _
theorem eq_drop4 (e : Eqn) : (encEqn e).drop 4 = encTm e.r ++ [.sl (e.cs.map encCnd)] := drop_tm _ _
theorem eq_drop8 (e : Eqn) : (encEqn e).drop 8 = [.sl (e.cs.map encCnd)] := by
  rw [show (8 : Nat) = 4 + 4 from rfl, ← List.drop_drop, eq_drop4, drop_tm]
theorem eq_len (e : Eqn) : (encEqn e).length = 9 := by simp [encEqn, (tmz.2.2.2.2.1 : ∀ t, (encTm t).length = 4)]
theorem eq_take9 (e : Eqn) : (encEqn e).take 9 = encEqn e := List.take_of_length_le (by rw [eq_len]; exact Nat.le_refl _)
theorem eq_drop9 (e : Eqn) : (encEqn e).drop 9 = [] := List.drop_of_length_le (by rw [eq_len]; exact Nat.le_refl _)
theorem eq_ok (e : Eqn) : (encEqn e).all okCell = true := by
  simp only [encEqn, List.all_append, (tmz.2.2.2.2.2.2.2.1 : ∀ t, (encTm t).all okCell = true), Bool.true_and]
  rfl
theorem eq_op (e : Eqn) : valT TK.one (encEqn e) = some (A.d (.one (.lit (.int .i64 e.l.op)))) := by
  obtain ⟨⟨op, nm, so, args⟩, r, cs⟩ := e
  simp [encEqn, encTm, valT, Tm.op]
theorem cn_len (c : Tm × Tm) : (encCnd c).length = 8 := by simp [encCnd, (tmz.2.2.2.2.1 : ∀ t, (encTm t).length = 4)]
theorem cn_take4 (c : Tm × Tm) : (encCnd c).take 4 = encTm c.1 := take_tm _ _
theorem cn_drop4 (c : Tm × Tm) : (encCnd c).drop 4 = encTm c.2 := drop_tm _ _
theorem cn_take8 (c : Tm × Tm) : (encCnd c).take 8 = encCnd c := List.take_of_length_le (by rw [cn_len]; exact Nat.le_refl _)
theorem cn_drop8 (c : Tm × Tm) : (encCnd c).drop 8 = [] := List.drop_of_length_le (by rw [cn_len]; exact Nat.le_refl _)
theorem cn_ok (c : Tm × Tm) : (encCnd c).all okCell = true := by
  simp only [encCnd, List.all_append, (tmz.2.2.2.2.2.2.2.1 : ∀ t, (encTm t).all okCell = true), Bool.true_and]
theorem cn_rows (cs : List (Tm × Tm)) : rowsB 8 (cs.map encCnd) = true := by
  induction cs with
  | nil => rfl
  | cons c cs ih => simp only [List.map_cons, rowsB_cons, cn_len, ih]; simp [cn_ok]
theorem eqz : type_of% (And.intro eq_take4 (And.intro eq_drop4 (And.intro eq_drop8 (And.intro eq_len (And.intro eq_take9 (And.intro eq_drop9 (And.intro eq_ok (And.intro eq_op (And.intro cn_len (And.intro cn_take4 (And.intro cn_drop4 (And.intro cn_take8 (And.intro cn_drop8 (And.intro cn_ok (And.intro cn_rows (And.intro take_tm drop_tm)))))))))))))))) := And.intro eq_take4 (And.intro eq_drop4 (And.intro eq_drop8 (And.intro eq_len (And.intro eq_take9 (And.intro eq_drop9 (And.intro eq_ok (And.intro eq_op (And.intro cn_len (And.intro cn_take4 (And.intro cn_drop4 (And.intro cn_take8 (And.intro cn_drop8 (And.intro cn_ok (And.intro cn_rows (And.intro take_tm drop_tm)))))))))))))))

/-! What is well formed. -/
noncomputable def pairB (g : Sgn) (l r : Tm) : Bool := isTerm g l && (isTerm g r && decide (kindTm g l = kindTm g r))
def hasB (vs : List Tm) (v : Tm) : Bool := vs.any fun a => decide (cmpTm v a = 0)
def withB (vs : List Tm) (t : Tm) : Bool := (varsOf t).all (hasB vs)
noncomputable def cndB (g : Sgn) (vs : List Tm) (c : Tm × Tm) : Bool := pairB g c.1 c.2 && (withB vs c.1 && withB vs c.2)
noncomputable def eqnB (g : Sgn) (e : Eqn) : Bool := pairB g e.l e.r && (!decide (e.l.op = -1) && (decide (e.cs.length ≤ 2) && (decide ((varsOf e.l).length ≤ 5) && (withB (varsOf e.l) e.r && e.cs.all (cndB g (varsOf e.l))))))
noncomputable def isEqn (g : Sgn) (e : Eqn) : Bool := isSgn g && eqnB g e
theorem hasB_iff {vs : List Tm} {v : Tm} : hasB vs v = true ↔ v ∈ vs := by
  simp only [hasB, List.any_eq_true, decide_eq_true_eq]
  exact ⟨fun ⟨a, h, e⟩ => cmpTm_zero e ▸ h, fun h => ⟨v, h, cmpTm_self v⟩⟩
theorem bulk_app (a b : List C) : bulkRow (a ++ b) = bulkRow a + bulkRow b := by
  induction a with
  | nil => simp [bulkRow]
  | cons x xs ih => simp only [List.cons_append, bulkRow, ih]; omega
theorem isName_size {s : ByteArray} (h : isName s = true) : s.size ≤ 12 := by
  simp only [isName, Bool.and_eq_true, decide_eq_true_eq] at h
  exact h.1.1.1.2
mutual
theorem form_bulk {g : Sgn} : ∀ {t : Tm}, FormOk g t → bulkRow (encTm t) + 1 ≤ 14 * sizeTm t
  | .mk op nm so args, h => by
    simp only [FormOk] at h
    obtain ⟨hn, ha, _⟩ := h
    have h1 := forms_bulk ha
    have h2 : nm.size ≤ 12 := by
      rcases hn with hn | ⟨o, d, hn⟩
      · exact isName_size hn.2.1
      · have := hn.nm
        simp only [Tm.name] at this
        rw [this]
        exact Nat.zero_le _
    simp only [encTm, bulkRow, bulkC, sizeTm]
    omega
theorem forms_bulk {g : Sgn} : ∀ {ts : List Tm}, FormOks g ts → (encTms ts).length + bulkRows (encTms ts) ≤ 14 * sizeTms ts
  | [], _ => by simp [encTms, bulkRows]
  | t :: ts, h => by
    simp only [FormOks] at h
    have h1 := form_bulk h.1
    have h2 := forms_bulk h.2
    simp only [encTms, bulkRows, List.length_cons, sizeTms]
    omega
end
theorem term_bulk {g : Sgn} {t : Tm} (h : isTerm g t = true) : bulkRow (encTm t) ≤ 1000000 := by
  have := form_bulk (isTerm_iff.1 h).form
  have := (isTerm_iff.1 h).size
  omega
theorem okTms_dist {l : List Tm} (h : okTms l) : okTms (distTm l) := colT_ok (r := []) h trivial
theorem okTms_vars {t : Tm} (h : okTm t) : okTms (varsOf t) := okTms_dist (varsTm_ok h)
theorem dist_len (l : List Tm) : (distTm l).length ≤ l.length := by have := colT_len l []; simpa [colT, distTm] using this
theorem varsOf_len (t : Tm) : (varsOf t).length ≤ 1 + bulkRow (encTm t) := Nat.le_trans (dist_len _) (vars_len t)

/-! The reference's side. -/
set_option maxHeartbeats 8000000 in
set_option maxRecDepth 100000 in
theorem con_l13Pair {g : Sgn} (hokg : okSgn g) (hg : SgnOk g) {l r : Tm} (hl : okTm l) (hr : okTm r) (hbl : bulkRow (encTm l) ≤ 1048576) (hbr : bulkRow (encTm r) ≤ 1048576) : Con e0 45 [.agg (encSgn g), .agg (encTm l), .agg (encTm r)] [.one (.lit (.bool (pairB g l r)))] := by
  have b1 := big_of_bulk hbl
  have b2 := big_of_bulk hbr
  have cF1 := con_l6Form hokg hg hl b1
  have cF2 := con_l6Form hokg hg hr b2
  have cK1 := fun h => con_l6Kind hokg hg (t := l) h
  have cK2 := fun h => con_l6Kind hokg hg (t := r) h
  rw [encSgn] at cF1 cF2 cK1 cK2
  refine gI 127 Tryz.func45 ?_
  (have F := And.intro @tmz @encSgn_u; refine gG ?_; clear F)
  refine gB ?_
  (have F := @tmz; refine gC (con_l6Small b1) ?_; clear F)
  by_cases h1 : sizeTm l ≤ 60 ∧ depthTm l ≤ 20
  rotate_left
  · have hf : pairB g l r = false := by rw [pairB, isTerm_false fun h => h1 ⟨h.size, h.depth⟩]; rfl
    have h1' : decide (sizeTm l ≤ 60 ∧ depthTm l ≤ 20) = false := by simp only [decide_eq_false_iff_not]; exact h1
    (have F := And.intro @tmz @h1'; refine gR ?_; clear F)
    (have F := @hf; refine gG ?_; exact gT)
  have h1' : decide (sizeTm l ≤ 60 ∧ depthTm l ≤ 20) = true := by simp only [decide_eq_true_eq]; exact h1
  (have F := And.intro @tmz @h1'; refine gC (cF1) ?_; clear F)
  have e1 := isTerm_form (g := g) h1.1 h1.2
  cases hF1 : isForm g l with
  | false =>
    have hf : pairB g l r = false := by rw [pairB, ← e1, hF1]; rfl
    (have F := And.intro @tmz @h1'; refine gR ?_; clear F)
    (have F := @hf; refine gG ?_; exact gT)
  | true =>
    (have F := And.intro @tmz @h1'; refine gC (con_l6Small b2) ?_; clear F)
    by_cases h2 : sizeTm r ≤ 60 ∧ depthTm r ≤ 20
    rotate_left
    · have hf : pairB g l r = false := by rw [pairB, isTerm_false (t := r) fun h => h2 ⟨h.size, h.depth⟩]; simp
      have h2' : decide (sizeTm r ≤ 60 ∧ depthTm r ≤ 20) = false := by simp only [decide_eq_false_iff_not]; exact h2
      (have F := And.intro @tmz (And.intro @h1' @h2'); refine gR ?_; clear F)
      (have F := @hf; refine gG ?_; exact gT)
    have h2' : decide (sizeTm r ≤ 60 ∧ depthTm r ≤ 20) = true := by simp only [decide_eq_true_eq]; exact h2
    (have F := And.intro @tmz (And.intro @h1' @h2'); refine gC (cF2) ?_; clear F)
    have e2 := isTerm_form (g := g) h2.1 h2.2
    cases hF2 : isForm g r with
    | false =>
      have hf : pairB g l r = false := by rw [pairB, ← e2, hF2]; simp
      (have F := And.intro @tmz (And.intro @h1' @h2'); refine gR ?_; clear F)
      (have F := @hf; refine gG ?_; exact gT)
    | true =>
      have ef : pairB g l r = decide (kindTm g l = kindTm g r) := by rw [pairB, ← e1, ← e2, hF1, hF2]; rfl
      (have F := And.intro @tmz (And.intro @h1' @h2'); refine gC (cK1 (isForm_iff.1 hF1).node) ?_; clear F)
      (have F := And.intro @tmz (And.intro @h1' @h2'); refine gC (cK2 (isForm_iff.1 hF2).node) ?_; clear F)
      (have F := And.intro @tmz (And.intro @h1' @h2'); refine gR ?_; clear F)
      (have F := @ef; refine gG ?_; exact gT)
theorem any_take_succ {vs : List Tm} {p : Tm → Bool} {i : Nat} {a : Tm} (h : vs[i]? = some a) : (vs.take (i + 1)).any p = ((vs.take i).any p || p a) := by
  rw [List.take_add_one, h]; simp
theorem all_take_succ {vs : List Tm} {p : Tm → Bool} {i : Nat} {a : Tm} (h : vs[i]? = some a) : (vs.take (i + 1)).all p = ((vs.take i).all p && p a) := by
  rw [List.take_add_one, h]; simp
theorem all_false {α : Type} {vs : List α} {p : α → Bool} {a : α} (h : a ∈ vs) (hp : p a = false) : vs.all p = false := by
  rw [List.all_eq_false]
  exact ⟨a, h, by simp [hp]⟩
theorem any_nil0 {p : Tm → Bool} : ([] : List Tm).any p = false := rfl
set_option maxHeartbeats 8000000 in
set_option maxRecDepth 100000 in
theorem con_l13Within {t : Tm} {vs : List Tm} (ht : okTm t) (hvs : okTms vs) (hb : bulkRow (encTm t) ≤ 1048576) (hl : vs.length ≤ 8000000) : Con e0 47 [.agg (encTm t), .one (.sl (encTms vs))] [.one (.lit (.bool (withB vs t)))] := by
  have hok := okTms_vars ht
  have hle := varsOf_len t
  have cV := con_specVars ht hb
  have eW : withB vs t = (varsOf t).all (hasB vs) := rfl
  rw [eW]
  clear eW
  generalize varsOf t = us at hok hle cV ⊢
  refine gI 68720542199 Tryz.func47 ?_
  (have F := @tmz; refine gG ?_; clear F)
  refine gB ?_
  (have F := @tmz; refine gC (cV) ?_; clear F)
  (have F := @tmz; refine gR ?_; clear F)
  (have F := @tmz; refine gG ?_; clear F)
  (have F := @e0P; refine gL (ι := Nat) [4, 6, 7, 8, 14, 20, 36] [] (fun x => [(6, A.d (.one (.lit (.int .i64 x))))]) (fun x => []) (fun x => x ≤ us.length ∧ (us.take x).all (hasB vs) = true) (fun x => us.length - x) (0) (⟨Nat.zero_le _, rfl⟩) (fun x hx => ?_); clear F)
  obtain ⟨hxl, hall⟩ := hx
  by_cases hlt : x < us.length
  rotate_left
  · have q1 : ¬ ((x : Int) < (us.length : Int)) := by omega
    obtain rfl : x = us.length := by omega
    rw [List.take_length] at hall
    (have F := And.intro @tmz (And.intro @q1 @hall); refine gG ?_; exact gT)
  have q1 : (x : Int) < (us.length : Int) := by omega
  obtain ⟨v, hv⟩ : ∃ a, us[x]? = some a := ⟨_, List.getElem?_eq_getElem hlt⟩
  have hvo := hok.mem (List.mem_of_getElem? hv)
  have hw1 := wrap1 (k := x) (by omega)
  (have F := And.intro @tmz @q1; refine gG ?_; clear F)
  (have F := ((fun (p : Tm → Bool) => (any_nil0 : ([] : List Tm).any p = false))); refine gL (ι := Nat) [7, 8, 20] [] (fun y => [(7, .d (.one (.lit (.bool ((vs.take y).any fun a => decide (cmpTm v a = 0)))))), (8, A.d (.one (.lit (.int .i64 y))))]) (fun y => []) (fun y => y ≤ vs.length) (fun y => vs.length - y) (0) (Nat.zero_le _) (fun y hy => ?_); clear F)
  by_cases hlt2 : y < vs.length
  rotate_left
  · have q2 : ¬ ((y : Int) < (vs.length : Int)) := by omega
    obtain rfl : y = vs.length := by omega
    rw [List.take_length]
    cases hh : hasB vs v with
    | true =>
      have e : (vs.any fun a => decide (cmpTm v a = 0)) = true := hh
      have hq : x + 1 ≤ us.length ∧ (us.take (x + 1)).all (hasB vs) = true := ⟨hlt, by rw [all_take_succ hv, hall, hh]; rfl⟩
      (have F := And.intro @tmz (And.intro @q1 (And.intro @q2 (And.intro @e @hw1))); refine gG ?_; exact ⟨x + 1, hq, gw, gw, by omega⟩)
    | false =>
      have e : (vs.any fun a => decide (cmpTm v a = 0)) = false := hh
      have hf : us.all (hasB vs) = false := all_false (List.mem_of_getElem? hv) hh
      (have F := And.intro @tmz (And.intro @q1 (And.intro @q2 (And.intro @e @hf))); refine gG ?_; exact gT)
  have q2 : (y : Int) < (vs.length : Int) := by omega
  obtain ⟨a, ha⟩ : ∃ a, vs[y]? = some a := ⟨_, List.getElem?_eq_getElem hlt2⟩
  have hao := hvs.mem (List.mem_of_getElem? ha)
  have hw2 := wrap1 (k := y) (by omega)
  have hst := any_take_succ (p := fun a => decide (cmpTm v a = 0)) ha
  cases hc : (vs.take y).any fun a => decide (cmpTm v a = 0) with
  | true =>
    rw [hc, Bool.true_or] at hst
    (have F := And.intro @tmz (And.intro @q1 @q2); refine gG ?_; clear F)
    (have F := And.intro @tmz (And.intro @q2 (And.intro @hst @hw2)); refine gG ?_; exact ⟨y + 1, hlt2, gw, gw, by omega⟩)
  | false =>
    rw [hc, Bool.false_or] at hst
    (have F := And.intro @tmz (And.intro @q1 @q2); refine gG ?_; clear F)
    refine gB ?_
    (have F := And.intro @tmz (And.intro @q1 (And.intro @q2 (And.intro @hv @ha))); refine gC (con_l5Same hvo hao) ?_; clear F)
    (have F := And.intro @tmz (And.intro @q1 @q2); refine gR ?_; clear F)
    (have F := And.intro @tmz (And.intro @q2 (And.intro @hst @hw2)); refine gG ?_; exact ⟨y + 1, hlt2, gw, gw, by omega⟩)
end Go.Proofs.YtpbikjkjfojjiaaGreat

namespace Go.Proofs.YtpbikjkjfojjiaaGreat
open Go.RowKit

theorem bulk_eqn (e : Eqn) : bulkRow (encEqn e) = bulkRow (encTm e.l) + (bulkRow (encTm e.r) + (e.cs.length + bulkRows (e.cs.map encCnd))) := by
  rw [encEqn, bulk_app, bulk_app]
  simp [bulkRow, bulkC]
theorem bulk_cnd {cs : List (Tm × Tm)} {c : Tm × Tm} (h : c ∈ cs) : bulkRow (encTm c.1) + bulkRow (encTm c.2) ≤ bulkRows (cs.map encCnd) := by
  obtain ⟨i, hi⟩ := List.getElem?_of_mem h
  have : (cs.map encCnd)[i]? = some (encCnd c) := by rw [List.getElem?_map, hi]; rfl
  have := bulk_get this
  rw [encCnd, bulk_app] at this
  exact this
theorem all_take_c {α : Type} {vs : List α} {p : α → Bool} {i : Nat} {a : α} (h : vs[i]? = some a) : (vs.take (i + 1)).all p = ((vs.take i).all p && p a) := by
  rw [List.take_add_one, h]; simp
set_option maxHeartbeats 8000000 in
set_option maxRecDepth 100000 in
theorem con_specEqn {g : Sgn} {e : Eqn} (hokg : okSgn g) (he : okEqn e) (hb : bulkRow (encEqn e) ≤ 1048576) : Con e0 11 [.agg (encSgn g), .agg (encEqn e)] [.one (.lit (.bool (isEqn g e)))] := by
  rw [bulk_eqn] at hb
  obtain ⟨hol, hor, hoc⟩ := he
  have cS := con_specSgn hokg
  rw [encSgn] at cS
  refine gI 151115728032372933787903 Tryz.func11 ?_
  (have F := And.intro @tmz (And.intro @eqz @encSgn_u); refine gG ?_; clear F)
  refine gB ?_
  (have F := And.intro @tmz (And.intro @eqz @encSgn_u); refine gC (cS) ?_; clear F)
  by_cases hs : isSgn g = true
  rotate_left
  · have hs' : isSgn g = false := by simpa using hs
    have hf : isEqn g e = false := by simp [isEqn, hs']
    (have F := And.intro @tmz (And.intro @eqz (And.intro @encSgn_u @hs')); refine gR ?_; clear F)
    (have F := @hf; refine gG ?_; exact gT)
  have hg := isSgn_iff.1 hs
  have ei : isEqn g e = eqnB g e := by simp [isEqn, hs]
  rw [ei]
  have cP := con_l13Pair hokg hg hol hor (by omega) (by omega)
  rw [encSgn] at cP
  (have F := And.intro @tmz (And.intro @eqz (And.intro @encSgn_u @hs)); refine gC (cP) ?_; clear F)
  cases hP : pairB g e.l e.r with
  | false =>
    have hf : eqnB g e = false := by simp [eqnB, hP]
    (have F := And.intro @tmz (And.intro @eqz (And.intro @encSgn_u @hs)); refine gR ?_; clear F)
    (have F := @hf; refine gG ?_; exact gT)
  | true =>
    by_cases h1 : e.l.op = -1
    · have hf : eqnB g e = false := by simp [eqnB, h1]
      (have F := And.intro @tmz (And.intro @eqz (And.intro @encSgn_u (And.intro @hs @h1))); refine gR ?_; clear F)
      (have F := @hf; refine gG ?_; exact gT)
    have h1' : (e.l.op = -1) = False := eq_false h1
    by_cases h2 : e.cs.length ≤ 2
    rotate_left
    · have hf : eqnB g e = false := by simp [eqnB, h2]
      have h2' : (2 : Int) < (e.cs.length : Int) := by omega
      (have F := And.intro @tmz (And.intro @eqz (And.intro @encSgn_u (And.intro @hs (And.intro @h1' @h2')))); refine gR ?_; clear F)
      (have F := @hf; refine gG ?_; exact gT)
    have h2' : ¬ ((2 : Int) < (e.cs.length : Int)) := by omega
    have cV := con_specVars hol (by omega)
    have hvo := okTms_vars hol
    have hvl := varsOf_len e.l
    have cWr := con_l13Within hor hvo (by omega) (by omega)
    (have F := And.intro @tmz (And.intro @eqz (And.intro @encSgn_u (And.intro @hs (And.intro @h1' @h2')))); refine gR ?_; clear F)
    (have F := And.intro @tmz (And.intro @eqz @encSgn_u); refine gG ?_; clear F)
    refine gB ?_
    (have F := And.intro @tmz (And.intro @eqz @encSgn_u); refine gC (cV) ?_; clear F)
    (have F := And.intro @tmz (And.intro @eqz @encSgn_u); refine gR ?_; clear F)
    by_cases h3 : (varsOf e.l).length ≤ 5
    rotate_left
    · have hf : eqnB g e = false := by simp [eqnB, h3]
      have h3' : (5 : Int) < ((varsOf e.l).length : Int) := by omega
      (have F := And.intro @tmz (And.intro @eqz (And.intro @encSgn_u (And.intro @h3' @hf))); refine gG ?_; exact gT)
    have h3' : ¬ ((5 : Int) < ((varsOf e.l).length : Int)) := by omega
    (have F := And.intro @tmz (And.intro @eqz (And.intro @encSgn_u @h3')); refine gG ?_; clear F)
    refine gB ?_
    (have F := And.intro @tmz (And.intro @eqz (And.intro @encSgn_u @h3')); refine gC (cWr) ?_; clear F)
    cases hW : withB (varsOf e.l) e.r with
    | false =>
      have hf : eqnB g e = false := by simp [eqnB, hW]
      (have F := And.intro @tmz (And.intro @eqz (And.intro @encSgn_u @h3')); refine gR ?_; clear F)
      (have F := @hf; refine gG ?_; exact gT)
    | true =>
      have ea : eqnB g e = e.cs.all (cndB g (varsOf e.l)) := by simp [eqnB, hP, h1, h2, h3, hW]
      rw [ea]
      (have F := And.intro @tmz (And.intro @eqz (And.intro @encSgn_u @h3')); refine gR ?_; clear F)
      (have F := And.intro @tmz (And.intro @eqz @encSgn_u); refine gG ?_; clear F)
      generalize varsOf e.l = vs at *
      (have F := @e0P; refine gL (ι := Nat) [4, 6, 7, 49, 77] [] (fun x => [(6, A.d (.one (.lit (.int .i64 x))))]) (fun x => []) (fun x => x ≤ e.cs.length ∧ (e.cs.take x).all (cndB g vs) = true) (fun x => e.cs.length - x) (0) (⟨Nat.zero_le _, rfl⟩) (fun x hx => ?_); clear F)
      obtain ⟨hxl, hall⟩ := hx
      by_cases hlt : x < e.cs.length
      rotate_left
      · have q1 : ¬ ((x : Int) < (e.cs.length : Int)) := by omega
        obtain rfl : x = e.cs.length := by omega
        rw [List.take_length] at hall
        (have F := And.intro @tmz (And.intro @eqz (And.intro @encSgn_u (And.intro @q1 @hall))); refine gG ?_; exact gT)
      have q1 : (x : Int) < (e.cs.length : Int) := by omega
      obtain ⟨c, hc⟩ : ∃ a, e.cs[x]? = some a := ⟨_, List.getElem?_eq_getElem hlt⟩
      have hm := List.mem_of_getElem? hc
      have hco := hoc c hm
      have hcb := bulk_cnd hm
      have hw1 := wrap1 (k := x) (by omega)
      have cPc := con_l13Pair hokg hg hco.1 hco.2 (by omega) (by omega)
      rw [encSgn] at cPc
      have cW1 := con_l13Within hco.1 hvo (by omega) (by omega)
      have cW2 := con_l13Within hco.2 hvo (by omega) (by omega)
      (have F := And.intro @tmz (And.intro @eqz (And.intro @encSgn_u (And.intro @q1 @hc))); refine gG ?_; clear F)
      refine gB ?_
      (have F := And.intro @tmz (And.intro @eqz (And.intro @encSgn_u @hc)); refine gC (cPc) ?_; clear F)
      cases hPc : pairB g c.1 c.2 with
      | false =>
        have hf : e.cs.all (cndB g vs) = false := all_false hm (by simp [cndB, hPc])
        (have F := And.intro @tmz (And.intro @eqz @encSgn_u); refine gR ?_; clear F)
        (have F := @hf; refine gG ?_; exact gT)
      | true =>
        (have F := And.intro @tmz (And.intro @eqz (And.intro @encSgn_u @hc)); refine gC (cW1) ?_; clear F)
        cases hW1 : withB vs c.1 with
        | false =>
          have hf : e.cs.all (cndB g vs) = false := all_false hm (by simp [cndB, hW1])
          (have F := And.intro @tmz (And.intro @eqz @encSgn_u); refine gR ?_; clear F)
          (have F := @hf; refine gG ?_; exact gT)
        | true =>
          (have F := And.intro @tmz (And.intro @eqz (And.intro @encSgn_u @hc)); refine gC (cW2) ?_; clear F)
          cases hW2 : withB vs c.2 with
          | false =>
            have hf : e.cs.all (cndB g vs) = false := all_false hm (by simp [cndB, hW2])
            (have F := And.intro @tmz (And.intro @eqz @encSgn_u); refine gR ?_; clear F)
            (have F := @hf; refine gG ?_; exact gT)
          | true =>
            have hq : x + 1 ≤ e.cs.length ∧ (e.cs.take (x + 1)).all (cndB g vs) = true := ⟨hlt, by rw [all_take_c hc, hall]; simp [cndB, hPc, hW1, hW2]⟩
            (have F := And.intro @tmz (And.intro @eqz @encSgn_u); refine gR ?_; clear F)
            (have F := And.intro @tmz (And.intro @eqz (And.intro @encSgn_u @hw1)); refine gG ?_; exact ⟨x + 1, hq, gw, gw, by omega⟩)

/-! The program's side. -/
theorem con_hasTerm1 (t a : Tm) : Con e0 129 [.agg (encTm a), .one (.ptr (encTm t))] [.one (.lit (.bool (decide (cmpTm t a = 0))))] := by
  refine gI 15 Tryz.func129 ?_
  (have F := @tmz; refine gG ?_; clear F)
  refine gB ?_
  (have F := @tmz; refine gC (con_implSame t a) ?_; clear F)
  (have F := @tmz; refine gR ?_; clear F)
  (have F := @tmz; refine gG ?_; exact gT)
theorem con_hasTerm (ts : List Tm) (t : Tm) (hl : ts.length ≤ big) : Con e0 84 [.one (.sl (encTms ts)), .agg (encTm t)] [.one (.lit (.bool (hasB ts t)))] := by
  have c := con_containsFunc (ts := ts) (f := 129) (caps := [.ptr (encTm t)]) (P := fun a => decide (cmpTm t a = 0)) hl fun a _ => con_hasTerm1 t a
  have eh : hasB ts t = ts.any fun a => decide (cmpTm t a = 0) := rfl
  rw [eh]
  refine gI 27 Tryz.func84 ?_
  (have F := @tmz; refine gG ?_; clear F)
  refine gB ?_
  (have F := @tmz; refine gC (c) ?_; clear F)
  (have F := @tmz; refine gR ?_; clear F)
  (have F := @tmz; refine gG ?_; exact gT)
end Go.Proofs.YtpbikjkjfojjiaaGreat

namespace Go.Proofs.YtpbikjkjfojjiaaGreat
open Go.RowKit

def flatC (cs : List (Tm × Tm)) : List Tm := cs.flatMap fun c => [c.1, c.2]
def AL (e : Eqn) (x : Nat) : List (List C) := encTms (e.r :: flatC (e.cs.take x))
def s6 (e : Eqn) : Nat → A
  | 0 => .d (.clip (AL e 0))
  | _ + 1 => .buf 6
def m6 (e : Eqn) : Nat → List (Nat × Bk)
  | 0 => []
  | x + 1 => [(6, .buf none 47 4 (AL e (x + 1)))]
theorem s6_0 (e : Eqn) : s6 e 0 = .d (.clip [encTm e.r]) := by simp [s6, AL, flatC, encTms]
theorem m6_0 (e : Eqn) : m6 e 0 = [] := rfl
theorem s6_s (e : Eqn) (x : Nat) : s6 e (x + 1) = .buf 6 := rfl
theorem m6_s (e : Eqn) (x : Nat) : m6 e (x + 1) = [(6, .buf none 47 4 (AL e (x + 1)))] := rfl
theorem s6_m6 (e : Eqn) (x : Nat) : (s6 e x = .d (.clip (AL e x)) ∧ m6 e x = []) ∨ (s6 e x = .buf 6 ∧ m6 e x = [(6, .buf none 47 4 (AL e x))]) := by
  cases x with
  | zero => exact .inl ⟨rfl, rfl⟩
  | succ x => exact .inr ⟨rfl, rfl⟩
theorem AL_rows (e : Eqn) (x : Nat) : rowsB 4 (AL e x) = true := rb_tm _
theorem flatC_len (cs : List (Tm × Tm)) : (flatC cs).length = 2 * cs.length := by
  induction cs with
  | nil => rfl
  | cons c cs ih => simp only [flatC, List.flatMap_cons, List.length_append, List.length_cons, List.length_nil] at ih ⊢; omega
theorem AL_len (e : Eqn) (x : Nat) : (AL e x).length ≤ 1 + 2 * e.cs.length := by
  rw [AL, encTms_len, List.length_cons, flatC_len, List.length_take]; omega
theorem AL_step {e : Eqn} {x : Nat} {c : Tm × Tm} (h : e.cs[x]? = some c) : AL e x ++ [encTm c.1, encTm c.2] = AL e (x + 1) := by
  have h1 : flatC (e.cs.take (x + 1)) = flatC (e.cs.take x) ++ [c.1, c.2] := by
    rw [List.take_add_one, h]; simp [flatC]
  rw [AL, AL, h1, ← List.cons_append, encTms_app]
  simp [encTms]
theorem cnd_all {g : Sgn} {vs : List Tm} : ∀ {cs : List (Tm × Tm)}, (cs.all fun c => pairB g c.1 c.2) = true → cs.all (cndB g vs) = (flatC cs).all (withB vs)
  | [], _ => rfl
  | c :: cs, h => by
    simp only [List.all_cons, Bool.and_eq_true] at h
    have ih := cnd_all (vs := vs) h.2
    rw [List.all_cons, ih, cndB, h.1, Bool.true_and]
    simp [flatC, List.all_cons, Bool.and_assoc]
theorem pair_l {g : Sgn} {l r : Tm} (h : pairB g l r = true) : isTerm g l = true := by simp only [pairB, Bool.and_eq_true] at h; exact h.1
theorem pair_r {g : Sgn} {l r : Tm} (h : pairB g l r = true) : isTerm g r = true := by simp only [pairB, Bool.and_eq_true] at h; exact h.2.1
theorem flat_term {g : Sgn} : ∀ {cs : List (Tm × Tm)}, (cs.all fun c => pairB g c.1 c.2) = true → ∀ t ∈ flatC cs, isTerm g t = true
  | [], _, t, ht => by simp [flatC] at ht
  | c :: cs, h, t, ht => by
    simp only [List.all_cons, Bool.and_eq_true] at h
    simp only [flatC, List.flatMap_cons, List.mem_append, List.mem_cons, List.not_mem_nil, or_false] at ht
    rcases ht with (rfl | rfl) | ht
    · exact pair_l h.1
    · exact pair_r h.1
    · exact flat_term h.2 t ht
theorem op_neg {g : Sgn} {t : Tm} (h : isTerm g t = true) : t.op < 0 ↔ t.op = -1 := by
  rcases (isTerm_iff.1 h).form.node with hn | ⟨o, d, hn⟩
  · have := hn.1; omega
  · have := hn.lo; omega
noncomputable def eqnR (g : Sgn) (e : Eqn) (vs : List Tm) : Bool := decide (vs.length ≤ 5) && (withB vs e.r && e.cs.all (cndB g vs))
section
variable {g : Sgn} {mc : C}
set_option maxHeartbeats 16000000 in
set_option maxRecDepth 100000 in
theorem con_algEqn (hg : SgnOk g) {e : Eqn} (he : okEqn e) (hb : bulkRow (encEqn e) ≤ 1048576) : Con e0 52 [.one (.ptr (encX g mc)), .agg (encEqn e)] [.one (.lit (.bool (eqnB g e)))] := by
  rw [bulk_eqn] at hb
  obtain ⟨hol, hor, hoc⟩ := he
  have cT := fun (t : Tm) (h : okTm t) (hb : bulkRow (encTm t) ≤ 1048576) => con_implIsT (mc := mc) hg h (big_of_bulk hb)
  have cK := fun (t : Tm) (h : isTerm g t = true) => con_kindOf (mc := mc) hg (isTerm_iff.1 h).form.node
  refine gI 334100219233902667600601412539771 Tryz.func52 ?_
  (have F := And.intro @tmz @eqz; refine gG ?_; clear F)
  refine gB ?_
  (have F := And.intro @tmz @eqz; refine gC (cT e.l hol (by omega)) ?_; clear F)
  cases hL : isTerm g e.l with
  | false =>
    have hf : eqnB g e = false := by simp [eqnB, pairB, hL]
    (have F := And.intro @tmz @eqz; refine gR ?_; clear F)
    (have F := @hf; refine gG ?_; exact gT)
  | true =>
  (have F := And.intro @tmz @eqz; refine gC (cT e.r hor (by omega)) ?_; clear F)
  cases hR : isTerm g e.r with
  | false =>
    have hf : eqnB g e = false := by simp [eqnB, pairB, hR]
    (have F := And.intro @tmz @eqz; refine gR ?_; clear F)
    (have F := @hf; refine gG ?_; exact gT)
  | true =>
  (have F := And.intro @tmz @eqz; refine gC (cK e.l hL) ?_; clear F)
  (have F := And.intro @tmz @eqz; refine gC (cK e.r hR) ?_; clear F)
  by_cases hk : kindTm g e.l = kindTm g e.r
  rotate_left
  · have hf : eqnB g e = false := by simp [eqnB, pairB, hk]
    have hk' : (kindTm g e.l = kindTm g e.r) = False := eq_false hk
    (have F := And.intro @tmz (And.intro @eqz @hk'); refine gR ?_; clear F)
    (have F := @hf; refine gG ?_; exact gT)
  have hk' : (kindTm g e.l = kindTm g e.r) = True := eq_true hk
  have hP : pairB g e.l e.r = true := by simp [pairB, hL, hR, hk]
  by_cases h1 : e.l.op = -1
  · have hf : eqnB g e = false := by simp [eqnB, h1]
    have h1' : (e.l.op < 0) = True := eq_true (by omega)
    (have F := And.intro @tmz (And.intro @eqz (And.intro @hk' @h1')); refine gR ?_; clear F)
    (have F := @hf; refine gG ?_; exact gT)
  have h1' : (e.l.op < 0) = False := eq_false fun h => h1 ((op_neg hL).1 h)
  by_cases h2 : e.cs.length ≤ 2
  rotate_left
  · have hf : eqnB g e = false := by simp [eqnB, h2]
    have h2' : ((2 : Int) < (e.cs.length : Int)) = True := eq_true (by omega)
    (have F := And.intro @tmz (And.intro @eqz (And.intro @hk' (And.intro @h1' @h2'))); refine gR ?_; clear F)
    (have F := @hf; refine gG ?_; exact gT)
  have h2' : ((2 : Int) < (e.cs.length : Int)) = False := eq_false (by omega)
  have ea : eqnB g e = eqnR g e (varsOf e.l) := by simp [eqnB, eqnR, hP, h1, h2]
  rw [ea]
  clear ea
  have cV := con_implVars e.l (term_bulk hL)
  have hvl := varsOf_len e.l
  (have F := And.intro @tmz (And.intro @eqz (And.intro @hk' (And.intro @h1' @h2'))); refine gR ?_; clear F)
  (have F := And.intro @tmz @eqz; refine gG ?_; clear F)
  refine gB ?_
  (have F := And.intro @tmz @eqz; refine gC (cV) ?_; clear F)
  (have F := And.intro @tmz @eqz; refine gR ?_; clear F)
  generalize varsOf e.l = vs at *
  have hvb : vs.length ≤ big := by unfold big; omega
  (have F := And.intro @tmz @eqz; refine gG ?_; clear F)
  have F := And.intro (s6_0 e) (m6_0 e)
  refine gL (ι := Nat) [4, 6, 8, 57, 58, 83] [6] (fun x => [(57, A.d (.one (.lit (.int .i64 x)))), (6, s6 e x)]) (fun x => m6 e x) (fun x => x ≤ e.cs.length ∧ ((e.cs.take x).all fun c => pairB g c.1 c.2) = true) (fun x => e.cs.length - x) 0 ⟨Nat.zero_le _, rfl⟩ (fun x hx => ?_) (hmm := fun x => rfl)
  clear F
  obtain ⟨hxl, hall⟩ := hx
  rcases s6_m6 e x with ⟨es, em⟩ | ⟨es, em⟩
  all_goals (
    simp only [es, em, List.nil_append, List.cons_append]
    clear es em
    by_cases hlt : x < e.cs.length
    · have q1 : (x : Int) < (e.cs.length : Int) := by omega
      obtain ⟨c, hc⟩ : ∃ a, e.cs[x]? = some a := ⟨_, List.getElem?_eq_getElem hlt⟩
      have hm := List.mem_of_getElem? hc
      have hco := hoc c hm
      have hcb := bulk_cnd hm
      have hw1 := wrap1 (k := x) (by omega)
      have hst := AL_step hc
      have hrb := AL_rows e x
      have hal := AL_len e x
      have hmx : (AL e x).length + 2 ≤ maxApp := by unfold maxApp; omega
      have es1 := s6_s e x
      have em1 := m6_s e x
      have hcf : pairB g c.1 c.2 = false → eqnR g e vs = false := fun h => by
        have : e.cs.all (cndB g vs) = false := all_false hm (by simp [cndB, h])
        simp [eqnR, this]
      (have F := And.intro @tmz (And.intro @eqz (And.intro @q1 @hc)); refine gG ?_; clear F)
      refine gB ?_
      (have F := And.intro @tmz @eqz; refine gC (cT c.1 hco.1 (by omega)) ?_; clear F)
      cases hL1 : isTerm g c.1 with
      | false =>
        have hf := hcf (by simp [pairB, hL1])
        (have F := And.intro @tmz @eqz; refine gR ?_; clear F)
        (have F := @hf; refine gG ?_; exact gT)
      | true =>
      (have F := And.intro @tmz @eqz; refine gC (cT c.2 hco.2 (by omega)) ?_; clear F)
      cases hR1 : isTerm g c.2 with
      | false =>
        have hf := hcf (by simp [pairB, hR1])
        (have F := And.intro @tmz @eqz; refine gR ?_; clear F)
        (have F := @hf; refine gG ?_; exact gT)
      | true =>
      (have F := And.intro @tmz @eqz; refine gC (cK c.1 hL1) ?_; clear F)
      (have F := And.intro @tmz @eqz; refine gC (cK c.2 hR1) ?_; clear F)
      by_cases hk1 : kindTm g c.1 = kindTm g c.2
      rotate_left
      · have hf := hcf (by simp [pairB, hk1])
        have hk1' : (kindTm g c.1 = kindTm g c.2) = False := eq_false hk1
        (have F := And.intro @tmz (And.intro @eqz @hk1'); refine gR ?_; clear F)
        (have F := @hf; refine gG ?_; exact gT)
      have hk1' : (kindTm g c.1 = kindTm g c.2) = True := eq_true hk1
      have hPc : pairB g c.1 c.2 = true := by simp [pairB, hL1, hR1, hk1]
      have hq : x + 1 ≤ e.cs.length ∧ ((e.cs.take (x + 1)).all fun c => pairB g c.1 c.2) = true := ⟨hlt, by rw [all_take_c hc, hall, hPc]; rfl⟩
      (have F := And.intro @tmz (And.intro @eqz @hk1'); refine gR ?_; clear F)
      (have F := And.intro @tmz (And.intro @eqz (And.intro @hw1 (And.intro @hst (And.intro @hrb (And.intro @hmx (And.intro @es1 @em1)))))); refine gG ?_; exact ⟨x + 1, hq, gw, gw, by omega⟩)
    obtain rfl : x = e.cs.length := by omega
    have q1 : ¬ ((e.cs.length : Int) < (e.cs.length : Int)) := by omega
    rw [List.take_length] at hall
    have eA : AL e e.cs.length = encTms (e.r :: flatC e.cs) := by rw [AL, List.take_length]
    rw [eA]
    have er : eqnR g e vs = (decide (vs.length ≤ 5) && (e.r :: flatC e.cs).all (withB vs)) := by rw [eqnR, cnd_all hall, List.all_cons]
    rw [er]
    have hall2 : ∀ t ∈ e.r :: flatC e.cs, isTerm g t = true := fun t ht => by
      rcases List.mem_cons.1 ht with rfl | ht
      · exact hR
      · exact flat_term hall t ht
    have hsl : (e.r :: flatC e.cs).length ≤ 5 := by rw [List.length_cons, flatC_len]; omega
    generalize e.r :: flatC e.cs = all at *
    (have F := And.intro @tmz (And.intro @eqz @q1); refine gG ?_; clear F)
    (have F := @e0P; refine gL (ι := Nat) [4, 10, 12, 94, 95, 99, 100, 101, 102, 108] [] (fun y => [(94, A.d (.one (.lit (.int .i64 y))))]) (fun y => []) (fun y => y ≤ all.length ∧ (all.take y).all (withB vs) = true) (fun y => all.length - y) (0) (⟨Nat.zero_le _, rfl⟩) (fun y hy => ?_); clear F)
    obtain ⟨hyl, hally⟩ := hy
    by_cases hlt2 : y < all.length
    rotate_left
    · have q2 : ¬ ((y : Int) < (all.length : Int)) := by omega
      obtain rfl : y = all.length := by omega
      rw [List.take_length] at hally
      have e5 : decide ((vs.length : Int) ≤ 5) = decide (vs.length ≤ 5) := by rw [decide_eq_decide]; omega
      (have F := And.intro @tmz (And.intro @q2 (And.intro @hally @e5)); refine gG ?_; exact gT)
    have q2 : (y : Int) < (all.length : Int) := by omega
    obtain ⟨t, ht⟩ : ∃ a, all[y]? = some a := ⟨_, List.getElem?_eq_getElem hlt2⟩
    have hw2 := wrap1 (k := y) (by omega)
    have hmt := List.mem_of_getElem? ht
    have cVt := con_implVars t (term_bulk (hall2 t hmt))
    have hus := varsOf_len t
    have hub := term_bulk (hall2 t hmt)
    have eW : withB vs t = (varsOf t).all (hasB vs) := rfl
    (have F := And.intro @tmz (And.intro @q2 (And.intro @hlt2 @ht)); refine gG ?_; clear F)
    refine gB ?_
    (have F := And.intro @tmz (And.intro @hlt2 @ht); refine gC (cVt) ?_; clear F)
    (have F := @tmz; refine gR ?_; clear F)
    (have F := @tmz; refine gG ?_; clear F)
    generalize varsOf t = us at *
    (have F := @e0P; refine gL (ι := Nat) [4, 12, 101, 102, 108] [] (fun z => [(101, A.d (.one (.lit (.int .i64 z))))]) (fun z => []) (fun z => z ≤ us.length ∧ (us.take z).all (hasB vs) = true) (fun z => us.length - z) (0) (⟨Nat.zero_le _, rfl⟩) (fun z hz => ?_); clear F)
    obtain ⟨hzl, hallz⟩ := hz
    by_cases hlt3 : z < us.length
    rotate_left
    · have q3 : ¬ ((z : Int) < (us.length : Int)) := by omega
      obtain rfl : z = us.length := by omega
      rw [List.take_length] at hallz
      have hq : y + 1 ≤ all.length ∧ (all.take (y + 1)).all (withB vs) = true := ⟨hlt2, by rw [all_take_c ht, hally, eW, hallz]; rfl⟩
      (have F := And.intro @tmz (And.intro @q3 @hw2); refine gG ?_; exact ⟨y + 1, hq, gw, gw, by omega⟩)
    have q3 : (z : Int) < (us.length : Int) := by omega
    obtain ⟨v, hv⟩ : ∃ a, us[z]? = some a := ⟨_, List.getElem?_eq_getElem hlt3⟩
    have hw3 := wrap1 (k := z) (by omega)
    (have F := And.intro @tmz (And.intro @q3 @hv); refine gG ?_; clear F)
    refine gB ?_
    (have F := @tmz; refine gC (con_hasTerm vs v hvb) ?_; clear F)
    cases hh : hasB vs v with
    | false =>
      have hf : all.all (withB vs) = false := all_false hmt (by rw [eW]; exact all_false (List.mem_of_getElem? hv) hh)
      (have F := @tmz; refine gR ?_; clear F)
      (have F := @hf; refine gG ?_; exact gT)
    | true =>
      have hq : z + 1 ≤ us.length ∧ (us.take (z + 1)).all (hasB vs) = true := ⟨hlt3, by rw [all_take_c hv, hallz, hh]; rfl⟩
      (have F := @tmz; refine gR ?_; clear F)
      (have F := And.intro @tmz @hw3; refine gG ?_; exact ⟨z + 1, hq, gw, gw, by omega⟩))
end
set_option maxHeartbeats 8000000 in
set_option maxRecDepth 100000 in
theorem con_implEqn {g : Sgn} {e : Eqn} (hok : okSgn g) (he : okEqn e) (hb : bulkRow (encEqn e) ≤ 1048576) : Con e0 14 [.agg (encSgn g), .agg (encEqn e)] [.one (.lit (.bool (isEqn g e)))] := by
  by_cases hg : SgnOk g
  rotate_left
  · have hf : isEqn g e = false := by simp [isEqn, isSgn_false hg]
    have c := con_newAlg_not hok hg
    rw [encSgn] at c
    refine gI 127 Tryz.func14 ?_
    (have F := And.intro @tmz (And.intro @eqz @encSgn_u); refine gG ?_; clear F)
    refine gB ?_
    (have F := @tmz; refine gC (c) ?_; clear F)
    (have F := @tmz; refine gR ?_; clear F)
    (have F := And.intro @tmz @hf; refine gG ?_; exact gT)
  have hs := isSgn_true hg
  have ei : isEqn g e = eqnB g e := by simp [isEqn, hs]
  rw [ei]
  have c := conE_newAlg hok hg
  rw [encSgn] at c
  refine gI 127 Tryz.func14 ?_
  (have F := And.intro @tmz (And.intro @eqz @encSgn_u); refine gG ?_; clear F)
  refine gB ?_
  (have F := @tmz; refine gCE (c) ?_; clear F)
  rintro r ⟨b, rfl⟩
  have c1 := con_algEqn (mc := .lit (.map (some b))) hg he hb
  generalize C.lit (.map (some b)) = mc at c1 ⊢
  (have F := And.intro @retA_u @sa_some; refine gR ?_; clear F)
  (have F := And.intro @tmz @eqz; refine gG ?_; clear F)
  refine gB ?_
  (have F := And.intro @tmz @eqz; refine gC (c1) ?_; clear F)
  (have F := @tmz; refine gR ?_; clear F)
  (have F := @tmz; refine gG ?_; exact gT)
end Go.Proofs.YtpbikjkjfojjiaaGreat

namespace Go.Proofs.YtpbikjkjfojjiaaGreat
open Go.RowKit

theorem con_szSignature {row : List C} (hok : okRow (sigF) row) {left : Int} (h0 : 0 ≤ left) (h1 : left ≤ 1048576) : Con e0 9 [.agg row, .one (.lit (.int .i64 left))] [.one (.lit (.int .i64 (sub left (bulkRow row))))] := by
  refine con_below e0_ok (by kernel_rfl) fun w S vs h => ?_
  match vs, h with
  | [v, u], h =>
    obtain ⟨⟨us, rfl, hu⟩, h2, _⟩ := h
    have h2 : u = .int .i64 left := by simpa [DRel, Rep] using h2
    subst h2
    exact (szSignature_any row S us left w hok hu h0 h1).mono fun e w' ⟨h1, h2⟩ => ⟨_, h1, h2, by simp [retA, ARel, DRel, Rep]⟩
theorem con_toSignature {row : List C} (hok : okRow (sigF) row) (hb : bulkRow row ≤ 1048576) : Con e0 12 [.agg row] [.agg row] := by
  refine con_below e0_ok (by kernel_rfl) fun w S vs h => ?_
  match vs, h with
  | [v], h =>
    obtain ⟨⟨us, rfl, hu⟩, _⟩ := h
    exact (toSignature_any row S us w hok hu hb).mono fun e w' ⟨us', h1, h2, h3⟩ => ⟨_, h1, h3, us', rfl, OwnVals.rep row _ _ us' (fun x hx => .inr hx) h2⟩
theorem con_eqSignature {row : List C} (hok : okRow (sigF) row) : Con e0 15 [.agg row, .agg row] [.one (.lit (.bool true))] := by
  refine con_below e0_ok (by kernel_rfl) fun w S vs h => ?_
  match vs, h with
  | [v, u], h =>
    obtain ⟨⟨us, rfl, hu⟩, ⟨us', rfl, hu'⟩, _⟩ := h
    exact (eqSignature_any row S S us us' w hok hu hu').mono fun e w' ⟨h1, h2⟩ => ⟨_, h1, h2, by simp [retA, ARel, DRel, Rep]⟩
end Go.Proofs.YtpbikjkjfojjiaaGreat

namespace Go.Proofs.YtpbikjkjfojjiaaGreat
open Go.RowKit

theorem con_szEquation {row : List C} (hok : okRow (fieldsOf .eqn) row) {left : Int} (h0 : 0 ≤ left) (h1 : left ≤ 1048576) : Con e0 10 [.agg row, .one (.lit (.int .i64 left))] [.one (.lit (.int .i64 (sub left (bulkRow row))))] := by
  refine con_below e0_ok (by kernel_rfl) fun w S vs h => ?_
  match vs, h with
  | [v, u], h =>
    obtain ⟨⟨us, rfl, hu⟩, h2, _⟩ := h
    have h2 : u = .int .i64 left := by simpa [DRel, Rep] using h2
    subst h2
    exact (szEquation_any row S us left w hok hu h0 h1).mono fun e w' ⟨h1, h2⟩ => ⟨_, h1, h2, by simp [retA, ARel, DRel, Rep]⟩
theorem con_toEquation {row : List C} (hok : okRow (fieldsOf .eqn) row) (hb : bulkRow row ≤ 1048576) : Con e0 13 [.agg row] [.agg row] := by
  refine con_below e0_ok (by kernel_rfl) fun w S vs h => ?_
  match vs, h with
  | [v], h =>
    obtain ⟨⟨us, rfl, hu⟩, _⟩ := h
    exact (toEquation_any row S us w hok hu hb).mono fun e w' ⟨us', h1, h2, h3⟩ => ⟨_, h1, h3, us', rfl, OwnVals.rep row _ _ us' (fun x hx => .inr hx) h2⟩
theorem con_eqEquation {row : List C} (hok : okRow (fieldsOf .eqn) row) : Con e0 16 [.agg row, .agg row] [.one (.lit (.bool true))] := by
  refine con_below e0_ok (by kernel_rfl) fun w S vs h => ?_
  match vs, h with
  | [v, u], h =>
    obtain ⟨⟨us, rfl, hu⟩, ⟨us', rfl, hu'⟩, _⟩ := h
    exact (eqEquation_any row S S us us' w hok hu hu').mono fun e w' ⟨h1, h2⟩ => ⟨_, h1, h2, by simp [retA, ARel, DRel, Rep]⟩
end Go.Proofs.YtpbikjkjfojjiaaGreat

namespace Go.Proofs.YtpbikjkjfojjiaaGreat
open Go.RowKit
set_option maxHeartbeats 40000000 in
set_option maxRecDepth 100000 in
theorem con_lawIsEquation {row0 : List C} (hok0 : okRow (sigF) row0) {row1 : List C} (hok1 : okRow (fieldsOf .eqn) row1) {R0 : Bool} (hsp0 : bulkRow row0 ≤ 1048576 → bulkRow row1 ≤ 1048576 → Con e0 11 [.agg row0, .agg row1] [.one (.lit (.bool R0))]) (him0 : bulkRow row0 ≤ 1048576 → bulkRow row1 ≤ 1048576 → Con e0 14 [.agg row0, .agg row1] [.one (.lit (.bool R0))]) : Con e0 3 [.agg row0, .agg row1] [.one (.lit (.bool true))] := by
  have okc0 := hok0.cells
  obtain ⟨len0, tk0, dr0⟩ := hok0.take (n := 3) rfl
  have okc1 := hok1.cells
  obtain ⟨len1, tk1, dr1⟩ := hok1.take (n := 9) rfl
  refine gI 18159122269183 Tryz.func3 ?_
  (have F := And.intro @okc0 (And.intro @len0 (And.intro @tk0 (And.intro @dr0 (And.intro @okc1 (And.intro @len1 (And.intro @tk1 (And.intro @dr1 @drop0))))))); refine gG ?_; clear F)
  have hL0_0 : (0 : Int) ≤ 1048576 := by omega
  have hL0_1 : (1048576 : Int) ≤ 1048576 := by omega
  refine gB ?_
  (have F := And.intro @okc0 (And.intro @len0 (And.intro @tk0 (And.intro @dr0 (And.intro @okc1 (And.intro @len1 (And.intro @tk1 (And.intro @dr1 @drop0))))))); refine gC (con_szSignature hok0 hL0_0 hL0_1) ?_; clear F)
  (have F := And.intro @okc0 (And.intro @len0 (And.intro @tk0 (And.intro @dr0 (And.intro @okc1 (And.intro @len1 (And.intro @tk1 (And.intro @dr1 @drop0))))))); refine gR ?_; clear F)
  by_cases hb0 : ((bulkRow row0) : Int) ≤ 1048576
  rotate_left
  · have n1 : sub 1048576 (bulkRow row0) = -1 := sub_neg (by omega)
    have n2 : (-1 : Int) < 0 := by omega
    (have F := And.intro @n1 @n2; refine gG ?_; exact gT)
  have n0 : sub 1048576 (bulkRow row0) = 1048576 - ((bulkRow row0) : Nat) := sub_pos (by omega)
  rw [n0]
  clear n0
  have hB0 : bulkRow row0 ≤ 1048576 := by omega
  have hL1_0 : (0 : Int) ≤ 1048576 - ((bulkRow row0) : Nat) := by omega
  have hL1_1 : (1048576 : Int) - ((bulkRow row0) : Nat) ≤ 1048576 := by omega
  generalize hgl0 : (1048576 : Int) - ((bulkRow row0) : Nat) = L1 at *
  clear hgl0
  have n2 : ¬ (L1 < 0) := by omega
  (have F := And.intro @n2 (And.intro @okc0 (And.intro @len0 (And.intro @tk0 (And.intro @dr0 (And.intro @okc1 (And.intro @len1 (And.intro @tk1 (And.intro @dr1 @drop0)))))))); refine gG ?_; clear F)
  clear n2 hb0
  refine gB ?_
  (have F := And.intro @okc0 (And.intro @len0 (And.intro @tk0 (And.intro @dr0 (And.intro @okc1 (And.intro @len1 (And.intro @tk1 (And.intro @dr1 @drop0))))))); refine gC (con_szEquation hok1 hL1_0 hL1_1) ?_; clear F)
  (have F := And.intro @okc0 (And.intro @len0 (And.intro @tk0 (And.intro @dr0 (And.intro @okc1 (And.intro @len1 (And.intro @tk1 (And.intro @dr1 @drop0))))))); refine gR ?_; clear F)
  by_cases hb1 : ((bulkRow row1) : Int) ≤ L1
  rotate_left
  · have n1 : sub L1 (bulkRow row1) = -1 := sub_neg (by omega)
    have n2 : (-1 : Int) < 0 := by omega
    (have F := And.intro @n1 @n2; refine gG ?_; exact gT)
  have n1 : sub L1 (bulkRow row1) = L1 - ((bulkRow row1) : Nat) := sub_pos (by omega)
  rw [n1]
  clear n1
  have hB1 : bulkRow row1 ≤ 1048576 := by omega
  have hL2_0 : (0 : Int) ≤ L1 - ((bulkRow row1) : Nat) := by omega
  have hL2_1 : (L1 : Int) - ((bulkRow row1) : Nat) ≤ 1048576 := by omega
  generalize hgl1 : (L1 : Int) - ((bulkRow row1) : Nat) = L2 at *
  clear hgl1
  have n2 : ¬ (L2 < 0) := by omega
  (have F := And.intro @n2 (And.intro @okc0 (And.intro @len0 (And.intro @tk0 (And.intro @dr0 (And.intro @okc1 (And.intro @len1 (And.intro @tk1 (And.intro @dr1 @drop0)))))))); refine gG ?_; clear F)
  clear n2 hb1
  have hsp := hsp0 hB0 hB1
  have him := him0 hB0 hB1
  have cT0 := con_toSignature hok0 hB0
  have cT1 := con_toEquation hok1 hB1
  refine gB ?_
  (have F := And.intro @okc0 (And.intro @len0 (And.intro @tk0 (And.intro @dr0 (And.intro @okc1 (And.intro @len1 (And.intro @tk1 (And.intro @dr1 @drop0))))))); refine gC (cT0) ?_; clear F)
  (have F := And.intro @okc0 (And.intro @len0 (And.intro @tk0 (And.intro @dr0 (And.intro @okc1 (And.intro @len1 (And.intro @tk1 (And.intro @dr1 @drop0))))))); refine gC (cT1) ?_; clear F)
  (have F := And.intro @okc0 (And.intro @len0 (And.intro @tk0 (And.intro @dr0 (And.intro @okc1 (And.intro @len1 (And.intro @tk1 (And.intro @dr1 @drop0))))))); refine gC (hsp) ?_; clear F)
  (have F := And.intro @okc0 (And.intro @len0 (And.intro @tk0 (And.intro @dr0 (And.intro @okc1 (And.intro @len1 (And.intro @tk1 (And.intro @dr1 @drop0))))))); refine gR ?_; clear F)
  (have F := And.intro @okc0 (And.intro @len0 (And.intro @tk0 (And.intro @dr0 (And.intro @okc1 (And.intro @len1 (And.intro @tk1 (And.intro @dr1 @drop0))))))); refine gG ?_; clear F)
  refine gB ?_
  (have F := And.intro @okc0 (And.intro @len0 (And.intro @tk0 (And.intro @dr0 (And.intro @okc1 (And.intro @len1 (And.intro @tk1 (And.intro @dr1 @drop0))))))); refine gC (cT0) ?_; clear F)
  (have F := And.intro @okc0 (And.intro @len0 (And.intro @tk0 (And.intro @dr0 (And.intro @okc1 (And.intro @len1 (And.intro @tk1 (And.intro @dr1 @drop0))))))); refine gR ?_; clear F)
  (have F := And.intro @okc0 (And.intro @len0 (And.intro @tk0 (And.intro @dr0 (And.intro @okc1 (And.intro @len1 (And.intro @tk1 (And.intro @dr1 @drop0))))))); refine gG ?_; clear F)
  refine gB ?_
  (have F := And.intro @okc0 (And.intro @len0 (And.intro @tk0 (And.intro @dr0 (And.intro @okc1 (And.intro @len1 (And.intro @tk1 (And.intro @dr1 @drop0))))))); refine gC (cT1) ?_; clear F)
  (have F := And.intro @okc0 (And.intro @len0 (And.intro @tk0 (And.intro @dr0 (And.intro @okc1 (And.intro @len1 (And.intro @tk1 (And.intro @dr1 @drop0))))))); refine gR ?_; clear F)
  (have F := And.intro @okc0 (And.intro @len0 (And.intro @tk0 (And.intro @dr0 (And.intro @okc1 (And.intro @len1 (And.intro @tk1 (And.intro @dr1 @drop0))))))); refine gG ?_; clear F)
  refine gB ?_
  (have F := And.intro @okc0 (And.intro @len0 (And.intro @tk0 (And.intro @dr0 (And.intro @okc1 (And.intro @len1 (And.intro @tk1 (And.intro @dr1 @drop0))))))); refine gC (him) ?_; clear F)
  (have F := And.intro @okc0 (And.intro @len0 (And.intro @tk0 (And.intro @dr0 (And.intro @okc1 (And.intro @len1 (And.intro @tk1 (And.intro @dr1 @drop0))))))); refine gR ?_; clear F)
  (have F := And.intro @okc0 (And.intro @len0 (And.intro @tk0 (And.intro @dr0 (And.intro @okc1 (And.intro @len1 (And.intro @tk1 (And.intro @dr1 (And.intro @drop0 @beq_self_eq_true.{0})))))))); refine gG ?_; clear F)
  refine gB ?_
  (have F := And.intro @okc0 (And.intro @len0 (And.intro @tk0 (And.intro @dr0 (And.intro @okc1 (And.intro @len1 (And.intro @tk1 (And.intro @dr1 @drop0))))))); refine gC (cT0) ?_; clear F)
  (have F := And.intro @okc0 (And.intro @len0 (And.intro @tk0 (And.intro @dr0 (And.intro @okc1 (And.intro @len1 (And.intro @tk1 (And.intro @dr1 @drop0))))))); refine gC (con_eqSignature hok0) ?_; clear F)
  (have F := And.intro @okc0 (And.intro @len0 (And.intro @tk0 (And.intro @dr0 (And.intro @okc1 (And.intro @len1 (And.intro @tk1 (And.intro @dr1 @drop0))))))); refine gR ?_; clear F)
  (have F := And.intro @okc0 (And.intro @len0 (And.intro @tk0 (And.intro @dr0 (And.intro @okc1 (And.intro @len1 (And.intro @tk1 (And.intro @dr1 @drop0))))))); refine gG ?_; clear F)
  refine gB ?_
  (have F := And.intro @okc0 (And.intro @len0 (And.intro @tk0 (And.intro @dr0 (And.intro @okc1 (And.intro @len1 (And.intro @tk1 (And.intro @dr1 @drop0))))))); refine gC (cT1) ?_; clear F)
  (have F := And.intro @okc0 (And.intro @len0 (And.intro @tk0 (And.intro @dr0 (And.intro @okc1 (And.intro @len1 (And.intro @tk1 (And.intro @dr1 @drop0))))))); refine gC (con_eqEquation hok1) ?_; clear F)
  (have F := And.intro @okc0 (And.intro @len0 (And.intro @tk0 (And.intro @dr0 (And.intro @okc1 (And.intro @len1 (And.intro @tk1 (And.intro @dr1 @drop0))))))); refine gR ?_; clear F)
  (have F := And.intro @okc0 (And.intro @len0 (And.intro @tk0 (And.intro @dr0 (And.intro @okc1 (And.intro @len1 (And.intro @tk1 (And.intro @dr1 @drop0))))))); refine gG ?_; exact gT)
theorem lawExactIsEquation (w : World) (row0 : List C) (S0 : Nat → Prop) (us0 : List Value) (hok0 : okRow (sigF) row0) (hv0 : RepVals w S0 row0 us0) (row1 : List C) (S1 : Nat → Prop) (us1 : List Value) (hok1 : okRow (fieldsOf .eqn) row1) (hv1 : RepVals w S1 row1 us1) :
    Calls Tryz.prog 3 #[.agg us0.toArray, .agg us1.toArray] w fun e w' => e = .returned (.bool true) ∧ Below w.heap.size w w' := by
  obtain ⟨g, rfl, k0⟩ := decSgn hok0
  obtain ⟨e, rfl, k1⟩ := decEqn hok1
  have hc := (con_lawIsEquation hok0 hok1 (fun b0 b1 => con_specEqn k0 k1 b1) (fun b0 b1 => con_implEqn k0 k1 b1)).2 w (fun b => b < w.heap.size) [.agg us0.toArray, .agg us1.toArray] (fun b hb => ⟨hb, id⟩) (fun b hb => hb.elim) trivial
    ⟨⟨us0, rfl, hv0.inside'⟩, ⟨us1, rfl, hv1.inside'⟩, trivial⟩
  refine hc.mono fun e w' ⟨v, h1, h2, _, h4⟩ => ⟨?_, h2.below⟩
  have h4 : v = .bool true := by simpa [retA, ARel, DRel, Rep] using h4
  rw [h1, h4]
end Go.Proofs.YtpbikjkjfojjiaaGreat

namespace Go.Proofs.YtpbikjkjfojjiaaGreat
open Go.ChangeShapes Go.WideShapes Go.ChangeAt Go.RowKit Go.Deep

set_option maxRecDepth 100000 in
theorem isEquation_holds_lifted (os : Os) (started : os.Started) (H : Type) (enc : TypeId × Value → H) :
    ReturnsInHanded {} Tryz.checked os 3 .any (Rows.fnExactIsEquationSpec.pre6 enc Tryz.prog Tryz.f3 Rows.fnExactIsEquationRow.domain false) (Rows.fnExactIsEquationSpec.post enc Tryz.prog Tryz.f3 false true false false) := by
  refine returnsInHanded_of_change (C := Tryz.checked) own started (by kernel_rfl) Tryz.func3
    (ChangeSpec.witness6 (enc := enc) (C := Tryz.checked) false ⟨#[], #[.agg #[.slice none 0 0, .slice none 0 0, .slice none 0 0], .agg #[.int .i64 0, .string .empty, .int .i64 0, .slice none 0 0, .int .i64 0, .string .empty, .int .i64 0, .slice none 0 0, .slice none 0 0]], []⟩ 8 (by kernel_rfl) (by kernel_rfl) (by kernel_rfl) (by kernel_rfl)) ?_
  intro W base args ds gs before hval0 hW _ _
  have hval : ∀ (j : Nat) t v, Tryz.f3.params[j]? = some t → args[j]? = some v → Value.okWide Tryz.prog W .any base t v := hval0
  have hW' := hW
  obtain ⟨p, q, hA0, hV, rfl, _, _⟩ := hW
  have hA : DataW.TrodAll enc Tryz.prog W 0 (fun _ => true) true Tryz.f3.params.toList args.toList ds p := hA0
  rw [Tryz.params3] at hA hval
  obtain ⟨v0, vs0, d0, ds0, p0, q0, hargs0, hd0, hp0, h0, r0⟩ := trodAll_cons hA
  obtain ⟨v1, vs1, d1, ds1, p1, q1, hargs1, hd1, hp1, h1, r1⟩ := trodAll_cons r0
  obtain ⟨e2, e2d, _⟩ := trodAll_nil r1
  rw [e2] at hargs1
  rw [hargs1] at hargs0
  obtain rfl : args = #[v0, v1] := by cases args; simp_all
  rw [e2d] at hd1
  rw [hd1] at hd0
  subst hd0
  obtain ⟨rfl, rfl⟩ := trodVars_none hV
  obtain ⟨cs0, rfl, _⟩ := okWide_struct Tryz.underlying28 (hval 0 28 v0 rfl rfl)
  obtain ⟨fuel0, hf0⟩ := h0
  obtain ⟨row0, hok0, hrep0⟩ := open_row seatTR fuel0 _ _ _ _ ty_Signature hf0
  have e0c : (Value.agg cs0).cells.toList.toArray = cs0 := by simp [Value.cells]
  obtain ⟨cs1, rfl, _⟩ := okWide_struct Tryz.underlying34 (hval 1 34 v1 rfl rfl)
  obtain ⟨fuel1, hf1⟩ := h1
  obtain ⟨row1, hok1, hrep1⟩ := open_row seatTR fuel1 _ _ _ _ ty_Equation hf1
  have e1c : (Value.agg cs1).cells.toList.toArray = cs1 := by simp [Value.cells]
  have hlaw := lawExactIsEquation W row0 _ _ hok0 hrep0 row1 _ _ hok1 hrep1
  rw [e0c, e1c] at hlaw
  refine hlaw.mono fun e W' ⟨he, hb⟩ => ?_
  subst he
  exact ⟨_, rfl, law_post laidOut rfl rfl Tryz.underlying4 (by rw [Tryz.params3]; decide +kernel) hW' rfl hb⟩

theorem isEquation_holds : Rows.FnExactIsEquationSaid :=
  OpenClaim.holds_of_wide 3 Tryz.f3 rfl rfl rfl rfl rfl rfl rfl ⟨rfl, rfl, rfl, rfl, rfl⟩ rfl rfl rfl rfl rfl (by kernel_rfl) Tryz.func3 (by kernel_rfl)
    (of_decide_eq_true (by kernel_rfl)) (by unfold Func.isWrapper; rw [if_neg (of_decide_eq_false (by kernel_rfl))]; exact ⟨rfl, rfl⟩)
    (fun os started H enc _ => isEquation_holds_lifted os started H enc)
#print axioms isEquation_holds
end Go.Proofs.YtpbikjkjfojjiaaGreat

