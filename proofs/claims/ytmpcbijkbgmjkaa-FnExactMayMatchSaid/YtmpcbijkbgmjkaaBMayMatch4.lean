/-
  Part 4 of a proof: Ti, Tj, Ma, Mb.
-/
import Derived.Test.YtmpcbijkbgmjkaaBMayMatch0
import Derived.Test.YtmpcbijkbgmjkaaBMayMatch1
import Derived.Test.YtmpcbijkbgmjkaaBMayMatch2
import Derived.Test.YtmpcbijkbgmjkaaBMayMatch3
set_option linter.unusedSimpArgs false
set_option linter.unusedVariables false
namespace Go.Proofs.Ytmpcbijkbgmjkaa
open Go.RowKit

mutual
def leftTm : Tm → Int → Int
  | .mk _ _ _ args, l => leftTms args (l - 1)
def leftTms : List Tm → Int → Int
  | [], l => l
  | t :: ts, l => if 0 ≤ l then leftTms ts (leftTm t l) else l
end
mutual
theorem leftTm_spec : ∀ (t : Tm) (l : Int), 0 ≤ l → (-1 ≤ leftTm t l ∧ leftTm t l ≤ l ∧ ((sizeTm t : Int) ≤ l → leftTm t l = l - sizeTm t) ∧ (l < sizeTm t → leftTm t l < 0))
  | .mk _ _ _ args, l, hl => by
    have := leftTms_spec args (l - 1) (by omega)
    simp only [leftTm, sizeTm]
    refine ⟨this.1, by omega, fun h => ?_, fun h => ?_⟩
    · have := this.2.2.1 (by omega); omega
    · by_cases h1 : 0 ≤ l - 1
      · exact this.2.2.2 (by omega)
      · have h2 := this.2.1; omega
theorem leftTms_spec : ∀ (ts : List Tm) (l : Int), -1 ≤ l → (-1 ≤ leftTms ts l ∧ leftTms ts l ≤ l ∧ ((sizeTms ts : Int) ≤ l → leftTms ts l = l - sizeTms ts) ∧ (l < sizeTms ts → leftTms ts l < 0))
  | [], l, hl => by simp only [leftTms, sizeTms]; omega
  | t :: ts, l, hl => by
    simp only [leftTms, sizeTms]
    by_cases h0 : 0 ≤ l
    · rw [if_pos h0]
      have h1 := leftTm_spec t l h0
      have h2 := leftTms_spec ts (leftTm t l) h1.1
      refine ⟨h2.1, by omega, fun h => ?_, fun h => ?_⟩
      · have e1 := h1.2.2.1 (by omega)
        have e2 := h2.2.2.1 (by omega)
        omega
      · by_cases h3 : (sizeTm t : Int) ≤ l
        · have e1 := h1.2.2.1 h3
          exact h2.2.2.2 (by omega)
        · have e1 := h1.2.2.2 (by omega)
          omega
    · rw [if_neg h0]
      have := sizeTms_len ts
      refine ⟨hl, Int.le_refl _, fun h => by omega, fun h => by omega⟩
end
theorem leftTms_neg {ts : List Tm} {l : Int} (h : ¬ 0 ≤ l) : leftTms ts l = l := by
  cases ts with
  | nil => rfl
  | cons t ts => simp only [leftTms, if_neg h]
theorem leftTms_app : ∀ (a b : List Tm) (l : Int), leftTms (a ++ b) l = leftTms b (leftTms a l)
  | [], b, l => rfl
  | t :: ts, b, l => by
    simp only [List.cons_append, leftTms]
    by_cases h : 0 ≤ l
    · rw [if_pos h, if_pos h, leftTms_app]
    · rw [if_neg h, if_neg h, leftTms_neg h]
theorem leftTms_snoc {ts : List Tm} {i : Nat} {t : Tm} {l : Int} (h : ts[i]? = some t) (h0 : 0 ≤ leftTms (ts.take i) l) : leftTms (ts.take (i + 1)) l = leftTm t (leftTms (ts.take i) l) := by
  rw [take_snoc h, leftTms_app]
  simp only [leftTms, if_pos h0]
theorem leftTms_stop {ts : List Tm} {i : Nat} {l : Int} (h0 : ¬ 0 ≤ leftTms (ts.take i) l) : leftTms ts l = leftTms (ts.take i) l := by
  conv => lhs; rw [← List.take_append_drop i ts]
  rw [leftTms_app, leftTms_neg h0]
theorem leftTm_eq (t : Tm) (l : Int) : leftTm t l = leftTms t.args (l - 1) := by cases t; simp only [leftTm, Tm.args]
set_option maxHeartbeats 4000000 in
set_option maxRecDepth 100000 in
theorem con_l6Left_all : ∀ (n : Nat) (t : Tm) (l : Int), sizeTm t < n → sizeTm t ≤ big → 0 ≤ l → l ≤ 60 → Con e0 140 [.agg (encTm t), .one (.lit (.int .i64 l))] [.one (.lit (.int .i64 (leftTm t l)))] := by
  intro n
  induction n with
  | zero => intro t l h; omega
  | succ n ih =>
    intro t l hn hb hl0 hl1
    have hsz := sizeTm_eq t
    have hal := sizeTms_len t.args
    unfold big at hb
    have hw : IntKind.i64.wrap (l - 1) = l - 1 := wrapN rfl (by omega) (by omega)
    rw [leftTm_eq]
    refine con_of_pwp e0_ok 65591 Try.func140 rfl (by kernel_rfl) (by kernel_rfl) rfl rfl ?_
    (repeat (first
      | with_reducible refine pwp_seqW ?_
      | with_reducible refine pwp_block ?_
      | ((first | with_reducible refine pwp_skip ?_ | with_reducible refine pwp_exit ?_); try refine wkI ?_)
      | (with_reducible refine pwp_ct ?_ ?_; · simp only [pz, ↓reduceIte, Nat.reduceEqDiff, tmz, hw])
      | (with_reducible refine pwp_cf ?_ ?_; · simp only [pz, ↓reduceIte, Nat.reduceEqDiff, tmz, hw])
      | (((first
        | with_reducible refine region_0k ?_
        ); intro ds hds; simp only [List.map] at hds; subst hds); refine reT (by simp only [pz, ↓reduceIte, Nat.reduceEqDiff, Nat.reduceAdd, Nat.reduceSub, Nat.reduceMul, Nat.reduceLeDiff, Nat.reduceBEq, Bool.false_eq_true, decide_true, decide_false, Int.reduceLE, Int.reduceToNat, Int.reduceLT, Int.reduceEq, eq_self, Nat.reduceShiftRight, Nat.reduceAnd, Nat.reduceBneDiff, tmz, hw]; exact rfl) ?_; try refine wkI ?_)))
    refine pwp_loopU (ι := Nat) [1, 5, 16] [] (fun i => [(5, A.d (.one (.lit (.int .i64 i)))), (1, A.d (.one (.lit (.int .i64 (leftTms (t.args.take i) (l - 1))))))]) (fun i => []) (fun i => i ≤ t.args.length) (fun i => t.args.length - i) (0) (by simp only [headS, headM, List.elem_cons, List.elem_nil, Nat.reduceBEq, Bool.or_false, Bool.false_or, Bool.or_true, Bool.true_or, Bool.or_self, ↓reduceIte, Bool.false_eq_true]; exact rfl) (by simp only [headS, headM, List.elem_cons, List.elem_nil, Nat.reduceBEq, Bool.or_false, Bool.false_or, Bool.or_true, Bool.true_or, Bool.or_self, ↓reduceIte, Bool.false_eq_true]; exact rfl) (fun _ => by simp only [List.cons_append, List.nil_append]; exact rfl) (fun _ => by simp only [List.cons_append, List.nil_append]; exact rfl) (by simp [weakS, gs, leftTms]) (by simp [weakM, gm, leftTms]) (by omega) (fun i hi => ?_)
    have hsp := leftTms_spec (t.args.take i) (l - 1) (by omega)
    by_cases hl : i < t.args.length
    rotate_left
    · have hl' : ¬ ((i : Int) < (t.args.length : Int)) := by omega
      have e : t.args.take i = t.args := List.take_of_length_le (by omega)
      ((repeat (first
        | with_reducible refine pwp_seqW ?_
        | with_reducible refine pwp_block ?_
        | ((first | with_reducible refine pwp_skip ?_ | with_reducible refine pwp_exit ?_); try refine wkI ?_)
        | (with_reducible refine pwp_ct ?_ ?_; · simp only [pz, ↓reduceIte, Nat.reduceEqDiff, hl', e, tmz])
        | (with_reducible refine pwp_cf ?_ ?_; · simp only [pz, ↓reduceIte, Nat.reduceEqDiff, hl', e, tmz])
        | (((first
          | with_reducible refine region_0k ?_
          ); intro ds hds; simp only [List.map] at hds; subst hds); refine reT (by simp only [pz, ↓reduceIte, Nat.reduceEqDiff, Nat.reduceAdd, Nat.reduceSub, Nat.reduceMul, Nat.reduceLeDiff, Nat.reduceBEq, Bool.false_eq_true, decide_true, decide_false, Int.reduceLE, Int.reduceToNat, Int.reduceLT, Int.reduceEq, eq_self, Nat.reduceShiftRight, Nat.reduceAnd, Nat.reduceBneDiff, hl', e, tmz]; exact rfl) ?_; try refine wkI ?_)))
       refine pwp_ret (ret_ok ?_)
       simp [resOk, resA, resSlots, gs, hl', e, tmz])
    have hl' : (i : Int) < (t.args.length : Int) := by omega
    by_cases h0 : 0 ≤ leftTms (t.args.take i) (l - 1)
    rotate_left
    · have e := leftTms_stop h0
      ((repeat (first
        | with_reducible refine pwp_seqW ?_
        | with_reducible refine pwp_block ?_
        | ((first | with_reducible refine pwp_skip ?_ | with_reducible refine pwp_exit ?_); try refine wkI ?_)
        | (with_reducible refine pwp_ct ?_ ?_; · simp only [pz, ↓reduceIte, Nat.reduceEqDiff, hl', h0, e, tmz])
        | (with_reducible refine pwp_cf ?_ ?_; · simp only [pz, ↓reduceIte, Nat.reduceEqDiff, hl', h0, e, tmz])
        | (((first
          | with_reducible refine region_0k ?_
          ); intro ds hds; simp only [List.map] at hds; subst hds); refine reT (by simp only [pz, ↓reduceIte, Nat.reduceEqDiff, Nat.reduceAdd, Nat.reduceSub, Nat.reduceMul, Nat.reduceLeDiff, Nat.reduceBEq, Bool.false_eq_true, decide_true, decide_false, Int.reduceLE, Int.reduceToNat, Int.reduceLT, Int.reduceEq, eq_self, Nat.reduceShiftRight, Nat.reduceAnd, Nat.reduceBneDiff, hl', h0, e, tmz]; exact rfl) ?_; try refine wkI ?_)))
       refine pwp_ret (ret_ok ?_)
       simp [resOk, resA, resSlots, gs, hl', h0, e, tmz])
    obtain ⟨a, ha⟩ : ∃ a, t.args[i]? = some a := ⟨_, List.getElem?_eq_getElem hl⟩
    have hm := sizeTms_mem (List.mem_of_getElem? ha)
    have hw1 := wrap1 (k := i) (by omega)
    have hs := leftTms_snoc ha h0
    (repeat (first
      | with_reducible refine pwp_seqW ?_
      | with_reducible refine pwp_block ?_
      | ((first | with_reducible refine pwp_skip ?_ | with_reducible refine pwp_exit ?_); try refine wkI ?_)
      | (with_reducible refine pwp_ct ?_ ?_; · simp only [pz, ↓reduceIte, Nat.reduceEqDiff, hl', h0, tmz, ha])
      | (with_reducible refine pwp_cf ?_ ?_; · simp only [pz, ↓reduceIte, Nat.reduceEqDiff, hl', h0, tmz, ha])
      | (((first
        | with_reducible refine region_0k ?_
        ); intro ds hds; simp only [List.map] at hds; subst hds); refine reT (by simp only [pz, ↓reduceIte, Nat.reduceEqDiff, Nat.reduceAdd, Nat.reduceSub, Nat.reduceMul, Nat.reduceLeDiff, Nat.reduceBEq, Bool.false_eq_true, decide_true, decide_false, Int.reduceLE, Int.reduceToNat, Int.reduceLT, Int.reduceEq, eq_self, Nat.reduceShiftRight, Nat.reduceAnd, Nat.reduceBneDiff, hl', h0, tmz, ha]; exact rfl) ?_; try refine wkI ?_)))
    ((first
      | with_reducible refine region_0k ?_
      ); intro ds hds; simp only [List.map] at hds; subst hds)
    (refine rcT (by simp only [pz, ↓reduceIte, Nat.reduceEqDiff, Nat.reduceAdd, Nat.reduceSub, Nat.reduceMul, Nat.reduceLeDiff, Nat.reduceBEq, Bool.false_eq_true, decide_true, decide_false, Int.reduceLE, Int.reduceToNat, Int.reduceLT, Int.reduceEq, eq_self, Nat.reduceShiftRight, Nat.reduceAnd, Nat.reduceBneDiff, tmz, ha]; exact rfl) (ih a _ (by omega) (by unfold big; omega) h0 (by omega)) (by simp only [setA, retA]; exact rfl) ?_)
    (refine reT (by simp only [pz, ↓reduceIte, Nat.reduceEqDiff, Nat.reduceAdd, Nat.reduceSub, Nat.reduceMul, Nat.reduceLeDiff, Nat.reduceBEq, Bool.false_eq_true, decide_true, decide_false, Int.reduceLE, Int.reduceToNat, Int.reduceLT, Int.reduceEq, eq_self, Nat.reduceShiftRight, Nat.reduceAnd, Nat.reduceBneDiff, tmz]; exact rfl) ?_; first | (change pwp _ _ _ _ _) | refine wkI ?_ | skip)
    ((repeat (first
      | with_reducible refine pwp_seqW ?_
      | with_reducible refine pwp_block ?_
      | ((first | with_reducible refine pwp_skip ?_ | with_reducible refine pwp_exit ?_); try refine wkI ?_)
      | (with_reducible refine pwp_ct ?_ ?_; · simp only [pz, ↓reduceIte, Nat.reduceEqDiff, hw1, hs, tmz])
      | (with_reducible refine pwp_cf ?_ ?_; · simp only [pz, ↓reduceIte, Nat.reduceEqDiff, hw1, hs, tmz])
      | (((first
        | with_reducible refine region_0k ?_
        ); intro ds hds; simp only [List.map] at hds; subst hds); refine reT (by simp only [pz, ↓reduceIte, Nat.reduceEqDiff, Nat.reduceAdd, Nat.reduceSub, Nat.reduceMul, Nat.reduceLeDiff, Nat.reduceBEq, Bool.false_eq_true, decide_true, decide_false, Int.reduceLE, Int.reduceToNat, Int.reduceLT, Int.reduceEq, eq_self, Nat.reduceShiftRight, Nat.reduceAnd, Nat.reduceBneDiff, hw1, hs, tmz]; exact rfl) ?_; try refine wkI ?_)))
     exact ⟨i + 1, by omega, by simp [weakS, gs, hw1, hs, tmz], by simp [weakM, gm, hw1, hs, tmz], by omega⟩)
theorem small_iff {t : Tm} : 0 ≤ leftTm t 60 ↔ sizeTm t ≤ 60 := by
  have := leftTm_spec t 60 (by omega)
  by_cases h : sizeTm t ≤ 60
  · have := this.2.2.1 (by omega); omega
  · have := this.2.2.2 (by omega); omega
set_option maxHeartbeats 4000000 in
set_option maxRecDepth 100000 in
theorem con_l6Small {t : Tm} (hb : sizeTm t ≤ big) : Con e0 99 [.agg (encTm t)] [.one (.lit (.bool (decide (sizeTm t ≤ 60 ∧ depthTm t ≤ 20))))] := by
  refine con_of_pwp e0_ok 7 Try.func99 rfl (by kernel_rfl) (by kernel_rfl) rfl rfl ?_
  (repeat (first
    | with_reducible refine pwp_seqW ?_
    | with_reducible refine pwp_block ?_
    | ((first | with_reducible refine pwp_skip ?_ | with_reducible refine pwp_exit ?_); try refine wkI ?_)
    | (with_reducible refine pwp_ct ?_ ?_; · simp only [pz, ↓reduceIte, Nat.reduceEqDiff, tmz])
    | (with_reducible refine pwp_cf ?_ ?_; · simp only [pz, ↓reduceIte, Nat.reduceEqDiff, tmz])
    | (((first
      | with_reducible refine region_0k ?_
      ); intro ds hds; simp only [List.map] at hds; subst hds); refine reT (by simp only [pz, ↓reduceIte, Nat.reduceEqDiff, Nat.reduceAdd, Nat.reduceSub, Nat.reduceMul, Nat.reduceLeDiff, Nat.reduceBEq, Bool.false_eq_true, decide_true, decide_false, Int.reduceLE, Int.reduceToNat, Int.reduceLT, Int.reduceEq, eq_self, Nat.reduceShiftRight, Nat.reduceAnd, Nat.reduceBneDiff, tmz]; exact rfl) ?_; try refine wkI ?_)))
  ((first
    | with_reducible refine region_0k ?_
    ); intro ds hds; simp only [List.map] at hds; subst hds)
  (refine rcT (by simp only [pz, ↓reduceIte, Nat.reduceEqDiff, Nat.reduceAdd, Nat.reduceSub, Nat.reduceMul, Nat.reduceLeDiff, Nat.reduceBEq, Bool.false_eq_true, decide_true, decide_false, Int.reduceLE, Int.reduceToNat, Int.reduceLT, Int.reduceEq, eq_self, Nat.reduceShiftRight, Nat.reduceAnd, Nat.reduceBneDiff, tmz]; exact rfl) (con_l6Left_all _ t 60 (Nat.lt_succ_self _) hb (by omega) (by omega)) (by simp only [setA, retA]; exact rfl) ?_)
  by_cases h1 : sizeTm t ≤ 60
  rotate_left
  · have h1' : ¬ (0 ≤ leftTm t 60) := fun h => h1 (small_iff.1 h)
    (refine reT (by simp only [pz, ↓reduceIte, Nat.reduceEqDiff, Nat.reduceAdd, Nat.reduceSub, Nat.reduceMul, Nat.reduceLeDiff, Nat.reduceBEq, Bool.false_eq_true, decide_true, decide_false, Int.reduceLE, Int.reduceToNat, Int.reduceLT, Int.reduceEq, eq_self, Nat.reduceShiftRight, Nat.reduceAnd, Nat.reduceBneDiff, tmz, h1']; exact rfl) ?_; first | (change pwp _ _ _ _ _) | refine wkI ?_ | skip)
    ((repeat (first
      | with_reducible refine pwp_seqW ?_
      | with_reducible refine pwp_block ?_
      | ((first | with_reducible refine pwp_skip ?_ | with_reducible refine pwp_exit ?_); try refine wkI ?_)
      | (with_reducible refine pwp_ct ?_ ?_; · simp only [pz, ↓reduceIte, Nat.reduceEqDiff, h1])
      | (with_reducible refine pwp_cf ?_ ?_; · simp only [pz, ↓reduceIte, Nat.reduceEqDiff, h1])
      | (((first
        | with_reducible refine region_0k ?_
        ); intro ds hds; simp only [List.map] at hds; subst hds); refine reT (by simp only [pz, ↓reduceIte, Nat.reduceEqDiff, Nat.reduceAdd, Nat.reduceSub, Nat.reduceMul, Nat.reduceLeDiff, Nat.reduceBEq, Bool.false_eq_true, decide_true, decide_false, Int.reduceLE, Int.reduceToNat, Int.reduceLT, Int.reduceEq, eq_self, Nat.reduceShiftRight, Nat.reduceAnd, Nat.reduceBneDiff, h1]; exact rfl) ?_; try refine wkI ?_)))
     refine pwp_ret (ret_ok ?_)
     simp [resOk, resA, resSlots, gs, h1])
  have h1' : (0 ≤ leftTm t 60) := small_iff.2 h1
  (refine rcT (by simp only [pz, ↓reduceIte, Nat.reduceEqDiff, Nat.reduceAdd, Nat.reduceSub, Nat.reduceMul, Nat.reduceLeDiff, Nat.reduceBEq, Bool.false_eq_true, decide_true, decide_false, Int.reduceLE, Int.reduceToNat, Int.reduceLT, Int.reduceEq, eq_self, Nat.reduceShiftRight, Nat.reduceAnd, Nat.reduceBneDiff, tmz, h1']; exact rfl) (con_specDepth hb) (by simp only [setA, retA]; exact rfl) ?_)
  by_cases h2 : depthTm t ≤ 20
  · have h2' : ((depthTm t : Int) ≤ 20) := by omega
    (refine reT (by simp only [pz, ↓reduceIte, Nat.reduceEqDiff, Nat.reduceAdd, Nat.reduceSub, Nat.reduceMul, Nat.reduceLeDiff, Nat.reduceBEq, Bool.false_eq_true, decide_true, decide_false, Int.reduceLE, Int.reduceToNat, Int.reduceLT, Int.reduceEq, eq_self, Nat.reduceShiftRight, Nat.reduceAnd, Nat.reduceBneDiff, tmz, h2']; exact rfl) ?_; first | (change pwp _ _ _ _ _) | refine wkI ?_ | skip)
    ((repeat (first
      | with_reducible refine pwp_seqW ?_
      | with_reducible refine pwp_block ?_
      | ((first | with_reducible refine pwp_skip ?_ | with_reducible refine pwp_exit ?_); try refine wkI ?_)
      | (with_reducible refine pwp_ct ?_ ?_; · simp only [pz, ↓reduceIte, Nat.reduceEqDiff, h1, h2])
      | (with_reducible refine pwp_cf ?_ ?_; · simp only [pz, ↓reduceIte, Nat.reduceEqDiff, h1, h2])
      | (((first
        | with_reducible refine region_0k ?_
        ); intro ds hds; simp only [List.map] at hds; subst hds); refine reT (by simp only [pz, ↓reduceIte, Nat.reduceEqDiff, Nat.reduceAdd, Nat.reduceSub, Nat.reduceMul, Nat.reduceLeDiff, Nat.reduceBEq, Bool.false_eq_true, decide_true, decide_false, Int.reduceLE, Int.reduceToNat, Int.reduceLT, Int.reduceEq, eq_self, Nat.reduceShiftRight, Nat.reduceAnd, Nat.reduceBneDiff, h1, h2]; exact rfl) ?_; try refine wkI ?_)))
     refine pwp_ret (ret_ok ?_)
     simp [resOk, resA, resSlots, gs, h1, h2])
  · have h2' : ¬ ((depthTm t : Int) ≤ 20) := by omega
    (refine reT (by simp only [pz, ↓reduceIte, Nat.reduceEqDiff, Nat.reduceAdd, Nat.reduceSub, Nat.reduceMul, Nat.reduceLeDiff, Nat.reduceBEq, Bool.false_eq_true, decide_true, decide_false, Int.reduceLE, Int.reduceToNat, Int.reduceLT, Int.reduceEq, eq_self, Nat.reduceShiftRight, Nat.reduceAnd, Nat.reduceBneDiff, tmz, h2']; exact rfl) ?_; first | (change pwp _ _ _ _ _) | refine wkI ?_ | skip)
    ((repeat (first
      | with_reducible refine pwp_seqW ?_
      | with_reducible refine pwp_block ?_
      | ((first | with_reducible refine pwp_skip ?_ | with_reducible refine pwp_exit ?_); try refine wkI ?_)
      | (with_reducible refine pwp_ct ?_ ?_; · simp only [pz, ↓reduceIte, Nat.reduceEqDiff, h1, h2])
      | (with_reducible refine pwp_cf ?_ ?_; · simp only [pz, ↓reduceIte, Nat.reduceEqDiff, h1, h2])
      | (((first
        | with_reducible refine region_0k ?_
        ); intro ds hds; simp only [List.map] at hds; subst hds); refine reT (by simp only [pz, ↓reduceIte, Nat.reduceEqDiff, Nat.reduceAdd, Nat.reduceSub, Nat.reduceMul, Nat.reduceLeDiff, Nat.reduceBEq, Bool.false_eq_true, decide_true, decide_false, Int.reduceLE, Int.reduceToNat, Int.reduceLT, Int.reduceEq, eq_self, Nat.reduceShiftRight, Nat.reduceAnd, Nat.reduceBneDiff, h1, h2]; exact rfl) ?_; try refine wkI ?_)))
     refine pwp_ret (ret_ok ?_)
     simp [resOk, resA, resSlots, gs, h1, h2])
section
variable {g : Sgn}
open Classical in
noncomputable def isNode (g : Sgn) (t : Tm) : Bool := decide (NodeOk g t)
theorem isNode_true {t : Tm} (h : NodeOk g t) : isNode g t = true := by simp [isNode, h]
theorem isNode_false {t : Tm} (h : ¬ NodeOk g t) : isNode g t = false := by simp [isNode, h]
theorem isNode_iff {t : Tm} : isNode g t = true ↔ NodeOk g t := by simp [isNode]
set_option maxHeartbeats 4000000 in
set_option maxRecDepth 100000 in
theorem con_l6Node (hg : SgnOk g) {t : Tm} (hok : okTm t) (hb : sizeTm t ≤ big) : Con e0 142 [.agg (encSgn g), .agg (encTm t)] [.one (.lit (.bool (isNode g t)))] := by
  have hno : ¬ NodeOk g t → isNode g t = false := isNode_false
  obtain ⟨k1, k2, k3, k4⟩ := okTm_iff.1 hok
  have hsz := sizeTm_eq t
  have hal := sizeTms_len t.args
  have hn8 := hg.sorts.n8
  have hn1 := hg.sorts.n1
  have hln := hg.len
  unfold big at hb
  have hwn : IntKind.i64.wrap ((g.sorts.names.length : Int) - 1) = (g.sorts.names.length : Int) - 1 := wrapN rfl (by omega) (by omega)
  have hwo : IntKind.i64.wrap ((g.ops.length : Int) - 1) = (g.ops.length : Int) - 1 := wrapN rfl (by omega) (by omega)
  refine con_of_pwp e0_ok 9444733036108034605695 Try.func142 rfl (by kernel_rfl) (by kernel_rfl) rfl rfl ?_
  by_cases h1 : t.op = -1
  · have hV : NodeOk g t → VarOk g t := fun h => by
      rcases h with h | ⟨o, d, h⟩
      · exact h
      · exact absurd h1 h.op
    (repeat (first
      | with_reducible refine pwp_seqW ?_
      | with_reducible refine pwp_block ?_
      | ((first | with_reducible refine pwp_skip ?_ | with_reducible refine pwp_exit ?_); try refine wkI ?_)
      | (with_reducible refine pwp_ct ?_ ?_; · simp only [pz, ↓reduceIte, Nat.reduceEqDiff, tmz, encSgn, h1])
      | (with_reducible refine pwp_cf ?_ ?_; · simp only [pz, ↓reduceIte, Nat.reduceEqDiff, tmz, encSgn, h1])
      | (((first
        | with_reducible refine region_0k ?_
        ); intro ds hds; simp only [List.map] at hds; subst hds); refine reT (by simp only [pz, ↓reduceIte, Nat.reduceEqDiff, Nat.reduceAdd, Nat.reduceSub, Nat.reduceMul, Nat.reduceLeDiff, Nat.reduceBEq, Bool.false_eq_true, decide_true, decide_false, Int.reduceLE, Int.reduceToNat, Int.reduceLT, Int.reduceEq, eq_self, Nat.reduceShiftRight, Nat.reduceAnd, Nat.reduceBneDiff, tmz, encSgn, h1]; exact rfl) ?_; try refine wkI ?_)))
    ((first
      | with_reducible refine region_0k ?_
      ); intro ds hds; simp only [List.map] at hds; subst hds)
    (refine rcT (by simp only [pz, ↓reduceIte, Nat.reduceEqDiff, Nat.reduceAdd, Nat.reduceSub, Nat.reduceMul, Nat.reduceLeDiff, Nat.reduceBEq, Bool.false_eq_true, decide_true, decide_false, Int.reduceLE, Int.reduceToNat, Int.reduceLT, Int.reduceEq, eq_self, Nat.reduceShiftRight, Nat.reduceAnd, Nat.reduceBneDiff, tmz]; exact rfl) (con_specName k2) (by simp only [setA, retA]; exact rfl) ?_)
    by_cases h2 : isName t.name = true
    rotate_left
    · have h2' : isName t.name = false := by simpa using h2
      have hf := hno fun h => h2 (hV h).2.1
      (refine reT (by simp only [pz, ↓reduceIte, Nat.reduceEqDiff, Nat.reduceAdd, Nat.reduceSub, Nat.reduceMul, Nat.reduceLeDiff, Nat.reduceBEq, Bool.false_eq_true, decide_true, decide_false, Int.reduceLE, Int.reduceToNat, Int.reduceLT, Int.reduceEq, eq_self, Nat.reduceShiftRight, Nat.reduceAnd, Nat.reduceBneDiff, tmz, h2']; exact rfl) ?_; first | (change pwp _ _ _ _ _) | refine wkI ?_ | skip)
      ((repeat (first
        | with_reducible refine pwp_seqW ?_
        | with_reducible refine pwp_block ?_
        | ((first | with_reducible refine pwp_skip ?_ | with_reducible refine pwp_exit ?_); try refine wkI ?_)
        | (with_reducible refine pwp_ct ?_ ?_; · simp only [pz, ↓reduceIte, Nat.reduceEqDiff, hf])
        | (with_reducible refine pwp_cf ?_ ?_; · simp only [pz, ↓reduceIte, Nat.reduceEqDiff, hf])
        | (((first
          | with_reducible refine region_0k ?_
          ); intro ds hds; simp only [List.map] at hds; subst hds); refine reT (by simp only [pz, ↓reduceIte, Nat.reduceEqDiff, Nat.reduceAdd, Nat.reduceSub, Nat.reduceMul, Nat.reduceLeDiff, Nat.reduceBEq, Bool.false_eq_true, decide_true, decide_false, Int.reduceLE, Int.reduceToNat, Int.reduceLT, Int.reduceEq, eq_self, Nat.reduceShiftRight, Nat.reduceAnd, Nat.reduceBneDiff, hf]; exact rfl) ?_; try refine wkI ?_)))
       refine pwp_ret (ret_ok ?_)
       simp [resOk, resA, resSlots, gs, hf])
    (refine rcT (by simp only [pz, ↓reduceIte, Nat.reduceEqDiff, Nat.reduceAdd, Nat.reduceSub, Nat.reduceMul, Nat.reduceLeDiff, Nat.reduceBEq, Bool.false_eq_true, decide_true, decide_false, Int.reduceLE, Int.reduceToNat, Int.reduceLT, Int.reduceEq, eq_self, Nat.reduceShiftRight, Nat.reduceAnd, Nat.reduceBneDiff, tmz, h2, hwn]; exact rfl) (con_l1In _ _ _) (by simp only [setA, retA]; exact rfl) ?_)
    by_cases h3 : 0 ≤ t.sort ∧ t.sort < g.sorts.names.length
    rotate_left
    · have h3' : decide (0 ≤ t.sort ∧ t.sort ≤ (g.sorts.names.length : Int) - 1) = false := by simp only [decide_eq_false_iff_not]; omega
      have hf := hno fun h => h3 ⟨(hV h).2.2.1, (hV h).2.2.2.1⟩
      (refine reT (by simp only [pz, ↓reduceIte, Nat.reduceEqDiff, Nat.reduceAdd, Nat.reduceSub, Nat.reduceMul, Nat.reduceLeDiff, Nat.reduceBEq, Bool.false_eq_true, decide_true, decide_false, Int.reduceLE, Int.reduceToNat, Int.reduceLT, Int.reduceEq, eq_self, Nat.reduceShiftRight, Nat.reduceAnd, Nat.reduceBneDiff, tmz, h3']; exact rfl) ?_; first | (change pwp _ _ _ _ _) | refine wkI ?_ | skip)
      ((repeat (first
        | with_reducible refine pwp_seqW ?_
        | with_reducible refine pwp_block ?_
        | ((first | with_reducible refine pwp_skip ?_ | with_reducible refine pwp_exit ?_); try refine wkI ?_)
        | (with_reducible refine pwp_ct ?_ ?_; · simp only [pz, ↓reduceIte, Nat.reduceEqDiff, hf])
        | (with_reducible refine pwp_cf ?_ ?_; · simp only [pz, ↓reduceIte, Nat.reduceEqDiff, hf])
        | (((first
          | with_reducible refine region_0k ?_
          ); intro ds hds; simp only [List.map] at hds; subst hds); refine reT (by simp only [pz, ↓reduceIte, Nat.reduceEqDiff, Nat.reduceAdd, Nat.reduceSub, Nat.reduceMul, Nat.reduceLeDiff, Nat.reduceBEq, Bool.false_eq_true, decide_true, decide_false, Int.reduceLE, Int.reduceToNat, Int.reduceLT, Int.reduceEq, eq_self, Nat.reduceShiftRight, Nat.reduceAnd, Nat.reduceBneDiff, hf]; exact rfl) ?_; try refine wkI ?_)))
       refine pwp_ret (ret_ok ?_)
       simp [resOk, resA, resSlots, gs, hf])
    have h3' : decide (0 ≤ t.sort ∧ t.sort ≤ (g.sorts.names.length : Int) - 1) = true := by simp only [decide_eq_true_eq]; omega
    by_cases h4 : t.args = []
    · have hT := isNode_true (g := g) (.inl ⟨h1, h2, h3.1, h3.2, h4⟩)
      (refine reT (by simp only [pz, ↓reduceIte, Nat.reduceEqDiff, Nat.reduceAdd, Nat.reduceSub, Nat.reduceMul, Nat.reduceLeDiff, Nat.reduceBEq, Bool.false_eq_true, decide_true, decide_false, Int.reduceLE, Int.reduceToNat, Int.reduceLT, Int.reduceEq, eq_self, Nat.reduceShiftRight, Nat.reduceAnd, Nat.reduceBneDiff, tmz, h3', h4]; exact rfl) ?_; first | (change pwp _ _ _ _ _) | refine wkI ?_ | skip)
      ((repeat (first
        | with_reducible refine pwp_seqW ?_
        | with_reducible refine pwp_block ?_
        | ((first | with_reducible refine pwp_skip ?_ | with_reducible refine pwp_exit ?_); try refine wkI ?_)
        | (with_reducible refine pwp_ct ?_ ?_; · simp only [pz, ↓reduceIte, Nat.reduceEqDiff, hT])
        | (with_reducible refine pwp_cf ?_ ?_; · simp only [pz, ↓reduceIte, Nat.reduceEqDiff, hT])
        | (((first
          | with_reducible refine region_0k ?_
          ); intro ds hds; simp only [List.map] at hds; subst hds); refine reT (by simp only [pz, ↓reduceIte, Nat.reduceEqDiff, Nat.reduceAdd, Nat.reduceSub, Nat.reduceMul, Nat.reduceLeDiff, Nat.reduceBEq, Bool.false_eq_true, decide_true, decide_false, Int.reduceLE, Int.reduceToNat, Int.reduceLT, Int.reduceEq, eq_self, Nat.reduceShiftRight, Nat.reduceAnd, Nat.reduceBneDiff, hT]; exact rfl) ?_; try refine wkI ?_)))
       refine pwp_ret (ret_ok ?_)
       simp [resOk, resA, resSlots, gs, hT])
    · have hf := hno fun h => h4 (hV h).2.2.2.2
      have h4' : ¬ ((t.args.length : Int) = 0) := by
        intro h; apply h4; apply List.eq_nil_of_length_eq_zero; omega
      (refine reT (by simp only [pz, ↓reduceIte, Nat.reduceEqDiff, Nat.reduceAdd, Nat.reduceSub, Nat.reduceMul, Nat.reduceLeDiff, Nat.reduceBEq, Bool.false_eq_true, decide_true, decide_false, Int.reduceLE, Int.reduceToNat, Int.reduceLT, Int.reduceEq, eq_self, Nat.reduceShiftRight, Nat.reduceAnd, Nat.reduceBneDiff, tmz, h3', h4']; exact rfl) ?_; first | (change pwp _ _ _ _ _) | refine wkI ?_ | skip)
      ((repeat (first
        | with_reducible refine pwp_seqW ?_
        | with_reducible refine pwp_block ?_
        | ((first | with_reducible refine pwp_skip ?_ | with_reducible refine pwp_exit ?_); try refine wkI ?_)
        | (with_reducible refine pwp_ct ?_ ?_; · simp only [pz, ↓reduceIte, Nat.reduceEqDiff, hf])
        | (with_reducible refine pwp_cf ?_ ?_; · simp only [pz, ↓reduceIte, Nat.reduceEqDiff, hf])
        | (((first
          | with_reducible refine region_0k ?_
          ); intro ds hds; simp only [List.map] at hds; subst hds); refine reT (by simp only [pz, ↓reduceIte, Nat.reduceEqDiff, Nat.reduceAdd, Nat.reduceSub, Nat.reduceMul, Nat.reduceLeDiff, Nat.reduceBEq, Bool.false_eq_true, decide_true, decide_false, Int.reduceLE, Int.reduceToNat, Int.reduceLT, Int.reduceEq, eq_self, Nat.reduceShiftRight, Nat.reduceAnd, Nat.reduceBneDiff, hf]; exact rfl) ?_; try refine wkI ?_)))
       refine pwp_ret (ret_ok ?_)
       simp [resOk, resA, resSlots, gs, hf])
  (repeat (first
    | with_reducible refine pwp_seqW ?_
    | with_reducible refine pwp_block ?_
    | ((first | with_reducible refine pwp_skip ?_ | with_reducible refine pwp_exit ?_); try refine wkI ?_)
    | (with_reducible refine pwp_ct ?_ ?_; · simp only [pz, ↓reduceIte, Nat.reduceEqDiff, tmz, encSgn, h1])
    | (with_reducible refine pwp_cf ?_ ?_; · simp only [pz, ↓reduceIte, Nat.reduceEqDiff, tmz, encSgn, h1])
    | (((first
      | with_reducible refine region_0k ?_
      ); intro ds hds; simp only [List.map] at hds; subst hds); refine reT (by simp only [pz, ↓reduceIte, Nat.reduceEqDiff, Nat.reduceAdd, Nat.reduceSub, Nat.reduceMul, Nat.reduceLeDiff, Nat.reduceBEq, Bool.false_eq_true, decide_true, decide_false, Int.reduceLE, Int.reduceToNat, Int.reduceLT, Int.reduceEq, eq_self, Nat.reduceShiftRight, Nat.reduceAnd, Nat.reduceBneDiff, tmz, encSgn, h1]; exact rfl) ?_; try refine wkI ?_)))
  ((first
    | with_reducible refine region_0k ?_
    ); intro ds hds; simp only [List.map] at hds; subst hds)
  (refine rcT (by simp only [pz, ↓reduceIte, Nat.reduceEqDiff, Nat.reduceAdd, Nat.reduceSub, Nat.reduceMul, Nat.reduceLeDiff, Nat.reduceBEq, Bool.false_eq_true, decide_true, decide_false, Int.reduceLE, Int.reduceToNat, Int.reduceLT, Int.reduceEq, eq_self, Nat.reduceShiftRight, Nat.reduceAnd, Nat.reduceBneDiff, tmz, hwo]; exact rfl) (con_l1In _ _ _) (by simp only [setA, retA]; exact rfl) ?_)
  by_cases h2 : 0 ≤ t.op ∧ t.op < g.ops.length
  rotate_left
  · have h2' : decide (0 ≤ t.op ∧ t.op ≤ (g.ops.length : Int) - 1) = false := by simp only [decide_eq_false_iff_not]; omega
    have hf := hno fun h => by
      obtain ⟨o, d, h⟩ := h.app h1
      have := (List.getElem?_eq_some_iff.1 h.at').1
      have := h.lo
      omega
    (refine reT (by simp only [pz, ↓reduceIte, Nat.reduceEqDiff, Nat.reduceAdd, Nat.reduceSub, Nat.reduceMul, Nat.reduceLeDiff, Nat.reduceBEq, Bool.false_eq_true, decide_true, decide_false, Int.reduceLE, Int.reduceToNat, Int.reduceLT, Int.reduceEq, eq_self, Nat.reduceShiftRight, Nat.reduceAnd, Nat.reduceBneDiff, tmz, h2']; exact rfl) ?_; first | (change pwp _ _ _ _ _) | refine wkI ?_ | skip)
    ((repeat (first
      | with_reducible refine pwp_seqW ?_
      | with_reducible refine pwp_block ?_
      | ((first | with_reducible refine pwp_skip ?_ | with_reducible refine pwp_exit ?_); try refine wkI ?_)
      | (with_reducible refine pwp_ct ?_ ?_; · simp only [pz, ↓reduceIte, Nat.reduceEqDiff, hf])
      | (with_reducible refine pwp_cf ?_ ?_; · simp only [pz, ↓reduceIte, Nat.reduceEqDiff, hf])
      | (((first
        | with_reducible refine region_0k ?_
        ); intro ds hds; simp only [List.map] at hds; subst hds); refine reT (by simp only [pz, ↓reduceIte, Nat.reduceEqDiff, Nat.reduceAdd, Nat.reduceSub, Nat.reduceMul, Nat.reduceLeDiff, Nat.reduceBEq, Bool.false_eq_true, decide_true, decide_false, Int.reduceLE, Int.reduceToNat, Int.reduceLT, Int.reduceEq, eq_self, Nat.reduceShiftRight, Nat.reduceAnd, Nat.reduceBneDiff, hf]; exact rfl) ?_; try refine wkI ?_)))
     refine pwp_ret (ret_ok ?_)
     simp [resOk, resA, resSlots, gs, hf])
  have h2' : decide (0 ≤ t.op ∧ t.op ≤ (g.ops.length : Int) - 1) = true := by simp only [decide_eq_true_eq]; omega
  by_cases h4 : t.name = ByteArray.empty
  rotate_left
  · have hf := hno fun h => by
      obtain ⟨o, d, h⟩ := h.app h1
      exact h4 h.nm
    (refine reT (by simp only [pz, ↓reduceIte, Nat.reduceEqDiff, Nat.reduceAdd, Nat.reduceSub, Nat.reduceMul, Nat.reduceLeDiff, Nat.reduceBEq, Bool.false_eq_true, decide_true, decide_false, Int.reduceLE, Int.reduceToNat, Int.reduceLT, Int.reduceEq, eq_self, Nat.reduceShiftRight, Nat.reduceAnd, Nat.reduceBneDiff, tmz, h2', str_emp, h4]; exact rfl) ?_; first | (change pwp _ _ _ _ _) | refine wkI ?_ | skip)
    ((repeat (first
      | with_reducible refine pwp_seqW ?_
      | with_reducible refine pwp_block ?_
      | ((first | with_reducible refine pwp_skip ?_ | with_reducible refine pwp_exit ?_); try refine wkI ?_)
      | (with_reducible refine pwp_ct ?_ ?_; · simp only [pz, ↓reduceIte, Nat.reduceEqDiff, hf])
      | (with_reducible refine pwp_cf ?_ ?_; · simp only [pz, ↓reduceIte, Nat.reduceEqDiff, hf])
      | (((first
        | with_reducible refine region_0k ?_
        ); intro ds hds; simp only [List.map] at hds; subst hds); refine reT (by simp only [pz, ↓reduceIte, Nat.reduceEqDiff, Nat.reduceAdd, Nat.reduceSub, Nat.reduceMul, Nat.reduceLeDiff, Nat.reduceBEq, Bool.false_eq_true, decide_true, decide_false, Int.reduceLE, Int.reduceToNat, Int.reduceLT, Int.reduceEq, eq_self, Nat.reduceShiftRight, Nat.reduceAnd, Nat.reduceBneDiff, hf]; exact rfl) ?_; try refine wkI ?_)))
     refine pwp_ret (ret_ok ?_)
     simp [resOk, resA, resSlots, gs, hf])
  by_cases h5 : t.sort = 0
  rotate_left
  · have hf := hno fun h => by
      obtain ⟨o, d, h⟩ := h.app h1
      exact h5 h.so
    (refine reT (by simp only [pz, ↓reduceIte, Nat.reduceEqDiff, Nat.reduceAdd, Nat.reduceSub, Nat.reduceMul, Nat.reduceLeDiff, Nat.reduceBEq, Bool.false_eq_true, decide_true, decide_false, Int.reduceLE, Int.reduceToNat, Int.reduceLT, Int.reduceEq, eq_self, Nat.reduceShiftRight, Nat.reduceAnd, Nat.reduceBneDiff, tmz, h2', str_emp, h4, h5]; exact rfl) ?_; first | (change pwp _ _ _ _ _) | refine wkI ?_ | skip)
    ((repeat (first
      | with_reducible refine pwp_seqW ?_
      | with_reducible refine pwp_block ?_
      | ((first | with_reducible refine pwp_skip ?_ | with_reducible refine pwp_exit ?_); try refine wkI ?_)
      | (with_reducible refine pwp_ct ?_ ?_; · simp only [pz, ↓reduceIte, Nat.reduceEqDiff, hf])
      | (with_reducible refine pwp_cf ?_ ?_; · simp only [pz, ↓reduceIte, Nat.reduceEqDiff, hf])
      | (((first
        | with_reducible refine region_0k ?_
        ); intro ds hds; simp only [List.map] at hds; subst hds); refine reT (by simp only [pz, ↓reduceIte, Nat.reduceEqDiff, Nat.reduceAdd, Nat.reduceSub, Nat.reduceMul, Nat.reduceLeDiff, Nat.reduceBEq, Bool.false_eq_true, decide_true, decide_false, Int.reduceLE, Int.reduceToNat, Int.reduceLT, Int.reduceEq, eq_self, Nat.reduceShiftRight, Nat.reduceAnd, Nat.reduceBneDiff, hf]; exact rfl) ?_; try refine wkI ?_)))
     refine pwp_ret (ret_ok ?_)
     simp [resOk, resA, resSlots, gs, hf])
  have h0 := h2.1
  obtain ⟨o, ho⟩ : ∃ o, g.ops[t.op.toNat]? = some o := ⟨_, List.getElem?_eq_getElem (by omega)⟩
  obtain ⟨d, hd, hr0, hr1, hargs⟩ := hg.first ho
  have hgt : NodeOk g t → AppOk g t o d := fun h => by
    obtain ⟨o', d', h⟩ := h.app h1
    have e1 := h.at'
    rw [ho] at e1
    injection e1 with e1
    subst e1
    have e2 := h.fst
    rw [hd] at e2
    injection e2 with e2
    subst e2
    exact h
  have cA := con_l4Arity hd
  rw [encOpr] at cA
  (refine reT (by simp only [pz, ↓reduceIte, Nat.reduceEqDiff, Nat.reduceAdd, Nat.reduceSub, Nat.reduceMul, Nat.reduceLeDiff, Nat.reduceBEq, Bool.false_eq_true, decide_true, decide_false, Int.reduceLE, Int.reduceToNat, Int.reduceLT, Int.reduceEq, eq_self, Nat.reduceShiftRight, Nat.reduceAnd, Nat.reduceBneDiff, tmz, h2', str_emp, h4, h5]; exact rfl) ?_; first | (change pwp _ _ _ _ _) | refine wkI ?_ | skip)
  (repeat (first
    | with_reducible refine pwp_seqW ?_
    | with_reducible refine pwp_block ?_
    | ((first | with_reducible refine pwp_skip ?_ | with_reducible refine pwp_exit ?_); try refine wkI ?_)
    | (with_reducible refine pwp_ct ?_ ?_; · simp only [pz, ↓reduceIte, Nat.reduceEqDiff, tmz, h0, ho, encOpr])
    | (with_reducible refine pwp_cf ?_ ?_; · simp only [pz, ↓reduceIte, Nat.reduceEqDiff, tmz, h0, ho, encOpr])
    | (((first
      | with_reducible refine region_0k ?_
      ); intro ds hds; simp only [List.map] at hds; subst hds); refine reT (by simp only [pz, ↓reduceIte, Nat.reduceEqDiff, Nat.reduceAdd, Nat.reduceSub, Nat.reduceMul, Nat.reduceLeDiff, Nat.reduceBEq, Bool.false_eq_true, decide_true, decide_false, Int.reduceLE, Int.reduceToNat, Int.reduceLT, Int.reduceEq, eq_self, Nat.reduceShiftRight, Nat.reduceAnd, Nat.reduceBneDiff, tmz, h0, ho, encOpr]; exact rfl) ?_; try refine wkI ?_)))
  cases ha : o.assoc with
  | false =>
    rw [ha] at cA
    ((first
      | with_reducible refine region_0k ?_
      ); intro ds hds; simp only [List.map] at hds; subst hds)
    (refine rcT (by simp only [pz, ↓reduceIte, Nat.reduceEqDiff, Nat.reduceAdd, Nat.reduceSub, Nat.reduceMul, Nat.reduceLeDiff, Nat.reduceBEq, Bool.false_eq_true, decide_true, decide_false, Int.reduceLE, Int.reduceToNat, Int.reduceLT, Int.reduceEq, eq_self, Nat.reduceShiftRight, Nat.reduceAnd, Nat.reduceBneDiff, tmz, ha]; exact rfl) (cA) (by simp only [setA, retA]; exact rfl) ?_)
    by_cases c : t.args.length = d.args.length
    · have hT := isNode_true (g := g) (.inr ⟨o, d, h0, ho, hd, h4, h5, fun h => (by rw [ha] at h; cases h), fun _ => c⟩)
      have c' : ((t.args.length : Int) = (d.args.length : Int)) := by omega
      (refine reT (by simp only [pz, ↓reduceIte, Nat.reduceEqDiff, Nat.reduceAdd, Nat.reduceSub, Nat.reduceMul, Nat.reduceLeDiff, Nat.reduceBEq, Bool.false_eq_true, decide_true, decide_false, Int.reduceLE, Int.reduceToNat, Int.reduceLT, Int.reduceEq, eq_self, Nat.reduceShiftRight, Nat.reduceAnd, Nat.reduceBneDiff, tmz, c', ha]; exact rfl) ?_; first | (change pwp _ _ _ _ _) | refine wkI ?_ | skip)
      ((repeat (first
        | with_reducible refine pwp_seqW ?_
        | with_reducible refine pwp_block ?_
        | ((first | with_reducible refine pwp_skip ?_ | with_reducible refine pwp_exit ?_); try refine wkI ?_)
        | (with_reducible refine pwp_ct ?_ ?_; · simp only [pz, ↓reduceIte, Nat.reduceEqDiff, hT])
        | (with_reducible refine pwp_cf ?_ ?_; · simp only [pz, ↓reduceIte, Nat.reduceEqDiff, hT])
        | (((first
          | with_reducible refine region_0k ?_
          ); intro ds hds; simp only [List.map] at hds; subst hds); refine reT (by simp only [pz, ↓reduceIte, Nat.reduceEqDiff, Nat.reduceAdd, Nat.reduceSub, Nat.reduceMul, Nat.reduceLeDiff, Nat.reduceBEq, Bool.false_eq_true, decide_true, decide_false, Int.reduceLE, Int.reduceToNat, Int.reduceLT, Int.reduceEq, eq_self, Nat.reduceShiftRight, Nat.reduceAnd, Nat.reduceBneDiff, hT]; exact rfl) ?_; try refine wkI ?_)))
       refine pwp_ret (ret_ok ?_)
       simp [resOk, resA, resSlots, gs, hT])
    · have hf := hno fun h => c ((hgt h).nas ha)
      have c' : ¬ ((t.args.length : Int) = (d.args.length : Int)) := by omega
      (refine reT (by simp only [pz, ↓reduceIte, Nat.reduceEqDiff, Nat.reduceAdd, Nat.reduceSub, Nat.reduceMul, Nat.reduceLeDiff, Nat.reduceBEq, Bool.false_eq_true, decide_true, decide_false, Int.reduceLE, Int.reduceToNat, Int.reduceLT, Int.reduceEq, eq_self, Nat.reduceShiftRight, Nat.reduceAnd, Nat.reduceBneDiff, tmz, c', ha]; exact rfl) ?_; first | (change pwp _ _ _ _ _) | refine wkI ?_ | skip)
      ((repeat (first
        | with_reducible refine pwp_seqW ?_
        | with_reducible refine pwp_block ?_
        | ((first | with_reducible refine pwp_skip ?_ | with_reducible refine pwp_exit ?_); try refine wkI ?_)
        | (with_reducible refine pwp_ct ?_ ?_; · simp only [pz, ↓reduceIte, Nat.reduceEqDiff, hf])
        | (with_reducible refine pwp_cf ?_ ?_; · simp only [pz, ↓reduceIte, Nat.reduceEqDiff, hf])
        | (((first
          | with_reducible refine region_0k ?_
          ); intro ds hds; simp only [List.map] at hds; subst hds); refine reT (by simp only [pz, ↓reduceIte, Nat.reduceEqDiff, Nat.reduceAdd, Nat.reduceSub, Nat.reduceMul, Nat.reduceLeDiff, Nat.reduceBEq, Bool.false_eq_true, decide_true, decide_false, Int.reduceLE, Int.reduceToNat, Int.reduceLT, Int.reduceEq, eq_self, Nat.reduceShiftRight, Nat.reduceAnd, Nat.reduceBneDiff, hf]; exact rfl) ?_; try refine wkI ?_)))
       refine pwp_ret (ret_ok ?_)
       simp [resOk, resA, resSlots, gs, hf])
  | true =>
    ((first
      | with_reducible refine region_0k ?_
      ); intro ds hds; simp only [List.map] at hds; subst hds)
    (refine rcT (by simp only [pz, ↓reduceIte, Nat.reduceEqDiff, Nat.reduceAdd, Nat.reduceSub, Nat.reduceMul, Nat.reduceLeDiff, Nat.reduceBEq, Bool.false_eq_true, decide_true, decide_false, Int.reduceLE, Int.reduceToNat, Int.reduceLT, Int.reduceEq, eq_self, Nat.reduceShiftRight, Nat.reduceAnd, Nat.reduceBneDiff, tmz, ha]; exact rfl) (con_l1In _ _ _) (by simp only [setA, retA]; exact rfl) ?_)
    by_cases c : 2 ≤ t.args.length ∧ t.args.length ≤ 7
    · have hT := isNode_true (g := g) (.inr ⟨o, d, h0, ho, hd, h4, h5, fun _ => c, fun h => (by rw [ha] at h; cases h)⟩)
      have c' : decide ((2 : Int) ≤ (t.args.length : Int) ∧ (t.args.length : Int) ≤ 7) = true := by simp only [decide_eq_true_eq]; omega
      (refine reT (by simp only [pz, ↓reduceIte, Nat.reduceEqDiff, Nat.reduceAdd, Nat.reduceSub, Nat.reduceMul, Nat.reduceLeDiff, Nat.reduceBEq, Bool.false_eq_true, decide_true, decide_false, Int.reduceLE, Int.reduceToNat, Int.reduceLT, Int.reduceEq, eq_self, Nat.reduceShiftRight, Nat.reduceAnd, Nat.reduceBneDiff, tmz, c', ha]; exact rfl) ?_; first | (change pwp _ _ _ _ _) | refine wkI ?_ | skip)
      ((repeat (first
        | with_reducible refine pwp_seqW ?_
        | with_reducible refine pwp_block ?_
        | ((first | with_reducible refine pwp_skip ?_ | with_reducible refine pwp_exit ?_); try refine wkI ?_)
        | (with_reducible refine pwp_ct ?_ ?_; · simp only [pz, ↓reduceIte, Nat.reduceEqDiff, hT])
        | (with_reducible refine pwp_cf ?_ ?_; · simp only [pz, ↓reduceIte, Nat.reduceEqDiff, hT])
        | (((first
          | with_reducible refine region_0k ?_
          ); intro ds hds; simp only [List.map] at hds; subst hds); refine reT (by simp only [pz, ↓reduceIte, Nat.reduceEqDiff, Nat.reduceAdd, Nat.reduceSub, Nat.reduceMul, Nat.reduceLeDiff, Nat.reduceBEq, Bool.false_eq_true, decide_true, decide_false, Int.reduceLE, Int.reduceToNat, Int.reduceLT, Int.reduceEq, eq_self, Nat.reduceShiftRight, Nat.reduceAnd, Nat.reduceBneDiff, hT]; exact rfl) ?_; try refine wkI ?_)))
       refine pwp_ret (ret_ok ?_)
       simp [resOk, resA, resSlots, gs, hT])
    · have hf := hno fun h => c ((hgt h).asc ha)
      have c' : decide ((2 : Int) ≤ (t.args.length : Int) ∧ (t.args.length : Int) ≤ 7) = false := by simp only [decide_eq_false_iff_not]; omega
      (refine reT (by simp only [pz, ↓reduceIte, Nat.reduceEqDiff, Nat.reduceAdd, Nat.reduceSub, Nat.reduceMul, Nat.reduceLeDiff, Nat.reduceBEq, Bool.false_eq_true, decide_true, decide_false, Int.reduceLE, Int.reduceToNat, Int.reduceLT, Int.reduceEq, eq_self, Nat.reduceShiftRight, Nat.reduceAnd, Nat.reduceBneDiff, tmz, c', ha]; exact rfl) ?_; first | (change pwp _ _ _ _ _) | refine wkI ?_ | skip)
      ((repeat (first
        | with_reducible refine pwp_seqW ?_
        | with_reducible refine pwp_block ?_
        | ((first | with_reducible refine pwp_skip ?_ | with_reducible refine pwp_exit ?_); try refine wkI ?_)
        | (with_reducible refine pwp_ct ?_ ?_; · simp only [pz, ↓reduceIte, Nat.reduceEqDiff, hf])
        | (with_reducible refine pwp_cf ?_ ?_; · simp only [pz, ↓reduceIte, Nat.reduceEqDiff, hf])
        | (((first
          | with_reducible refine region_0k ?_
          ); intro ds hds; simp only [List.map] at hds; subst hds); refine reT (by simp only [pz, ↓reduceIte, Nat.reduceEqDiff, Nat.reduceAdd, Nat.reduceSub, Nat.reduceMul, Nat.reduceLeDiff, Nat.reduceBEq, Bool.false_eq_true, decide_true, decide_false, Int.reduceLE, Int.reduceToNat, Int.reduceLT, Int.reduceEq, eq_self, Nat.reduceShiftRight, Nat.reduceAnd, Nat.reduceBneDiff, hf]; exact rfl) ?_; try refine wkI ?_)))
       refine pwp_ret (ret_ok ?_)
       simp [resOk, resA, resSlots, gs, hf])
end
end Go.Proofs.Ytmpcbijkbgmjkaa

namespace Go.Proofs.Ytmpcbijkbgmjkaa
open Go.RowKit
section
variable {g : Sgn}
open Classical in
noncomputable def isRight (g : Sgn) (op : Int) (args : List Tm) : Bool := decide (RightOk g op args)
theorem unit_form (hg : SgnOk g) {op : Int} {o : Opr} (ho : g.ops[op.toNat]? = some o) (hu : o.unit ≠ 0) {a : Tm} (ha : FormOk g a) (hop : a.op = o.unit - 1) : a = unitTm o := by
  have hax := hg.axs o (List.mem_of_getElem? ho)
  have hlo := hax.lo
  obtain ⟨p, u, h⟩ := ha.node.app (by omega)
  obtain ⟨d, hd, _⟩ := hg.first ho
  have e : a.op.toNat = o.unit.toNat - 1 := by omega
  have hz : u.args.length = 0 := by
    have h2 := hax.two (.inr (.inr hu)) d hd
    obtain ⟨d0, hd0⟩ : ∃ x, d.args[0]? = some x := ⟨_, List.getElem?_eq_getElem (by omega)⟩
    obtain ⟨d1, hd1⟩ : ∃ x, d.args[1]? = some x := ⟨_, List.getElem?_eq_getElem (by omega)⟩
    exact ((h2.2 d0 d1 hd0 hd1).2.2 hu p u (by rw [← e]; exact h.at') h.fst).1
  have has : p.assoc = false := by
    cases hp : p.assoc with
    | false => rfl
    | true =>
      have := ((hg.axs p (List.mem_of_getElem? h.at')).two (.inl hp) u h.fst).1
      omega
  have hl := h.nas has
  have hnil : a.args = [] := List.eq_nil_of_length_eq_zero (by omega)
  have hnm := h.nm
  have hso := h.so
  cases a with
  | mk x n s l =>
    simp only [Tm.args, Tm.name, Tm.sort, Tm.op] at *
    subst hnil hnm hso hop
    simp only [unitTm, if_neg hu]
theorem okTm_unit {o : Opr} (h0 : 0 ≤ o.unit) (h1 : o.unit ≤ 14) : okTm (unitTm o) := by
  rw [okTm_iff]
  simp only [unitTm, Tm.op, Tm.name, Tm.sort, Tm.args, okTms, and_true]
  refine ⟨?_, by simp [maxLen], ?_⟩
  · unfold I64; split <;> omega
  · unfold I64; omega
set_option maxHeartbeats 40000000 in
set_option maxRecDepth 100000 in
theorem con_l6Right (hokg : okSgn g) (hg : SgnOk g) {t : Tm} {o : Opr} {d : Dcl} (hA : AppOk g t o d) (hF : ∀ a ∈ t.args, FormOk g a) (hok : okTm t) (hb : sizeTm t ≤ big) : Con e0 143 [.agg (encSgn g), .agg (encTm t)] [.one (.lit (.bool (isRight g t.op t.args)))] := by
  have hno : ¬ RightOk g t.op t.args → isRight g t.op t.args = false := fun h => by simp [isRight, h]
  obtain ⟨k1, k2, k3, k4⟩ := okTm_iff.1 hok
  have hsz := sizeTm_eq t
  have hal := sizeTms_len t.args
  unfold big at hb
  have h0 := hA.lo
  have ho := hA.at'
  have hd := hA.fst
  obtain ⟨d', hd', hr0, hr1, hargs⟩ := hg.first ho
  rw [hd] at hd'
  injection hd' with hd'
  subst hd'
  have hax := hg.axs o (List.mem_of_getElem? ho)
  have hlo := hax.lo
  have hhi := hax.hi
  have hln := hg.len
  have cK := con_l3Kinds hokg.1 hg.sorts
  rw [encSrt] at cK
  have cUn := con_l6Unit hg h0 ho
  rw [encSgn] at cUn
  have hnoA : ∀ (i : Nat) a, t.args[i]? = some a → ¬ ArgOk g t.op o d t.args i a → isRight g t.op t.args = false := fun i a ha h => hno fun hR => h (hR o d ho hd i a ha)
  refine con_of_pwp e0_ok 9903595872146772515857895423 Try.func143 rfl (by kernel_rfl) (by kernel_rfl) rfl rfl ?_
  (repeat (first
    | with_reducible refine pwp_seqW ?_
    | with_reducible refine pwp_block ?_
    | ((first | with_reducible refine pwp_skip ?_ | with_reducible refine pwp_exit ?_); try refine wkI ?_)
    | (with_reducible refine pwp_ct ?_ ?_; · simp only [pz, ↓reduceIte, Nat.reduceEqDiff, tmz, encSgn, h0, ho, encOpr])
    | (with_reducible refine pwp_cf ?_ ?_; · simp only [pz, ↓reduceIte, Nat.reduceEqDiff, tmz, encSgn, h0, ho, encOpr])
    | (((first
      | with_reducible refine region_0k ?_
      | (with_reducible refine region_Dk (id := 11) 34 ?_ ?_; · kernel_rfl)
      | (with_reducible refine region_Dk (id := 13) 17 ?_ ?_; · kernel_rfl)
      ); intro ds hds; simp only [List.map] at hds; subst hds); refine reT (by simp only [pz, ↓reduceIte, Nat.reduceEqDiff, Nat.reduceAdd, Nat.reduceSub, Nat.reduceMul, Nat.reduceLeDiff, Nat.reduceBEq, Bool.false_eq_true, decide_true, decide_false, Int.reduceLE, Int.reduceToNat, Int.reduceLT, Int.reduceEq, eq_self, Nat.reduceShiftRight, Nat.reduceAnd, Nat.reduceBneDiff, tmz, encSgn, h0, ho, encOpr]; exact rfl) ?_; try refine wkI ?_)))
  ((first
    | with_reducible refine region_0k ?_
    | (with_reducible refine region_Dk (id := 11) 34 ?_ ?_; · kernel_rfl)
    | (with_reducible refine region_Dk (id := 13) 17 ?_ ?_; · kernel_rfl)
    ); intro ds hds; simp only [List.map] at hds; subst hds)
  (refine rcT (by simp only [pz, ↓reduceIte, Nat.reduceEqDiff, Nat.reduceAdd, Nat.reduceSub, Nat.reduceMul, Nat.reduceLeDiff, Nat.reduceBEq, Bool.false_eq_true, decide_true, decide_false, Int.reduceLE, Int.reduceToNat, Int.reduceLT, Int.reduceEq, eq_self, Nat.reduceShiftRight, Nat.reduceAnd, Nat.reduceBneDiff, tmz]; exact rfl) (cK) (by simp only [setA, retA]; exact rfl) ?_)
  (refine reT (by simp only [pz, ↓reduceIte, Nat.reduceEqDiff, Nat.reduceAdd, Nat.reduceSub, Nat.reduceMul, Nat.reduceLeDiff, Nat.reduceBEq, Bool.false_eq_true, decide_true, decide_false, Int.reduceLE, Int.reduceToNat, Int.reduceLT, Int.reduceEq, eq_self, Nat.reduceShiftRight, Nat.reduceAnd, Nat.reduceBneDiff, tmz]; exact rfl) ?_; first | (change pwp _ _ _ _ _) | refine wkI ?_ | skip)
  (repeat (first
    | with_reducible refine pwp_seqW ?_
    | with_reducible refine pwp_block ?_
    | ((first | with_reducible refine pwp_skip ?_ | with_reducible refine pwp_exit ?_); try refine wkI ?_)
    | (with_reducible refine pwp_ct ?_ ?_; · simp only [pz, ↓reduceIte, Nat.reduceEqDiff, tmz])
    | (with_reducible refine pwp_cf ?_ ?_; · simp only [pz, ↓reduceIte, Nat.reduceEqDiff, tmz])
    | (((first
      | with_reducible refine region_0k ?_
      | (with_reducible refine region_Dk (id := 11) 34 ?_ ?_; · kernel_rfl)
      | (with_reducible refine region_Dk (id := 13) 17 ?_ ?_; · kernel_rfl)
      ); intro ds hds; simp only [List.map] at hds; subst hds); refine reT (by simp only [pz, ↓reduceIte, Nat.reduceEqDiff, Nat.reduceAdd, Nat.reduceSub, Nat.reduceMul, Nat.reduceLeDiff, Nat.reduceBEq, Bool.false_eq_true, decide_true, decide_false, Int.reduceLE, Int.reduceToNat, Int.reduceLT, Int.reduceEq, eq_self, Nat.reduceShiftRight, Nat.reduceAnd, Nat.reduceBneDiff, tmz]; exact rfl) ?_; try refine wkI ?_)))
  ((first
    | with_reducible refine region_0k ?_
    | (with_reducible refine region_Dk (id := 11) 34 ?_ ?_; · kernel_rfl)
    | (with_reducible refine region_Dk (id := 13) 17 ?_ ?_; · kernel_rfl)
    ); intro ds hds; simp only [List.map] at hds; subst hds)
  (refine rcT (by simp only [pz, ↓reduceIte, Nat.reduceEqDiff, Nat.reduceAdd, Nat.reduceSub, Nat.reduceMul, Nat.reduceLeDiff, Nat.reduceBEq, Bool.false_eq_true, decide_true, decide_false, Int.reduceLE, Int.reduceToNat, Int.reduceLT, Int.reduceEq, eq_self, Nat.reduceShiftRight, Nat.reduceAnd, Nat.reduceBneDiff, tmz]; exact rfl) (cUn) (by simp only [setA, retA]; exact rfl) ?_)
  (refine reT (by simp only [pz, ↓reduceIte, Nat.reduceEqDiff, Nat.reduceAdd, Nat.reduceSub, Nat.reduceMul, Nat.reduceLeDiff, Nat.reduceBEq, Bool.false_eq_true, decide_true, decide_false, Int.reduceLE, Int.reduceToNat, Int.reduceLT, Int.reduceEq, eq_self, Nat.reduceShiftRight, Nat.reduceAnd, Nat.reduceBneDiff, tmz]; exact rfl) ?_; first | (change pwp _ _ _ _ _) | refine wkI ?_ | skip)
  (repeat (first
    | with_reducible refine pwp_seqW ?_
    | with_reducible refine pwp_block ?_
    | ((first | with_reducible refine pwp_skip ?_ | with_reducible refine pwp_exit ?_); try refine wkI ?_)
    | (with_reducible refine pwp_ct ?_ ?_; · simp only [pz, ↓reduceIte, Nat.reduceEqDiff, tmz])
    | (with_reducible refine pwp_cf ?_ ?_; · simp only [pz, ↓reduceIte, Nat.reduceEqDiff, tmz])
    | (((first
      | with_reducible refine region_0k ?_
      | (with_reducible refine region_Dk (id := 11) 34 ?_ ?_; · kernel_rfl)
      | (with_reducible refine region_Dk (id := 13) 17 ?_ ?_; · kernel_rfl)
      ); intro ds hds; simp only [List.map] at hds; subst hds); refine reT (by simp only [pz, ↓reduceIte, Nat.reduceEqDiff, Nat.reduceAdd, Nat.reduceSub, Nat.reduceMul, Nat.reduceLeDiff, Nat.reduceBEq, Bool.false_eq_true, decide_true, decide_false, Int.reduceLE, Int.reduceToNat, Int.reduceLT, Int.reduceEq, eq_self, Nat.reduceShiftRight, Nat.reduceAnd, Nat.reduceBneDiff, tmz]; exact rfl) ?_; try refine wkI ?_)))
  refine pwp_loopU (ι := Nat) [4, 9, 10, 11, 32, 42, 76, 93] [] (fun i => [(9, A.d (.one (.lit (.int .i64 i))))]) (fun i => []) (fun i => i ≤ t.args.length ∧ ∀ (j : Nat) a, j < i → t.args[j]? = some a → ArgOk g t.op o d t.args j a) (fun i => t.args.length - i) (0) (by simp only [headS, headM, List.elem_cons, List.elem_nil, Nat.reduceBEq, Bool.or_false, Bool.false_or, Bool.or_true, Bool.true_or, Bool.or_self, ↓reduceIte, Bool.false_eq_true]; exact rfl) (by simp only [headS, headM, List.elem_cons, List.elem_nil, Nat.reduceBEq, Bool.or_false, Bool.false_or, Bool.or_true, Bool.true_or, Bool.or_self, ↓reduceIte, Bool.false_eq_true]; exact rfl) (fun _ => by simp only [List.cons_append, List.nil_append]; exact rfl) (fun _ => by simp only [List.cons_append, List.nil_append]; exact rfl) (by simp [weakS, gs, e0P]) (by simp [weakM, gm, e0P]) (⟨by omega, fun j a h => absurd h (by omega)⟩) (fun i hi => ?_)
  obtain ⟨hil, hall⟩ := hi
  by_cases hl : i < t.args.length
  rotate_left
  · have hl' : ¬ ((i : Int) < (t.args.length : Int)) := by omega
    have hT : isRight g t.op t.args = true := by
      simp only [isRight, decide_eq_true_eq]
      intro o' d' ho' hd' j a hj
      rw [ho] at ho'
      injection ho' with ho'
      subst ho'
      rw [hd] at hd'
      injection hd' with hd'
      subst hd'
      exact hall j a (by have := (List.getElem?_eq_some_iff.1 hj).1; omega) hj
    ((repeat (first
      | with_reducible refine pwp_seqW ?_
      | with_reducible refine pwp_block ?_
      | ((first | with_reducible refine pwp_skip ?_ | with_reducible refine pwp_exit ?_); try refine wkI ?_)
      | (with_reducible refine pwp_ct ?_ ?_; · simp only [pz, ↓reduceIte, Nat.reduceEqDiff, tmz, hl', hT])
      | (with_reducible refine pwp_cf ?_ ?_; · simp only [pz, ↓reduceIte, Nat.reduceEqDiff, tmz, hl', hT])
      | (((first
        | with_reducible refine region_0k ?_
        | (with_reducible refine region_Dk (id := 11) 34 ?_ ?_; · kernel_rfl)
        | (with_reducible refine region_Dk (id := 13) 17 ?_ ?_; · kernel_rfl)
        ); intro ds hds; simp only [List.map] at hds; subst hds); refine reT (by simp only [pz, ↓reduceIte, Nat.reduceEqDiff, Nat.reduceAdd, Nat.reduceSub, Nat.reduceMul, Nat.reduceLeDiff, Nat.reduceBEq, Bool.false_eq_true, decide_true, decide_false, Int.reduceLE, Int.reduceToNat, Int.reduceLT, Int.reduceEq, eq_self, Nat.reduceShiftRight, Nat.reduceAnd, Nat.reduceBneDiff, tmz, hl', hT]; exact rfl) ?_; try refine wkI ?_)))
     refine pwp_ret (ret_ok ?_)
     simp [resOk, resA, resSlots, gs, tmz, hl', hT])
  have hl' : (i : Int) < (t.args.length : Int) := by omega
  obtain ⟨a, ha⟩ : ∃ a, t.args[i]? = some a := ⟨_, List.getElem?_eq_getElem hl⟩
  have hm := List.mem_of_getElem? ha
  have hFa := hF a hm
  have hw1 := wrap1 (k := i) (by omega)
  obtain ⟨k, hk⟩ := argAt_get hg ho hd hA.nas hl
  obtain ⟨hk0, hk1⟩ := hargs k (List.mem_of_getElem? hk)
  have hkd := kd_get hg.sorts hk0 hk1
  have cKa := con_l6Kind hokg hg hFa.node
  rw [encSgn] at cKa
  have cU := con_l5Same (k4.mem hm) (okTm_unit (o := o) hlo (by omega))
  have hUiff : o.unit ≠ 0 → (cmpTm a (unitTm o) = 0 ↔ a.op = o.unit - 1) := fun hu => by
    rw [cmpTm_iff]
    constructor
    · rintro h; rw [h]; simp [unitTm, Tm.op, hu]
    · exact unit_form hg ho hu hFa
  generalize hU : decide (cmpTm a (unitTm o) = 0) = U at cU
  have hnext : kindTm g a = ((kd g.sorts k : Nat) : Int) → (o.assoc = true → ¬ a.op = t.op) → (o.unit ≠ 0 → U = false) → (o.comm = true → ∀ (j : Nat) p, i = j + 1 → t.args[j]? = some p → cmpTm p a ≤ 0) → i + 1 ≤ t.args.length ∧ ∀ (j : Nat) a, j < i + 1 → t.args[j]? = some a → ArgOk g t.op o d t.args j a := fun hkk hne hU' hc => ⟨by omega, fun j a' hj ha' => by
    by_cases e : j = i
    · subst e
      rw [ha] at ha'
      injection ha' with ha'
      subst ha'
      refine ⟨fun k' hk' => ?_, hne, fun h1 h2 => ?_, hc⟩
      · rw [hk] at hk'
        injection hk' with hk'
        subst hk'
        exact hkk
      · have := hU' h1
        rw [this] at hU
        simp only [decide_eq_false_iff_not] at hU
        exact hU ((hUiff h1).2 h2)
    · exact hall j a' (by omega) ha'⟩
  have hkN : d.args[(argAt o i : Nat)]? = some k := hk
  (repeat (first
    | with_reducible refine pwp_seqW ?_
    | with_reducible refine pwp_block ?_
    | ((first | with_reducible refine pwp_skip ?_ | with_reducible refine pwp_exit ?_); try refine wkI ?_)
    | (with_reducible refine pwp_ct ?_ ?_; · simp only [pz, ↓reduceIte, Nat.reduceEqDiff, tmz, hl', ha])
    | (with_reducible refine pwp_cf ?_ ?_; · simp only [pz, ↓reduceIte, Nat.reduceEqDiff, tmz, hl', ha])
    | (((first
      | with_reducible refine region_0k ?_
      | (with_reducible refine region_Dk (id := 11) 34 ?_ ?_; · kernel_rfl)
      | (with_reducible refine region_Dk (id := 13) 17 ?_ ?_; · kernel_rfl)
      ); intro ds hds; simp only [List.map] at hds; subst hds); refine reT (by simp only [pz, ↓reduceIte, Nat.reduceEqDiff, Nat.reduceAdd, Nat.reduceSub, Nat.reduceMul, Nat.reduceLeDiff, Nat.reduceBEq, Bool.false_eq_true, decide_true, decide_false, Int.reduceLE, Int.reduceToNat, Int.reduceLT, Int.reduceEq, eq_self, Nat.reduceShiftRight, Nat.reduceAnd, Nat.reduceBneDiff, tmz, hl', ha]; exact rfl) ?_; try refine wkI ?_)))
  refine pwp_meetU (ι := Unit) (fun _ _ h p => Exists.elim p fun σ2 q => ⟨σ2, h.trans q.1, q.2⟩) [11] [] (fun u => [(11, A.d (.one (.lit (.int .i64 (argAt o i : Nat)))))]) (fun u => []) (fun u => True) (by simp only [headS, headM, List.elem_cons, List.elem_nil, Nat.reduceBEq, Bool.or_false, Bool.false_or, Bool.or_true, Bool.true_or, Bool.or_self, ↓reduceIte, Bool.false_eq_true]; exact rfl) (by simp only [headS, headM, List.elem_cons, List.elem_nil, Nat.reduceBEq, Bool.or_false, Bool.false_or, Bool.or_true, Bool.true_or, Bool.or_self, ↓reduceIte, Bool.false_eq_true]; exact rfl) (fun _ => by simp only [List.cons_append, List.nil_append]; exact rfl) (fun _ => by simp only [List.cons_append, List.nil_append]; exact rfl) ?_ (fun u hu => Exists.intro _ (And.intro (Wk.refl _) ?_))
  · rcases Bool.eq_false_or_eq_true o.assoc with hac | hac
    · ((repeat (first
        | with_reducible refine pwp_seqW ?_
        | with_reducible refine pwp_block ?_
        | ((first | with_reducible refine pwp_skip ?_ | with_reducible refine pwp_exit ?_); try refine wkI ?_)
        | (with_reducible refine pwp_ct ?_ ?_; · simp only [pz, ↓reduceIte, Nat.reduceEqDiff, encOpr, hac, argAt])
        | (with_reducible refine pwp_cf ?_ ?_; · simp only [pz, ↓reduceIte, Nat.reduceEqDiff, encOpr, hac, argAt])
        | (((first
          | with_reducible refine region_0k ?_
          | (with_reducible refine region_Dk (id := 11) 34 ?_ ?_; · kernel_rfl)
          | (with_reducible refine region_Dk (id := 13) 17 ?_ ?_; · kernel_rfl)
          ); intro ds hds; simp only [List.map] at hds; subst hds); refine reT (by simp only [pz, ↓reduceIte, Nat.reduceEqDiff, Nat.reduceAdd, Nat.reduceSub, Nat.reduceMul, Nat.reduceLeDiff, Nat.reduceBEq, Bool.false_eq_true, decide_true, decide_false, Int.reduceLE, Int.reduceToNat, Int.reduceLT, Int.reduceEq, eq_self, Nat.reduceShiftRight, Nat.reduceAnd, Nat.reduceBneDiff, encOpr, hac, argAt]; exact rfl) ?_; try refine wkI ?_)))
       exact ⟨(), trivial, by simp [weakS, gs, encOpr, hac, argAt], by simp [weakM, gm, encOpr, hac, argAt]⟩)
    · ((repeat (first
        | with_reducible refine pwp_seqW ?_
        | with_reducible refine pwp_block ?_
        | ((first | with_reducible refine pwp_skip ?_ | with_reducible refine pwp_exit ?_); try refine wkI ?_)
        | (with_reducible refine pwp_ct ?_ ?_; · simp only [pz, ↓reduceIte, Nat.reduceEqDiff, encOpr, hac, argAt, Bool.false_eq_true, if_false])
        | (with_reducible refine pwp_cf ?_ ?_; · simp only [pz, ↓reduceIte, Nat.reduceEqDiff, encOpr, hac, argAt, Bool.false_eq_true, if_false])
        | (((first
          | with_reducible refine region_0k ?_
          | (with_reducible refine region_Dk (id := 11) 34 ?_ ?_; · kernel_rfl)
          | (with_reducible refine region_Dk (id := 13) 17 ?_ ?_; · kernel_rfl)
          ); intro ds hds; simp only [List.map] at hds; subst hds); refine reT (by simp only [pz, ↓reduceIte, Nat.reduceEqDiff, Nat.reduceAdd, Nat.reduceSub, Nat.reduceMul, Nat.reduceLeDiff, Nat.reduceBEq, Bool.false_eq_true, decide_true, decide_false, Int.reduceLE, Int.reduceToNat, Int.reduceLT, Int.reduceEq, eq_self, Nat.reduceShiftRight, Nat.reduceAnd, Nat.reduceBneDiff, encOpr, hac, argAt, Bool.false_eq_true, if_false]; exact rfl) ?_; try refine wkI ?_)))
       exact ⟨(), trivial, by simp [weakS, gs, encOpr, hac, argAt, Bool.false_eq_true, if_false], by simp [weakM, gm, encOpr, hac, argAt, Bool.false_eq_true, if_false]⟩)
  (repeat (first
    | with_reducible refine pwp_seqW ?_
    | with_reducible refine pwp_block ?_
    | ((first | with_reducible refine pwp_skip ?_ | with_reducible refine pwp_exit ?_); try refine wkI ?_)
    | (with_reducible refine pwp_ct ?_ ?_; · simp only [pz, ↓reduceIte, Nat.reduceEqDiff, tmz])
    | (with_reducible refine pwp_cf ?_ ?_; · simp only [pz, ↓reduceIte, Nat.reduceEqDiff, tmz])
    | (((first
      | with_reducible refine region_0k ?_
      | (with_reducible refine region_Dk (id := 11) 34 ?_ ?_; · kernel_rfl)
      | (with_reducible refine region_Dk (id := 13) 17 ?_ ?_; · kernel_rfl)
      ); intro ds hds; simp only [List.map] at hds; subst hds); refine reT (by simp only [pz, ↓reduceIte, Nat.reduceEqDiff, Nat.reduceAdd, Nat.reduceSub, Nat.reduceMul, Nat.reduceLeDiff, Nat.reduceBEq, Bool.false_eq_true, decide_true, decide_false, Int.reduceLE, Int.reduceToNat, Int.reduceLT, Int.reduceEq, eq_self, Nat.reduceShiftRight, Nat.reduceAnd, Nat.reduceBneDiff, tmz]; exact rfl) ?_; try refine wkI ?_)))
  refine pwp_meetU (ι := Bool) (fun _ _ h p => Exists.elim p fun σ2 q => ⟨σ2, h.trans q.1, q.2⟩) [76] [] (fun x => [(76, A.d (.one (.lit (.bool x))))]) (fun x => []) (fun x => (x = true → isRight g t.op t.args = false) ∧ (x = false → kindTm g a = ((kd g.sorts k : Nat) : Int) ∧ (o.assoc = true → ¬ a.op = t.op) ∧ (o.unit ≠ 0 → U = false))) (by simp only [headS, headM, List.elem_cons, List.elem_nil, Nat.reduceBEq, Bool.or_false, Bool.false_or, Bool.or_true, Bool.true_or, Bool.or_self, ↓reduceIte, Bool.false_eq_true]; exact rfl) (by simp only [headS, headM, List.elem_cons, List.elem_nil, Nat.reduceBEq, Bool.or_false, Bool.false_or, Bool.or_true, Bool.true_or, Bool.or_self, ↓reduceIte, Bool.false_eq_true]; exact rfl) (fun _ => by simp only [List.cons_append, List.nil_append]; exact rfl) (fun _ => by simp only [List.cons_append, List.nil_append]; exact rfl) ?_ (fun x hx => Exists.intro _ (And.intro (Wk.refl _) ?_))
  · ((first
      | with_reducible refine region_0k ?_
      | (with_reducible refine region_Dk (id := 11) 34 ?_ ?_; · kernel_rfl)
      | (with_reducible refine region_Dk (id := 13) 17 ?_ ?_; · kernel_rfl)
      ); intro ds hds; simp only [List.map] at hds; subst hds)
    (refine rcT (by simp only [pz, ↓reduceIte, Nat.reduceEqDiff, Nat.reduceAdd, Nat.reduceSub, Nat.reduceMul, Nat.reduceLeDiff, Nat.reduceBEq, Bool.false_eq_true, decide_true, decide_false, Int.reduceLE, Int.reduceToNat, Int.reduceLT, Int.reduceEq, eq_self, Nat.reduceShiftRight, Nat.reduceAnd, Nat.reduceBneDiff, tmz]; exact rfl) (cKa) (by simp only [setA, retA]; exact rfl) ?_)
    by_cases hkk : kindTm g a = ((kd g.sorts k : Nat) : Int)
    rotate_left
    · have hf := hnoA i a ha fun h => hkk (h.kind k hk)
      (refine reT (by simp only [pz, ↓reduceIte, Nat.reduceEqDiff, Nat.reduceAdd, Nat.reduceSub, Nat.reduceMul, Nat.reduceLeDiff, Nat.reduceBEq, Bool.false_eq_true, decide_true, decide_false, Int.reduceLE, Int.reduceToNat, Int.reduceLT, Int.reduceEq, eq_self, Nat.reduceShiftRight, Nat.reduceAnd, Nat.reduceBneDiff, tmz, encOpr, hd, encDcl, hkN, hk0, hkd, encInt, hkk]; exact rfl) ?_; first | (change pwp _ _ _ _ _) | refine wkI ?_ | skip)
      ((repeat (first
        | with_reducible refine pwp_seqW ?_
        | with_reducible refine pwp_block ?_
        | ((first | with_reducible refine pwp_skip ?_ | with_reducible refine pwp_exit ?_); try refine wkI ?_)
        | (with_reducible refine pwp_ct ?_ ?_; · simp only [pz, ↓reduceIte, Nat.reduceEqDiff, tmz])
        | (with_reducible refine pwp_cf ?_ ?_; · simp only [pz, ↓reduceIte, Nat.reduceEqDiff, tmz])
        | (((first
          | with_reducible refine region_0k ?_
          | (with_reducible refine region_Dk (id := 11) 34 ?_ ?_; · kernel_rfl)
          | (with_reducible refine region_Dk (id := 13) 17 ?_ ?_; · kernel_rfl)
          ); intro ds hds; simp only [List.map] at hds; subst hds); refine reT (by simp only [pz, ↓reduceIte, Nat.reduceEqDiff, Nat.reduceAdd, Nat.reduceSub, Nat.reduceMul, Nat.reduceLeDiff, Nat.reduceBEq, Bool.false_eq_true, decide_true, decide_false, Int.reduceLE, Int.reduceToNat, Int.reduceLT, Int.reduceEq, eq_self, Nat.reduceShiftRight, Nat.reduceAnd, Nat.reduceBneDiff, tmz]; exact rfl) ?_; try refine wkI ?_)))
       exact ⟨true, ⟨fun _ => hf, fun h => by cases h⟩, by simp [weakS, gs, tmz], by simp [weakM, gm, tmz]⟩)
    by_cases hN : o.assoc = true ∧ a.op = t.op
    · have hf := hnoA i a ha fun h => h.nest hN.1 hN.2
      obtain ⟨hN1, hN2⟩ := hN
      (refine reT (by simp only [pz, ↓reduceIte, Nat.reduceEqDiff, Nat.reduceAdd, Nat.reduceSub, Nat.reduceMul, Nat.reduceLeDiff, Nat.reduceBEq, Bool.false_eq_true, decide_true, decide_false, Int.reduceLE, Int.reduceToNat, Int.reduceLT, Int.reduceEq, eq_self, Nat.reduceShiftRight, Nat.reduceAnd, Nat.reduceBneDiff, tmz, encOpr, hd, encDcl, hkN, hk0, hkd, encInt, hkk, hN1, hN2]; exact rfl) ?_; first | (change pwp _ _ _ _ _) | refine wkI ?_ | skip)
      ((repeat (first
        | with_reducible refine pwp_seqW ?_
        | with_reducible refine pwp_block ?_
        | ((first | with_reducible refine pwp_skip ?_ | with_reducible refine pwp_exit ?_); try refine wkI ?_)
        | (with_reducible refine pwp_ct ?_ ?_; · simp only [pz, ↓reduceIte, Nat.reduceEqDiff, tmz, hN1])
        | (with_reducible refine pwp_cf ?_ ?_; · simp only [pz, ↓reduceIte, Nat.reduceEqDiff, tmz, hN1])
        | (((first
          | with_reducible refine region_0k ?_
          | (with_reducible refine region_Dk (id := 11) 34 ?_ ?_; · kernel_rfl)
          | (with_reducible refine region_Dk (id := 13) 17 ?_ ?_; · kernel_rfl)
          ); intro ds hds; simp only [List.map] at hds; subst hds); refine reT (by simp only [pz, ↓reduceIte, Nat.reduceEqDiff, Nat.reduceAdd, Nat.reduceSub, Nat.reduceMul, Nat.reduceLeDiff, Nat.reduceBEq, Bool.false_eq_true, decide_true, decide_false, Int.reduceLE, Int.reduceToNat, Int.reduceLT, Int.reduceEq, eq_self, Nat.reduceShiftRight, Nat.reduceAnd, Nat.reduceBneDiff, tmz, hN1]; exact rfl) ?_; try refine wkI ?_)))
       exact ⟨true, ⟨fun _ => hf, fun h => by cases h⟩, by simp [weakS, gs, tmz, hN1], by simp [weakM, gm, tmz, hN1]⟩)
    have hne : o.assoc = true → ¬ a.op = t.op := fun h1 h2 => hN ⟨h1, h2⟩
    rcases Bool.eq_false_or_eq_true o.assoc with hac | hac
    all_goals (
      by_cases hu : o.unit = 0
      · (refine reT (by simp only [pz, ↓reduceIte, Nat.reduceEqDiff, Nat.reduceAdd, Nat.reduceSub, Nat.reduceMul, Nat.reduceLeDiff, Nat.reduceBEq, Bool.false_eq_true, decide_true, decide_false, Int.reduceLE, Int.reduceToNat, Int.reduceLT, Int.reduceEq, eq_self, Nat.reduceShiftRight, Nat.reduceAnd, Nat.reduceBneDiff, tmz, encOpr, hd, encDcl, hkN, hk0, hkd, encInt, hkk, hac, hne, hu]; exact rfl) ?_; first | (change pwp _ _ _ _ _) | refine wkI ?_ | skip)
        ((repeat (first
          | with_reducible refine pwp_seqW ?_
          | with_reducible refine pwp_block ?_
          | ((first | with_reducible refine pwp_skip ?_ | with_reducible refine pwp_exit ?_); try refine wkI ?_)
          | (with_reducible refine pwp_ct ?_ ?_; · simp only [pz, ↓reduceIte, Nat.reduceEqDiff, tmz, hac, hu])
          | (with_reducible refine pwp_cf ?_ ?_; · simp only [pz, ↓reduceIte, Nat.reduceEqDiff, tmz, hac, hu])
          | (((first
            | with_reducible refine region_0k ?_
            | (with_reducible refine region_Dk (id := 11) 34 ?_ ?_; · kernel_rfl)
            | (with_reducible refine region_Dk (id := 13) 17 ?_ ?_; · kernel_rfl)
            ); intro ds hds; simp only [List.map] at hds; subst hds); refine reT (by simp only [pz, ↓reduceIte, Nat.reduceEqDiff, Nat.reduceAdd, Nat.reduceSub, Nat.reduceMul, Nat.reduceLeDiff, Nat.reduceBEq, Bool.false_eq_true, decide_true, decide_false, Int.reduceLE, Int.reduceToNat, Int.reduceLT, Int.reduceEq, eq_self, Nat.reduceShiftRight, Nat.reduceAnd, Nat.reduceBneDiff, tmz, hac, hu]; exact rfl) ?_; try refine wkI ?_)))
         exact ⟨false, ⟨fun h => (by cases h), fun _ => ⟨hkk, hne, fun h => absurd hu h⟩⟩, by simp [weakS, gs, tmz, hac, hu], by simp [weakM, gm, tmz, hac, hu]⟩)
      (refine rcT (by simp only [pz, ↓reduceIte, Nat.reduceEqDiff, Nat.reduceAdd, Nat.reduceSub, Nat.reduceMul, Nat.reduceLeDiff, Nat.reduceBEq, Bool.false_eq_true, decide_true, decide_false, Int.reduceLE, Int.reduceToNat, Int.reduceLT, Int.reduceEq, eq_self, Nat.reduceShiftRight, Nat.reduceAnd, Nat.reduceBneDiff, tmz, encOpr, hd, encDcl, hkN, hk0, hkd, encInt, hkk, hac, hne, hu]; exact rfl) (cU) (by simp only [setA, retA]; exact rfl) ?_)
      rcases Bool.eq_false_or_eq_true U with hub | hub
      · have hf := hnoA i a ha fun h => by
          rw [hub] at hU
          simp only [decide_eq_true_eq] at hU
          exact h.unit hu ((hUiff hu).1 hU)
        (refine reT (by simp only [pz, ↓reduceIte, Nat.reduceEqDiff, Nat.reduceAdd, Nat.reduceSub, Nat.reduceMul, Nat.reduceLeDiff, Nat.reduceBEq, Bool.false_eq_true, decide_true, decide_false, Int.reduceLE, Int.reduceToNat, Int.reduceLT, Int.reduceEq, eq_self, Nat.reduceShiftRight, Nat.reduceAnd, Nat.reduceBneDiff, tmz, hub]; exact rfl) ?_; first | (change pwp _ _ _ _ _) | refine wkI ?_ | skip)
        ((repeat (first
          | with_reducible refine pwp_seqW ?_
          | with_reducible refine pwp_block ?_
          | ((first | with_reducible refine pwp_skip ?_ | with_reducible refine pwp_exit ?_); try refine wkI ?_)
          | (with_reducible refine pwp_ct ?_ ?_; · simp only [pz, ↓reduceIte, Nat.reduceEqDiff, tmz, hac, hu])
          | (with_reducible refine pwp_cf ?_ ?_; · simp only [pz, ↓reduceIte, Nat.reduceEqDiff, tmz, hac, hu])
          | (((first
            | with_reducible refine region_0k ?_
            | (with_reducible refine region_Dk (id := 11) 34 ?_ ?_; · kernel_rfl)
            | (with_reducible refine region_Dk (id := 13) 17 ?_ ?_; · kernel_rfl)
            ); intro ds hds; simp only [List.map] at hds; subst hds); refine reT (by simp only [pz, ↓reduceIte, Nat.reduceEqDiff, Nat.reduceAdd, Nat.reduceSub, Nat.reduceMul, Nat.reduceLeDiff, Nat.reduceBEq, Bool.false_eq_true, decide_true, decide_false, Int.reduceLE, Int.reduceToNat, Int.reduceLT, Int.reduceEq, eq_self, Nat.reduceShiftRight, Nat.reduceAnd, Nat.reduceBneDiff, tmz, hac, hu]; exact rfl) ?_; try refine wkI ?_)))
         exact ⟨true, ⟨fun _ => hf, fun h => by cases h⟩, by simp [weakS, gs, tmz, hac, hu], by simp [weakM, gm, tmz, hac, hu]⟩)
      · (refine reT (by simp only [pz, ↓reduceIte, Nat.reduceEqDiff, Nat.reduceAdd, Nat.reduceSub, Nat.reduceMul, Nat.reduceLeDiff, Nat.reduceBEq, Bool.false_eq_true, decide_true, decide_false, Int.reduceLE, Int.reduceToNat, Int.reduceLT, Int.reduceEq, eq_self, Nat.reduceShiftRight, Nat.reduceAnd, Nat.reduceBneDiff, tmz, hub]; exact rfl) ?_; first | (change pwp _ _ _ _ _) | refine wkI ?_ | skip)
        ((repeat (first
          | with_reducible refine pwp_seqW ?_
          | with_reducible refine pwp_block ?_
          | ((first | with_reducible refine pwp_skip ?_ | with_reducible refine pwp_exit ?_); try refine wkI ?_)
          | (with_reducible refine pwp_ct ?_ ?_; · simp only [pz, ↓reduceIte, Nat.reduceEqDiff, tmz, hac, hu])
          | (with_reducible refine pwp_cf ?_ ?_; · simp only [pz, ↓reduceIte, Nat.reduceEqDiff, tmz, hac, hu])
          | (((first
            | with_reducible refine region_0k ?_
            | (with_reducible refine region_Dk (id := 11) 34 ?_ ?_; · kernel_rfl)
            | (with_reducible refine region_Dk (id := 13) 17 ?_ ?_; · kernel_rfl)
            ); intro ds hds; simp only [List.map] at hds; subst hds); refine reT (by simp only [pz, ↓reduceIte, Nat.reduceEqDiff, Nat.reduceAdd, Nat.reduceSub, Nat.reduceMul, Nat.reduceLeDiff, Nat.reduceBEq, Bool.false_eq_true, decide_true, decide_false, Int.reduceLE, Int.reduceToNat, Int.reduceLT, Int.reduceEq, eq_self, Nat.reduceShiftRight, Nat.reduceAnd, Nat.reduceBneDiff, tmz, hac, hu]; exact rfl) ?_; try refine wkI ?_)))
         exact ⟨false, ⟨fun h => (by cases h), fun _ => ⟨hkk, hne, fun _ => hub⟩⟩, by simp [weakS, gs, tmz, hac, hu], by simp [weakM, gm, tmz, hac, hu]⟩))
  cases x with
  | true =>
    have hf := hx.1 rfl
    ((repeat (first
      | with_reducible refine pwp_seqW ?_
      | with_reducible refine pwp_block ?_
      | ((first | with_reducible refine pwp_skip ?_ | with_reducible refine pwp_exit ?_); try refine wkI ?_)
      | (with_reducible refine pwp_ct ?_ ?_; · simp only [pz, ↓reduceIte, Nat.reduceEqDiff, hf])
      | (with_reducible refine pwp_cf ?_ ?_; · simp only [pz, ↓reduceIte, Nat.reduceEqDiff, hf])
      | (((first
        | with_reducible refine region_0k ?_
        | (with_reducible refine region_Dk (id := 11) 34 ?_ ?_; · kernel_rfl)
        | (with_reducible refine region_Dk (id := 13) 17 ?_ ?_; · kernel_rfl)
        ); intro ds hds; simp only [List.map] at hds; subst hds); refine reT (by simp only [pz, ↓reduceIte, Nat.reduceEqDiff, Nat.reduceAdd, Nat.reduceSub, Nat.reduceMul, Nat.reduceLeDiff, Nat.reduceBEq, Bool.false_eq_true, decide_true, decide_false, Int.reduceLE, Int.reduceToNat, Int.reduceLT, Int.reduceEq, eq_self, Nat.reduceShiftRight, Nat.reduceAnd, Nat.reduceBneDiff, hf]; exact rfl) ?_; try refine wkI ?_)))
     refine pwp_ret (ret_ok ?_)
     simp [resOk, resA, resSlots, gs, hf])
  | false =>
    obtain ⟨hkk, hne, hub⟩ := hx.2 rfl
    (repeat (first
      | with_reducible refine pwp_seqW ?_
      | with_reducible refine pwp_block ?_
      | ((first | with_reducible refine pwp_skip ?_ | with_reducible refine pwp_exit ?_); try refine wkI ?_)
      | (with_reducible refine pwp_ct ?_ ?_; · simp only [pz, ↓reduceIte, Nat.reduceEqDiff, tmz])
      | (with_reducible refine pwp_cf ?_ ?_; · simp only [pz, ↓reduceIte, Nat.reduceEqDiff, tmz])
      | (((first
        | with_reducible refine region_0k ?_
        | (with_reducible refine region_Dk (id := 11) 34 ?_ ?_; · kernel_rfl)
        | (with_reducible refine region_Dk (id := 13) 17 ?_ ?_; · kernel_rfl)
        ); intro ds hds; simp only [List.map] at hds; subst hds); refine reT (by simp only [pz, ↓reduceIte, Nat.reduceEqDiff, Nat.reduceAdd, Nat.reduceSub, Nat.reduceMul, Nat.reduceLeDiff, Nat.reduceBEq, Bool.false_eq_true, decide_true, decide_false, Int.reduceLE, Int.reduceToNat, Int.reduceLT, Int.reduceEq, eq_self, Nat.reduceShiftRight, Nat.reduceAnd, Nat.reduceBneDiff, tmz]; exact rfl) ?_; try refine wkI ?_)))
    rcases Bool.eq_false_or_eq_true o.comm with hcm | hcm
    rotate_left
    · have hq := hnext hkk hne hub (fun h => by rw [hcm] at h; cases h)
      ((repeat (first
        | with_reducible refine pwp_seqW ?_
        | with_reducible refine pwp_block ?_
        | ((first | with_reducible refine pwp_skip ?_ | with_reducible refine pwp_exit ?_); try refine wkI ?_)
        | (with_reducible refine pwp_ct ?_ ?_; · simp only [pz, ↓reduceIte, Nat.reduceEqDiff, hw1, tmz, encOpr, hcm])
        | (with_reducible refine pwp_cf ?_ ?_; · simp only [pz, ↓reduceIte, Nat.reduceEqDiff, hw1, tmz, encOpr, hcm])
        | (((first
          | with_reducible refine region_0k ?_
          | (with_reducible refine region_Dk (id := 11) 34 ?_ ?_; · kernel_rfl)
          | (with_reducible refine region_Dk (id := 13) 17 ?_ ?_; · kernel_rfl)
          ); intro ds hds; simp only [List.map] at hds; subst hds); refine reT (by simp only [pz, ↓reduceIte, Nat.reduceEqDiff, Nat.reduceAdd, Nat.reduceSub, Nat.reduceMul, Nat.reduceLeDiff, Nat.reduceBEq, Bool.false_eq_true, decide_true, decide_false, Int.reduceLE, Int.reduceToNat, Int.reduceLT, Int.reduceEq, eq_self, Nat.reduceShiftRight, Nat.reduceAnd, Nat.reduceBneDiff, hw1, tmz, encOpr, hcm]; exact rfl) ?_; try refine wkI ?_)))
       exact ⟨i + 1, hq, by simp [weakS, gs, hw1, tmz, encOpr, hcm], by simp [weakM, gm, hw1, tmz, encOpr, hcm], by omega⟩)
    rcases Nat.eq_zero_or_pos i with hi0 | hi0
    · have hq := hnext hkk hne hub (fun _ j p h => by omega)
      have hi0' : ¬ ((0 : Int) < (i : Int)) := by omega
      ((repeat (first
        | with_reducible refine pwp_seqW ?_
        | with_reducible refine pwp_block ?_
        | ((first | with_reducible refine pwp_skip ?_ | with_reducible refine pwp_exit ?_); try refine wkI ?_)
        | (with_reducible refine pwp_ct ?_ ?_; · simp only [pz, ↓reduceIte, Nat.reduceEqDiff, hw1, tmz, encOpr, hcm, hi0'])
        | (with_reducible refine pwp_cf ?_ ?_; · simp only [pz, ↓reduceIte, Nat.reduceEqDiff, hw1, tmz, encOpr, hcm, hi0'])
        | (((first
          | with_reducible refine region_0k ?_
          | (with_reducible refine region_Dk (id := 11) 34 ?_ ?_; · kernel_rfl)
          | (with_reducible refine region_Dk (id := 13) 17 ?_ ?_; · kernel_rfl)
          ); intro ds hds; simp only [List.map] at hds; subst hds); refine reT (by simp only [pz, ↓reduceIte, Nat.reduceEqDiff, Nat.reduceAdd, Nat.reduceSub, Nat.reduceMul, Nat.reduceLeDiff, Nat.reduceBEq, Bool.false_eq_true, decide_true, decide_false, Int.reduceLE, Int.reduceToNat, Int.reduceLT, Int.reduceEq, eq_self, Nat.reduceShiftRight, Nat.reduceAnd, Nat.reduceBneDiff, hw1, tmz, encOpr, hcm, hi0']; exact rfl) ?_; try refine wkI ?_)))
       exact ⟨i + 1, hq, by simp [weakS, gs, hw1, tmz, encOpr, hcm, hi0'], by simp [weakM, gm, hw1, tmz, encOpr, hcm, hi0'], by omega⟩)
    obtain ⟨j, hj⟩ : ∃ j, i = j + 1 := ⟨i - 1, by omega⟩
    obtain ⟨p, hp⟩ : ∃ p, t.args[j]? = some p := ⟨_, List.getElem?_eq_getElem (by omega)⟩
    have cC := con_specCmp (k4.mem (List.mem_of_getElem? hp)) (k4.mem hm)
    have hgt0 : (0 : Int) < (i : Int) := by omega
    have hsub : IntKind.i64.wrap ((i : Int) - 1) = (j : Int) := wrapN (by omega) (by omega) (by omega)
    ((first
      | with_reducible refine region_0k ?_
      | (with_reducible refine region_Dk (id := 11) 34 ?_ ?_; · kernel_rfl)
      | (with_reducible refine region_Dk (id := 13) 17 ?_ ?_; · kernel_rfl)
      ); intro ds hds; simp only [List.map] at hds; subst hds)
    (refine rcT (by simp only [pz, ↓reduceIte, Nat.reduceEqDiff, Nat.reduceAdd, Nat.reduceSub, Nat.reduceMul, Nat.reduceLeDiff, Nat.reduceBEq, Bool.false_eq_true, decide_true, decide_false, Int.reduceLE, Int.reduceToNat, Int.reduceLT, Int.reduceEq, eq_self, Nat.reduceShiftRight, Nat.reduceAnd, Nat.reduceBneDiff, tmz, encOpr, hcm, hgt0, hsub, hp]; exact rfl) (cC) (by simp only [setA, retA]; exact rfl) ?_)
    by_cases hc : 0 < cmpTm p a
    · have hf := hnoA i a ha fun h => by have := h.ord hcm j p hj hp; omega
      (refine reT (by simp only [pz, ↓reduceIte, Nat.reduceEqDiff, Nat.reduceAdd, Nat.reduceSub, Nat.reduceMul, Nat.reduceLeDiff, Nat.reduceBEq, Bool.false_eq_true, decide_true, decide_false, Int.reduceLE, Int.reduceToNat, Int.reduceLT, Int.reduceEq, eq_self, Nat.reduceShiftRight, Nat.reduceAnd, Nat.reduceBneDiff, tmz, hc]; exact rfl) ?_; first | (change pwp _ _ _ _ _) | refine wkI ?_ | skip)
      ((repeat (first
        | with_reducible refine pwp_seqW ?_
        | with_reducible refine pwp_block ?_
        | ((first | with_reducible refine pwp_skip ?_ | with_reducible refine pwp_exit ?_); try refine wkI ?_)
        | (with_reducible refine pwp_ct ?_ ?_; · simp only [pz, ↓reduceIte, Nat.reduceEqDiff, hf])
        | (with_reducible refine pwp_cf ?_ ?_; · simp only [pz, ↓reduceIte, Nat.reduceEqDiff, hf])
        | (((first
          | with_reducible refine region_0k ?_
          | (with_reducible refine region_Dk (id := 11) 34 ?_ ?_; · kernel_rfl)
          | (with_reducible refine region_Dk (id := 13) 17 ?_ ?_; · kernel_rfl)
          ); intro ds hds; simp only [List.map] at hds; subst hds); refine reT (by simp only [pz, ↓reduceIte, Nat.reduceEqDiff, Nat.reduceAdd, Nat.reduceSub, Nat.reduceMul, Nat.reduceLeDiff, Nat.reduceBEq, Bool.false_eq_true, decide_true, decide_false, Int.reduceLE, Int.reduceToNat, Int.reduceLT, Int.reduceEq, eq_self, Nat.reduceShiftRight, Nat.reduceAnd, Nat.reduceBneDiff, hf]; exact rfl) ?_; try refine wkI ?_)))
       refine pwp_ret (ret_ok ?_)
       simp [resOk, resA, resSlots, gs, hf])
    · have hq := hnext hkk hne hub (fun _ j' p' h hp' => by
        have : j' = j := by omega
        subst this
        rw [hp] at hp'
        injection hp' with hp'
        subst hp'
        omega)
      (refine reT (by simp only [pz, ↓reduceIte, Nat.reduceEqDiff, Nat.reduceAdd, Nat.reduceSub, Nat.reduceMul, Nat.reduceLeDiff, Nat.reduceBEq, Bool.false_eq_true, decide_true, decide_false, Int.reduceLE, Int.reduceToNat, Int.reduceLT, Int.reduceEq, eq_self, Nat.reduceShiftRight, Nat.reduceAnd, Nat.reduceBneDiff, tmz, hc]; exact rfl) ?_; first | (change pwp _ _ _ _ _) | refine wkI ?_ | skip)
      ((repeat (first
        | with_reducible refine pwp_seqW ?_
        | with_reducible refine pwp_block ?_
        | ((first | with_reducible refine pwp_skip ?_ | with_reducible refine pwp_exit ?_); try refine wkI ?_)
        | (with_reducible refine pwp_ct ?_ ?_; · simp only [pz, ↓reduceIte, Nat.reduceEqDiff, hw1, tmz, encOpr, hcm])
        | (with_reducible refine pwp_cf ?_ ?_; · simp only [pz, ↓reduceIte, Nat.reduceEqDiff, hw1, tmz, encOpr, hcm])
        | (((first
          | with_reducible refine region_0k ?_
          | (with_reducible refine region_Dk (id := 11) 34 ?_ ?_; · kernel_rfl)
          | (with_reducible refine region_Dk (id := 13) 17 ?_ ?_; · kernel_rfl)
          ); intro ds hds; simp only [List.map] at hds; subst hds); refine reT (by simp only [pz, ↓reduceIte, Nat.reduceEqDiff, Nat.reduceAdd, Nat.reduceSub, Nat.reduceMul, Nat.reduceLeDiff, Nat.reduceBEq, Bool.false_eq_true, decide_true, decide_false, Int.reduceLE, Int.reduceToNat, Int.reduceLT, Int.reduceEq, eq_self, Nat.reduceShiftRight, Nat.reduceAnd, Nat.reduceBneDiff, hw1, tmz, encOpr, hcm]; exact rfl) ?_; try refine wkI ?_)))
       exact ⟨i + 1, hq, by simp [weakS, gs, hw1, tmz, encOpr, hcm], by simp [weakM, gm, hw1, tmz, encOpr, hcm], by omega⟩)
set_option maxHeartbeats 40000000 in
set_option maxRecDepth 100000 in
theorem con_l6Form_all (hokg : okSgn g) (hg : SgnOk g) : ∀ (n : Nat) (t : Tm), sizeTm t < n → okTm t → sizeTm t ≤ big → Con e0 100 [.agg (encSgn g), .agg (encTm t)] [.one (.lit (.bool (isForm g t)))] := by
  intro n
  induction n with
  | zero => intro t h; omega
  | succ n ih =>
    intro t hn hok hb
    have hno : ¬ FormOk g t → isForm g t = false := isForm_false
    obtain ⟨k1, k2, k3, k4⟩ := okTm_iff.1 hok
    have hsz := sizeTm_eq t
    have hal := sizeTms_len t.args
    have cN := con_l6Node hg hok hb
    have hb' := hb
    unfold big at hb'
    rw [encSgn] at cN
    have ih' := fun a h1 h2 h3 => ih a h1 h2 h3
    simp only [encSgn] at ih'
    refine con_of_pwp e0_ok 16794175 Try.func100 rfl (by kernel_rfl) (by kernel_rfl) rfl rfl ?_
    (repeat (first
      | with_reducible refine pwp_seqW ?_
      | with_reducible refine pwp_block ?_
      | ((first | with_reducible refine pwp_skip ?_ | with_reducible refine pwp_exit ?_); try refine wkI ?_)
      | (with_reducible refine pwp_ct ?_ ?_; · simp only [pz, ↓reduceIte, Nat.reduceEqDiff, tmz, encSgn])
      | (with_reducible refine pwp_cf ?_ ?_; · simp only [pz, ↓reduceIte, Nat.reduceEqDiff, tmz, encSgn])
      | (((first
        | with_reducible refine region_0k ?_
        | (with_reducible refine region_Dk (id := 6) 8 ?_ ?_; · kernel_rfl)
        ); intro ds hds; simp only [List.map] at hds; subst hds); refine reT (by simp only [pz, ↓reduceIte, Nat.reduceEqDiff, Nat.reduceAdd, Nat.reduceSub, Nat.reduceMul, Nat.reduceLeDiff, Nat.reduceBEq, Bool.false_eq_true, decide_true, decide_false, Int.reduceLE, Int.reduceToNat, Int.reduceLT, Int.reduceEq, eq_self, Nat.reduceShiftRight, Nat.reduceAnd, Nat.reduceBneDiff, tmz, encSgn]; exact rfl) ?_; try refine wkI ?_)))
    ((first
      | with_reducible refine region_0k ?_
      | (with_reducible refine region_Dk (id := 6) 8 ?_ ?_; · kernel_rfl)
      ); intro ds hds; simp only [List.map] at hds; subst hds)
    (refine rcT (by simp only [pz, ↓reduceIte, Nat.reduceEqDiff, Nat.reduceAdd, Nat.reduceSub, Nat.reduceMul, Nat.reduceLeDiff, Nat.reduceBEq, Bool.false_eq_true, decide_true, decide_false, Int.reduceLE, Int.reduceToNat, Int.reduceLT, Int.reduceEq, eq_self, Nat.reduceShiftRight, Nat.reduceAnd, Nat.reduceBneDiff, tmz]; exact rfl) (cN) (by simp only [setA, retA]; exact rfl) ?_)
    by_cases hN : isNode g t = true
    rotate_left
    · have hf := hno fun h => hN (isNode_true h.node)
      have hN' : isNode g t = false := by simpa using hN
      (refine reT (by simp only [pz, ↓reduceIte, Nat.reduceEqDiff, Nat.reduceAdd, Nat.reduceSub, Nat.reduceMul, Nat.reduceLeDiff, Nat.reduceBEq, Bool.false_eq_true, decide_true, decide_false, Int.reduceLE, Int.reduceToNat, Int.reduceLT, Int.reduceEq, eq_self, Nat.reduceShiftRight, Nat.reduceAnd, Nat.reduceBneDiff, tmz, hN']; exact rfl) ?_; first | (change pwp _ _ _ _ _) | refine wkI ?_ | skip)
      ((repeat (first
        | with_reducible refine pwp_seqW ?_
        | with_reducible refine pwp_block ?_
        | ((first | with_reducible refine pwp_skip ?_ | with_reducible refine pwp_exit ?_); try refine wkI ?_)
        | (with_reducible refine pwp_ct ?_ ?_; · simp only [pz, ↓reduceIte, Nat.reduceEqDiff, hf])
        | (with_reducible refine pwp_cf ?_ ?_; · simp only [pz, ↓reduceIte, Nat.reduceEqDiff, hf])
        | (((first
          | with_reducible refine region_0k ?_
          | (with_reducible refine region_Dk (id := 6) 8 ?_ ?_; · kernel_rfl)
          ); intro ds hds; simp only [List.map] at hds; subst hds); refine reT (by simp only [pz, ↓reduceIte, Nat.reduceEqDiff, Nat.reduceAdd, Nat.reduceSub, Nat.reduceMul, Nat.reduceLeDiff, Nat.reduceBEq, Bool.false_eq_true, decide_true, decide_false, Int.reduceLE, Int.reduceToNat, Int.reduceLT, Int.reduceEq, eq_self, Nat.reduceShiftRight, Nat.reduceAnd, Nat.reduceBneDiff, hf]; exact rfl) ?_; try refine wkI ?_)))
       refine pwp_ret (ret_ok ?_)
       simp [resOk, resA, resSlots, gs, hf])
    have hNd := isNode_iff.1 hN
    (refine reT (by simp only [pz, ↓reduceIte, Nat.reduceEqDiff, Nat.reduceAdd, Nat.reduceSub, Nat.reduceMul, Nat.reduceLeDiff, Nat.reduceBEq, Bool.false_eq_true, decide_true, decide_false, Int.reduceLE, Int.reduceToNat, Int.reduceLT, Int.reduceEq, eq_self, Nat.reduceShiftRight, Nat.reduceAnd, Nat.reduceBneDiff, tmz, hN]; exact rfl) ?_; first | (change pwp _ _ _ _ _) | refine wkI ?_ | skip)
    (repeat (first
      | with_reducible refine pwp_seqW ?_
      | with_reducible refine pwp_block ?_
      | ((first | with_reducible refine pwp_skip ?_ | with_reducible refine pwp_exit ?_); try refine wkI ?_)
      | (with_reducible refine pwp_ct ?_ ?_; · simp only [pz, ↓reduceIte, Nat.reduceEqDiff, tmz])
      | (with_reducible refine pwp_cf ?_ ?_; · simp only [pz, ↓reduceIte, Nat.reduceEqDiff, tmz])
      | (((first
        | with_reducible refine region_0k ?_
        | (with_reducible refine region_Dk (id := 6) 8 ?_ ?_; · kernel_rfl)
        ); intro ds hds; simp only [List.map] at hds; subst hds); refine reT (by simp only [pz, ↓reduceIte, Nat.reduceEqDiff, Nat.reduceAdd, Nat.reduceSub, Nat.reduceMul, Nat.reduceLeDiff, Nat.reduceBEq, Bool.false_eq_true, decide_true, decide_false, Int.reduceLE, Int.reduceToNat, Int.reduceLT, Int.reduceEq, eq_self, Nat.reduceShiftRight, Nat.reduceAnd, Nat.reduceBneDiff, tmz]; exact rfl) ?_; try refine wkI ?_)))
    refine pwp_loopU (ι := Nat) [4, 5, 14, 24] [] (fun i => [(5, A.d (.one (.lit (.int .i64 i))))]) (fun i => []) (fun i => i ≤ t.args.length ∧ ∀ (j : Nat) a, j < i → t.args[j]? = some a → FormOk g a) (fun i => t.args.length - i) (0) (by simp only [headS, headM, List.elem_cons, List.elem_nil, Nat.reduceBEq, Bool.or_false, Bool.false_or, Bool.or_true, Bool.true_or, Bool.or_self, ↓reduceIte, Bool.false_eq_true]; exact rfl) (by simp only [headS, headM, List.elem_cons, List.elem_nil, Nat.reduceBEq, Bool.or_false, Bool.false_or, Bool.or_true, Bool.true_or, Bool.or_self, ↓reduceIte, Bool.false_eq_true]; exact rfl) (fun _ => by simp only [List.cons_append, List.nil_append]; exact rfl) (fun _ => by simp only [List.cons_append, List.nil_append]; exact rfl) (by simp [weakS, gs, e0P]) (by simp [weakM, gm, e0P]) (⟨by omega, fun j a h => absurd h (by omega)⟩) (fun i hi => ?_)
    obtain ⟨hil, hall⟩ := hi
    by_cases hl : i < t.args.length
    rotate_left
    · have hl' : ¬ ((i : Int) < (t.args.length : Int)) := by omega
      have hF : ∀ a ∈ t.args, FormOk g a := fun a ha => by
        obtain ⟨j, hj⟩ := List.getElem?_of_mem ha
        exact hall j a (by have := (List.getElem?_eq_some_iff.1 hj).1; omega) hj
      by_cases h1 : t.op = -1
      · have hT := isForm_true (g := g) (t := t) (FormOk_iff.2 ⟨hNd, hF, .inl h1⟩)
        ((repeat (first
          | with_reducible refine pwp_seqW ?_
          | with_reducible refine pwp_block ?_
          | ((first | with_reducible refine pwp_skip ?_ | with_reducible refine pwp_exit ?_); try refine wkI ?_)
          | (with_reducible refine pwp_ct ?_ ?_; · simp only [pz, ↓reduceIte, Nat.reduceEqDiff, tmz, hl', h1, hT])
          | (with_reducible refine pwp_cf ?_ ?_; · simp only [pz, ↓reduceIte, Nat.reduceEqDiff, tmz, hl', h1, hT])
          | (((first
            | with_reducible refine region_0k ?_
            | (with_reducible refine region_Dk (id := 6) 8 ?_ ?_; · kernel_rfl)
            ); intro ds hds; simp only [List.map] at hds; subst hds); refine reT (by simp only [pz, ↓reduceIte, Nat.reduceEqDiff, Nat.reduceAdd, Nat.reduceSub, Nat.reduceMul, Nat.reduceLeDiff, Nat.reduceBEq, Bool.false_eq_true, decide_true, decide_false, Int.reduceLE, Int.reduceToNat, Int.reduceLT, Int.reduceEq, eq_self, Nat.reduceShiftRight, Nat.reduceAnd, Nat.reduceBneDiff, tmz, hl', h1, hT]; exact rfl) ?_; try refine wkI ?_)))
         refine pwp_ret (ret_ok ?_)
         simp [resOk, resA, resSlots, gs, tmz, hl', h1, hT])
      obtain ⟨o, d, hA⟩ := hNd.app h1
      have cR := con_l6Right hokg hg hA hF hok hb
      rw [encSgn] at cR
      have e : isRight g t.op t.args = isForm g t := by
        unfold isRight isForm
        congr 1
        rw [FormOk_iff]
        exact propext ⟨fun h => ⟨hNd, hF, .inr h⟩, fun h => h.2.2.resolve_left h1⟩
      (repeat (first
        | with_reducible refine pwp_seqW ?_
        | with_reducible refine pwp_block ?_
        | ((first | with_reducible refine pwp_skip ?_ | with_reducible refine pwp_exit ?_); try refine wkI ?_)
        | (with_reducible refine pwp_ct ?_ ?_; · simp only [pz, ↓reduceIte, Nat.reduceEqDiff, tmz, hl', h1])
        | (with_reducible refine pwp_cf ?_ ?_; · simp only [pz, ↓reduceIte, Nat.reduceEqDiff, tmz, hl', h1])
        | (((first
          | with_reducible refine region_0k ?_
          | (with_reducible refine region_Dk (id := 6) 8 ?_ ?_; · kernel_rfl)
          ); intro ds hds; simp only [List.map] at hds; subst hds); refine reT (by simp only [pz, ↓reduceIte, Nat.reduceEqDiff, Nat.reduceAdd, Nat.reduceSub, Nat.reduceMul, Nat.reduceLeDiff, Nat.reduceBEq, Bool.false_eq_true, decide_true, decide_false, Int.reduceLE, Int.reduceToNat, Int.reduceLT, Int.reduceEq, eq_self, Nat.reduceShiftRight, Nat.reduceAnd, Nat.reduceBneDiff, tmz, hl', h1]; exact rfl) ?_; try refine wkI ?_)))
      ((first
        | with_reducible refine region_0k ?_
        | (with_reducible refine region_Dk (id := 6) 8 ?_ ?_; · kernel_rfl)
        ); intro ds hds; simp only [List.map] at hds; subst hds)
      (refine rcT (by simp only [pz, ↓reduceIte, Nat.reduceEqDiff, Nat.reduceAdd, Nat.reduceSub, Nat.reduceMul, Nat.reduceLeDiff, Nat.reduceBEq, Bool.false_eq_true, decide_true, decide_false, Int.reduceLE, Int.reduceToNat, Int.reduceLT, Int.reduceEq, eq_self, Nat.reduceShiftRight, Nat.reduceAnd, Nat.reduceBneDiff, tmz, h1]; exact rfl) (cR) (by simp only [setA, retA]; exact rfl) ?_)
      (refine reT (by simp only [pz, ↓reduceIte, Nat.reduceEqDiff, Nat.reduceAdd, Nat.reduceSub, Nat.reduceMul, Nat.reduceLeDiff, Nat.reduceBEq, Bool.false_eq_true, decide_true, decide_false, Int.reduceLE, Int.reduceToNat, Int.reduceLT, Int.reduceEq, eq_self, Nat.reduceShiftRight, Nat.reduceAnd, Nat.reduceBneDiff, tmz]; exact rfl) ?_; first | (change pwp _ _ _ _ _) | refine wkI ?_ | skip)
      ((repeat (first
        | with_reducible refine pwp_seqW ?_
        | with_reducible refine pwp_block ?_
        | ((first | with_reducible refine pwp_skip ?_ | with_reducible refine pwp_exit ?_); try refine wkI ?_)
        | (with_reducible refine pwp_ct ?_ ?_; · simp only [pz, ↓reduceIte, Nat.reduceEqDiff, e])
        | (with_reducible refine pwp_cf ?_ ?_; · simp only [pz, ↓reduceIte, Nat.reduceEqDiff, e])
        | (((first
          | with_reducible refine region_0k ?_
          | (with_reducible refine region_Dk (id := 6) 8 ?_ ?_; · kernel_rfl)
          ); intro ds hds; simp only [List.map] at hds; subst hds); refine reT (by simp only [pz, ↓reduceIte, Nat.reduceEqDiff, Nat.reduceAdd, Nat.reduceSub, Nat.reduceMul, Nat.reduceLeDiff, Nat.reduceBEq, Bool.false_eq_true, decide_true, decide_false, Int.reduceLE, Int.reduceToNat, Int.reduceLT, Int.reduceEq, eq_self, Nat.reduceShiftRight, Nat.reduceAnd, Nat.reduceBneDiff, e]; exact rfl) ?_; try refine wkI ?_)))
       refine pwp_ret (ret_ok ?_)
       simp [resOk, resA, resSlots, gs, e])
    have hl' : (i : Int) < (t.args.length : Int) := by omega
    obtain ⟨a, ha⟩ : ∃ a, t.args[i]? = some a := ⟨_, List.getElem?_eq_getElem hl⟩
    have hm := List.mem_of_getElem? ha
    have hsa := sizeTms_mem hm
    have hw1 := wrap1 (k := i) (by omega)
    (repeat (first
      | with_reducible refine pwp_seqW ?_
      | with_reducible refine pwp_block ?_
      | ((first | with_reducible refine pwp_skip ?_ | with_reducible refine pwp_exit ?_); try refine wkI ?_)
      | (with_reducible refine pwp_ct ?_ ?_; · simp only [pz, ↓reduceIte, Nat.reduceEqDiff, tmz, hl', ha])
      | (with_reducible refine pwp_cf ?_ ?_; · simp only [pz, ↓reduceIte, Nat.reduceEqDiff, tmz, hl', ha])
      | (((first
        | with_reducible refine region_0k ?_
        | (with_reducible refine region_Dk (id := 6) 8 ?_ ?_; · kernel_rfl)
        ); intro ds hds; simp only [List.map] at hds; subst hds); refine reT (by simp only [pz, ↓reduceIte, Nat.reduceEqDiff, Nat.reduceAdd, Nat.reduceSub, Nat.reduceMul, Nat.reduceLeDiff, Nat.reduceBEq, Bool.false_eq_true, decide_true, decide_false, Int.reduceLE, Int.reduceToNat, Int.reduceLT, Int.reduceEq, eq_self, Nat.reduceShiftRight, Nat.reduceAnd, Nat.reduceBneDiff, tmz, hl', ha]; exact rfl) ?_; try refine wkI ?_)))
    ((first
      | with_reducible refine region_0k ?_
      | (with_reducible refine region_Dk (id := 6) 8 ?_ ?_; · kernel_rfl)
      ); intro ds hds; simp only [List.map] at hds; subst hds)
    (refine rcT (by simp only [pz, ↓reduceIte, Nat.reduceEqDiff, Nat.reduceAdd, Nat.reduceSub, Nat.reduceMul, Nat.reduceLeDiff, Nat.reduceBEq, Bool.false_eq_true, decide_true, decide_false, Int.reduceLE, Int.reduceToNat, Int.reduceLT, Int.reduceEq, eq_self, Nat.reduceShiftRight, Nat.reduceAnd, Nat.reduceBneDiff, tmz, ha]; exact rfl) (ih' a (by omega) (k4.mem hm) (by unfold big; omega)) (by simp only [setA, retA]; exact rfl) ?_)
    by_cases hfa : isForm g a = true
    rotate_left
    · have hf := hno fun h => hfa (isForm_true ((FormOk_iff.1 h).2.1 a hm))
      have hfa' : isForm g a = false := by simpa using hfa
      (refine reT (by simp only [pz, ↓reduceIte, Nat.reduceEqDiff, Nat.reduceAdd, Nat.reduceSub, Nat.reduceMul, Nat.reduceLeDiff, Nat.reduceBEq, Bool.false_eq_true, decide_true, decide_false, Int.reduceLE, Int.reduceToNat, Int.reduceLT, Int.reduceEq, eq_self, Nat.reduceShiftRight, Nat.reduceAnd, Nat.reduceBneDiff, tmz, hfa']; exact rfl) ?_; first | (change pwp _ _ _ _ _) | refine wkI ?_ | skip)
      ((repeat (first
        | with_reducible refine pwp_seqW ?_
        | with_reducible refine pwp_block ?_
        | ((first | with_reducible refine pwp_skip ?_ | with_reducible refine pwp_exit ?_); try refine wkI ?_)
        | (with_reducible refine pwp_ct ?_ ?_; · simp only [pz, ↓reduceIte, Nat.reduceEqDiff, hf])
        | (with_reducible refine pwp_cf ?_ ?_; · simp only [pz, ↓reduceIte, Nat.reduceEqDiff, hf])
        | (((first
          | with_reducible refine region_0k ?_
          | (with_reducible refine region_Dk (id := 6) 8 ?_ ?_; · kernel_rfl)
          ); intro ds hds; simp only [List.map] at hds; subst hds); refine reT (by simp only [pz, ↓reduceIte, Nat.reduceEqDiff, Nat.reduceAdd, Nat.reduceSub, Nat.reduceMul, Nat.reduceLeDiff, Nat.reduceBEq, Bool.false_eq_true, decide_true, decide_false, Int.reduceLE, Int.reduceToNat, Int.reduceLT, Int.reduceEq, eq_self, Nat.reduceShiftRight, Nat.reduceAnd, Nat.reduceBneDiff, hf]; exact rfl) ?_; try refine wkI ?_)))
       refine pwp_ret (ret_ok ?_)
       simp [resOk, resA, resSlots, gs, hf])
    have hq : i + 1 ≤ t.args.length ∧ ∀ (j : Nat) a, j < i + 1 → t.args[j]? = some a → FormOk g a := ⟨by omega, fun j a' hj ha' => by
      by_cases e : j = i
      · subst e
        rw [ha] at ha'
        injection ha' with ha'
        subst ha'
        exact isForm_iff.1 hfa
      · exact hall j a' (by omega) ha'⟩
    (refine reT (by simp only [pz, ↓reduceIte, Nat.reduceEqDiff, Nat.reduceAdd, Nat.reduceSub, Nat.reduceMul, Nat.reduceLeDiff, Nat.reduceBEq, Bool.false_eq_true, decide_true, decide_false, Int.reduceLE, Int.reduceToNat, Int.reduceLT, Int.reduceEq, eq_self, Nat.reduceShiftRight, Nat.reduceAnd, Nat.reduceBneDiff, tmz, hfa]; exact rfl) ?_; first | (change pwp _ _ _ _ _) | refine wkI ?_ | skip)
    ((repeat (first
      | with_reducible refine pwp_seqW ?_
      | with_reducible refine pwp_block ?_
      | ((first | with_reducible refine pwp_skip ?_ | with_reducible refine pwp_exit ?_); try refine wkI ?_)
      | (with_reducible refine pwp_ct ?_ ?_; · simp only [pz, ↓reduceIte, Nat.reduceEqDiff, hw1, tmz])
      | (with_reducible refine pwp_cf ?_ ?_; · simp only [pz, ↓reduceIte, Nat.reduceEqDiff, hw1, tmz])
      | (((first
        | with_reducible refine region_0k ?_
        | (with_reducible refine region_Dk (id := 6) 8 ?_ ?_; · kernel_rfl)
        ); intro ds hds; simp only [List.map] at hds; subst hds); refine reT (by simp only [pz, ↓reduceIte, Nat.reduceEqDiff, Nat.reduceAdd, Nat.reduceSub, Nat.reduceMul, Nat.reduceLeDiff, Nat.reduceBEq, Bool.false_eq_true, decide_true, decide_false, Int.reduceLE, Int.reduceToNat, Int.reduceLT, Int.reduceEq, eq_self, Nat.reduceShiftRight, Nat.reduceAnd, Nat.reduceBneDiff, hw1, tmz]; exact rfl) ?_; try refine wkI ?_)))
     exact ⟨i + 1, hq, by simp [weakS, gs, hw1, tmz], by simp [weakM, gm, hw1, tmz], by omega⟩)
theorem con_l6Form (hokg : okSgn g) (hg : SgnOk g) {t : Tm} (hok : okTm t) (hb : sizeTm t ≤ big) : Con e0 100 [.agg (encSgn g), .agg (encTm t)] [.one (.lit (.bool (isForm g t)))] := con_l6Form_all hokg hg _ t (Nat.lt_succ_self _) hok hb
set_option maxHeartbeats 4000000 in
set_option maxRecDepth 100000 in
theorem con_specIsTerm (hokg : okSgn g) {t : Tm} (hok : okTm t) (hb : sizeTm t ≤ big) : Con e0 64 [.agg (encSgn g), .agg (encTm t)] [.one (.lit (.bool (isSgn g && isTerm g t)))] := by
  have cS := con_specSgn hokg
  rw [encSgn] at cS
  refine con_of_pwp e0_ok 31 Try.func64 rfl (by kernel_rfl) (by kernel_rfl) rfl rfl ?_
  (repeat (first
    | with_reducible refine pwp_seqW ?_
    | with_reducible refine pwp_block ?_
    | ((first | with_reducible refine pwp_skip ?_ | with_reducible refine pwp_exit ?_); try refine wkI ?_)
    | (with_reducible refine pwp_ct ?_ ?_; · simp only [pz, ↓reduceIte, Nat.reduceEqDiff, tmz, encSgn])
    | (with_reducible refine pwp_cf ?_ ?_; · simp only [pz, ↓reduceIte, Nat.reduceEqDiff, tmz, encSgn])
    | (((first
      | with_reducible refine region_0k ?_
      ); intro ds hds; simp only [List.map] at hds; subst hds); refine reT (by simp only [pz, ↓reduceIte, Nat.reduceEqDiff, Nat.reduceAdd, Nat.reduceSub, Nat.reduceMul, Nat.reduceLeDiff, Nat.reduceBEq, Bool.false_eq_true, decide_true, decide_false, Int.reduceLE, Int.reduceToNat, Int.reduceLT, Int.reduceEq, eq_self, Nat.reduceShiftRight, Nat.reduceAnd, Nat.reduceBneDiff, tmz, encSgn]; exact rfl) ?_; try refine wkI ?_)))
  ((first
    | with_reducible refine region_0k ?_
    ); intro ds hds; simp only [List.map] at hds; subst hds)
  (refine rcT (by simp only [pz, ↓reduceIte, Nat.reduceEqDiff, Nat.reduceAdd, Nat.reduceSub, Nat.reduceMul, Nat.reduceLeDiff, Nat.reduceBEq, Bool.false_eq_true, decide_true, decide_false, Int.reduceLE, Int.reduceToNat, Int.reduceLT, Int.reduceEq, eq_self, Nat.reduceShiftRight, Nat.reduceAnd, Nat.reduceBneDiff, tmz]; exact rfl) (cS) (by simp only [setA, retA]; exact rfl) ?_)
  by_cases hs : isSgn g = true
  rotate_left
  · have hs' : isSgn g = false := by simpa using hs
    (refine reT (by simp only [pz, ↓reduceIte, Nat.reduceEqDiff, Nat.reduceAdd, Nat.reduceSub, Nat.reduceMul, Nat.reduceLeDiff, Nat.reduceBEq, Bool.false_eq_true, decide_true, decide_false, Int.reduceLE, Int.reduceToNat, Int.reduceLT, Int.reduceEq, eq_self, Nat.reduceShiftRight, Nat.reduceAnd, Nat.reduceBneDiff, tmz, hs']; exact rfl) ?_; first | (change pwp _ _ _ _ _) | refine wkI ?_ | skip)
    ((repeat (first
      | with_reducible refine pwp_seqW ?_
      | with_reducible refine pwp_block ?_
      | ((first | with_reducible refine pwp_skip ?_ | with_reducible refine pwp_exit ?_); try refine wkI ?_)
      | (with_reducible refine pwp_ct ?_ ?_; · simp only [pz, ↓reduceIte, Nat.reduceEqDiff, hs'])
      | (with_reducible refine pwp_cf ?_ ?_; · simp only [pz, ↓reduceIte, Nat.reduceEqDiff, hs'])
      | (((first
        | with_reducible refine region_0k ?_
        ); intro ds hds; simp only [List.map] at hds; subst hds); refine reT (by simp only [pz, ↓reduceIte, Nat.reduceEqDiff, Nat.reduceAdd, Nat.reduceSub, Nat.reduceMul, Nat.reduceLeDiff, Nat.reduceBEq, Bool.false_eq_true, decide_true, decide_false, Int.reduceLE, Int.reduceToNat, Int.reduceLT, Int.reduceEq, eq_self, Nat.reduceShiftRight, Nat.reduceAnd, Nat.reduceBneDiff, hs']; exact rfl) ?_; try refine wkI ?_)))
     refine pwp_ret (ret_ok ?_)
     simp [resOk, resA, resSlots, gs, hs'])
  have hg := isSgn_iff.1 hs
  have cF := con_l6Form hokg hg hok hb
  rw [encSgn] at cF
  (refine rcT (by simp only [pz, ↓reduceIte, Nat.reduceEqDiff, Nat.reduceAdd, Nat.reduceSub, Nat.reduceMul, Nat.reduceLeDiff, Nat.reduceBEq, Bool.false_eq_true, decide_true, decide_false, Int.reduceLE, Int.reduceToNat, Int.reduceLT, Int.reduceEq, eq_self, Nat.reduceShiftRight, Nat.reduceAnd, Nat.reduceBneDiff, tmz, hs]; exact rfl) (con_l6Small hb) (by simp only [setA, retA]; exact rfl) ?_)
  by_cases h1 : sizeTm t ≤ 60 ∧ depthTm t ≤ 20
  rotate_left
  · have hf : isTerm g t = false := isTerm_false fun h => h1 ⟨h.size, h.depth⟩
    have h1' : decide (sizeTm t ≤ 60 ∧ depthTm t ≤ 20) = false := by simp only [decide_eq_false_iff_not]; exact h1
    (refine reT (by simp only [pz, ↓reduceIte, Nat.reduceEqDiff, Nat.reduceAdd, Nat.reduceSub, Nat.reduceMul, Nat.reduceLeDiff, Nat.reduceBEq, Bool.false_eq_true, decide_true, decide_false, Int.reduceLE, Int.reduceToNat, Int.reduceLT, Int.reduceEq, eq_self, Nat.reduceShiftRight, Nat.reduceAnd, Nat.reduceBneDiff, tmz, h1', hs]; exact rfl) ?_; first | (change pwp _ _ _ _ _) | refine wkI ?_ | skip)
    ((repeat (first
      | with_reducible refine pwp_seqW ?_
      | with_reducible refine pwp_block ?_
      | ((first | with_reducible refine pwp_skip ?_ | with_reducible refine pwp_exit ?_); try refine wkI ?_)
      | (with_reducible refine pwp_ct ?_ ?_; · simp only [pz, ↓reduceIte, Nat.reduceEqDiff, hs, hf])
      | (with_reducible refine pwp_cf ?_ ?_; · simp only [pz, ↓reduceIte, Nat.reduceEqDiff, hs, hf])
      | (((first
        | with_reducible refine region_0k ?_
        ); intro ds hds; simp only [List.map] at hds; subst hds); refine reT (by simp only [pz, ↓reduceIte, Nat.reduceEqDiff, Nat.reduceAdd, Nat.reduceSub, Nat.reduceMul, Nat.reduceLeDiff, Nat.reduceBEq, Bool.false_eq_true, decide_true, decide_false, Int.reduceLE, Int.reduceToNat, Int.reduceLT, Int.reduceEq, eq_self, Nat.reduceShiftRight, Nat.reduceAnd, Nat.reduceBneDiff, hs, hf]; exact rfl) ?_; try refine wkI ?_)))
     refine pwp_ret (ret_ok ?_)
     simp [resOk, resA, resSlots, gs, hs, hf])
  have h1' : decide (sizeTm t ≤ 60 ∧ depthTm t ≤ 20) = true := by simp only [decide_eq_true_eq]; exact h1
  have e := isTerm_form (g := g) h1.1 h1.2
  (refine rcT (by simp only [pz, ↓reduceIte, Nat.reduceEqDiff, Nat.reduceAdd, Nat.reduceSub, Nat.reduceMul, Nat.reduceLeDiff, Nat.reduceBEq, Bool.false_eq_true, decide_true, decide_false, Int.reduceLE, Int.reduceToNat, Int.reduceLT, Int.reduceEq, eq_self, Nat.reduceShiftRight, Nat.reduceAnd, Nat.reduceBneDiff, tmz, h1', hs]; exact rfl) (cF) (by simp only [setA, retA]; exact rfl) ?_)
  (refine reT (by simp only [pz, ↓reduceIte, Nat.reduceEqDiff, Nat.reduceAdd, Nat.reduceSub, Nat.reduceMul, Nat.reduceLeDiff, Nat.reduceBEq, Bool.false_eq_true, decide_true, decide_false, Int.reduceLE, Int.reduceToNat, Int.reduceLT, Int.reduceEq, eq_self, Nat.reduceShiftRight, Nat.reduceAnd, Nat.reduceBneDiff, tmz, h1', hs]; exact rfl) ?_; first | (change pwp _ _ _ _ _) | refine wkI ?_ | skip)
  ((repeat (first
    | with_reducible refine pwp_seqW ?_
    | with_reducible refine pwp_block ?_
    | ((first | with_reducible refine pwp_skip ?_ | with_reducible refine pwp_exit ?_); try refine wkI ?_)
    | (with_reducible refine pwp_ct ?_ ?_; · simp only [pz, ↓reduceIte, Nat.reduceEqDiff, hs, e])
    | (with_reducible refine pwp_cf ?_ ?_; · simp only [pz, ↓reduceIte, Nat.reduceEqDiff, hs, e])
    | (((first
      | with_reducible refine region_0k ?_
      ); intro ds hds; simp only [List.map] at hds; subst hds); refine reT (by simp only [pz, ↓reduceIte, Nat.reduceEqDiff, Nat.reduceAdd, Nat.reduceSub, Nat.reduceMul, Nat.reduceLeDiff, Nat.reduceBEq, Bool.false_eq_true, decide_true, decide_false, Int.reduceLE, Int.reduceToNat, Int.reduceLT, Int.reduceEq, eq_self, Nat.reduceShiftRight, Nat.reduceAnd, Nat.reduceBneDiff, hs, e]; exact rfl) ?_; try refine wkI ?_)))
   refine pwp_ret (ret_ok ?_)
   simp [resOk, resA, resSlots, gs, hs, e])
end
end Go.Proofs.Ytmpcbijkbgmjkaa

namespace Go.Proofs.Ytmpcbijkbgmjkaa
open Go.RowKit

theorem Con.weaken {e : Env} {f : FuncId} {args args' r : List D} (h : Con e f args' r) (ha : ∀ (w : World) (S : Nat → Prop) (vs : List Value), DsRel w S args vs → DsRel w S args' vs) : Con e f args r :=
  ⟨h.1, fun w S vs h1 h2 h3 h4 => h.2 w S vs h1 h2 h3 (ha w S vs h4)⟩
theorem con_clip3 {e : Env} {f : FuncId} {a b : D} {rows : List (List C)} {r : List D} (h : Con e f [a, b, .one (.sl rows)] r) : Con e f [a, b, .clip rows] r :=
  h.weaken fun w S vs hv => by
    match vs, hv with
    | [x, y, z], hv => exact ⟨hv.1, hv.2.1, hv.2.2.1.1, trivial⟩
theorem least {P : Nat → Prop} (h : ∃ n, P n) : ∃ n, P n ∧ ∀ m, m < n → ¬ P m := by
  obtain ⟨n, hn⟩ := h
  induction n using Nat.strongRecOn with
  | _ n ih =>
    by_cases hx : ∃ m, m < n ∧ P m
    · obtain ⟨m, hm, hp⟩ := hx; exact ih m hm hp
    · exact ⟨n, hn, fun m hm hp => hx ⟨m, hm, hp⟩⟩
/-! What the test says, by what it says of the parts. -/
open Classical in
noncomputable def allB (M : Tm → Tm → Bool) (ps ts : List Tm) : Bool := decide (∀ (i : Nat) p t, ps[i]? = some p → ts[i]? = some t → M p t = true)
def anyB (M : Tm → Tm → Bool) (p : Tm) (ts : List Tm) : Bool := ts.any (M p)
open Classical in
noncomputable def eachB (M : Tm → Tm → Bool) (ps ts : List Tm) : Bool := decide (∀ p ∈ ps, p.op = -1 ∨ anyB M p ts = true)
def followB (M : Tm → Tm → Bool) : List Tm → List Tm → Bool
  | [], _ => true
  | p :: ps, ts => match ts.dropWhile (fun t => !decide (p.op = -1) && !M p t) with
    | [] => false
    | _ :: r => followB M ps r
def swap2 : List Tm → List Tm
  | [a, b] => [b, a]
  | l => l
noncomputable def mayB (g : Sgn) (M : Tm → Tm → Bool) (p t : Tm) : Bool :=
  if p.op = -1 then decide (kindTm g p = kindTm g t) else
  match g.ops[p.op.toNat]? with
  | none => false
  | some o => if o.unit ≠ 0 then true else if p.op ≠ t.op then false else
    if o.assoc = true then (if p.args.length ≤ t.args.length then (if o.comm = true then eachB M p.args t.args else followB M p.args t.args) else false)
    else if o.comm = true then (allB M p.args t.args || allB M p.args (swap2 t.args)) else allB M p.args t.args
noncomputable def may (g : Sgn) : Nat → Tm → Tm → Bool
  | 0 => fun _ _ => false
  | n + 1 => mayB g (may g n)
theorem allB_false {M : Tm → Tm → Bool} {ps ts : List Tm} {i : Nat} {p t : Tm} (hp : ps[i]? = some p) (ht : ts[i]? = some t) (h : M p t = false) : allB M ps ts = false := by
  simp only [allB, decide_eq_false_iff_not]
  intro hA
  rw [hA i p t hp ht] at h
  cases h
theorem follow_step {M : Tm → Tm → Bool} {ps ts : List Tm} {i at' : Nat} {p t : Tm} (hp : ps[i]? = some p) (ht : ts[at']? = some t) (h : (!decide (p.op = -1) && !M p t) = true) : followB M (ps.drop i) (ts.drop at') = followB M (ps.drop i) (ts.drop (at' + 1)) := by
  rw [List.drop_eq_getElem_cons (List.getElem?_eq_some_iff.1 hp).1, (List.getElem?_eq_some_iff.1 hp).2, List.drop_eq_getElem_cons (List.getElem?_eq_some_iff.1 ht).1, (List.getElem?_eq_some_iff.1 ht).2]
  simp only [followB, List.dropWhile_cons, h, if_true]
theorem follow_take {M : Tm → Tm → Bool} {ps ts : List Tm} {i at' : Nat} {p t : Tm} (hp : ps[i]? = some p) (ht : ts[at']? = some t) (h : (!decide (p.op = -1) && !M p t) = false) : followB M (ps.drop i) (ts.drop at') = followB M (ps.drop (i + 1)) (ts.drop (at' + 1)) := by
  rw [List.drop_eq_getElem_cons (List.getElem?_eq_some_iff.1 hp).1, (List.getElem?_eq_some_iff.1 hp).2, List.drop_eq_getElem_cons (List.getElem?_eq_some_iff.1 ht).1, (List.getElem?_eq_some_iff.1 ht).2]
  simp only [followB, List.dropWhile_cons, h, Bool.false_eq_true, if_false]
theorem follow_out {M : Tm → Tm → Bool} {ps ts : List Tm} {i at' : Nat} {p : Tm} (hp : ps[i]? = some p) (ht : ts.length ≤ at') : followB M (ps.drop i) (ts.drop at') = false := by
  rw [List.drop_eq_getElem_cons (List.getElem?_eq_some_iff.1 hp).1, (List.getElem?_eq_some_iff.1 hp).2, List.drop_eq_nil_of_le ht]
  simp only [followB, List.dropWhile_nil]
theorem follow_end {M : Tm → Tm → Bool} {ps ts : List Tm} {i at' : Nat} (hi : ps.length ≤ i) : followB M (ps.drop i) (ts.drop at') = true := by
  rw [List.drop_eq_nil_of_le hi]; rfl

/-! slices.IndexFunc and slices.ContainsFunc for terms. -/
set_option maxHeartbeats 4000000 in
set_option maxRecDepth 100000 in
theorem con_indexFunc {ts : List Tm} {f : FuncId} {caps : List C} {P : Tm → Bool} (hl : ts.length ≤ big) (h : ∀ a ∈ ts, Con e0 f (.agg (encTm a) :: caps.map .one) [.one (.lit (.bool (P a)))]) :
    ∃ r : Int, (0 ≤ r ↔ ts.any P = true) ∧ Con e0 151 [.one (.sl (encTms ts)), .one (.fn f caps)] [.one (.lit (.int .i64 r))] := by
  unfold big at hl
  by_cases hA : ts.any P = true
  · obtain ⟨k, hk, hbef⟩ : ∃ k : Nat, (∃ a, ts[k]? = some a ∧ P a = true) ∧ ∀ (j : Nat) a, j < k → ts[j]? = some a → P a = false := by
      have hex : ∃ k : Nat, ∃ a, ts[k]? = some a ∧ P a = true := by
        obtain ⟨a, ha, hp⟩ := List.any_eq_true.1 hA
        obtain ⟨k, hk⟩ := List.getElem?_of_mem ha
        exact ⟨k, a, hk, hp⟩
      obtain ⟨k, hk, hmin⟩ := least hex
      refine ⟨k, hk, fun j a hj ha => ?_⟩
      cases hp : P a with
      | false => rfl
      | true => exact absurd ⟨a, ha, hp⟩ (hmin j hj)
    obtain ⟨a0, ha0, hp0⟩ := hk
    have hkl := (List.getElem?_eq_some_iff.1 ha0).1
    refine ⟨(k : Int), ⟨fun _ => hA, fun _ => by omega⟩, ?_⟩
    refine con_of_pwp e0_ok 66483 Try.func151 rfl (by kernel_rfl) (by kernel_rfl) rfl rfl ?_
    (repeat (first
      | with_reducible refine pwp_seqW ?_
      | with_reducible refine pwp_block ?_
      | ((first | with_reducible refine pwp_skip ?_ | with_reducible refine pwp_exit ?_); try refine wkI ?_)
      | (with_reducible refine pwp_ct ?_ ?_; · simp only [pz, ↓reduceIte, Nat.reduceEqDiff, tmz])
      | (with_reducible refine pwp_cf ?_ ?_; · simp only [pz, ↓reduceIte, Nat.reduceEqDiff, tmz])
      | (((first
        | with_reducible refine region_0k ?_
        ); intro ds hds; simp only [List.map] at hds; subst hds); refine reT (by simp only [pz, ↓reduceIte, Nat.reduceEqDiff, Nat.reduceAdd, Nat.reduceSub, Nat.reduceMul, Nat.reduceLeDiff, Nat.reduceBEq, Bool.false_eq_true, decide_true, decide_false, Int.reduceLE, Int.reduceToNat, Int.reduceLT, Int.reduceEq, eq_self, Nat.reduceShiftRight, Nat.reduceAnd, Nat.reduceBneDiff, tmz]; exact rfl) ?_; try refine wkI ?_)))
    refine pwp_loopU (ι := Nat) [4, 5, 8, 9, 16] [] (fun i => [(8, A.d (.one (.lit (.int .i64 i))))]) (fun i => []) (fun i => i ≤ k) (fun i => k + 1 - i) (0) (by simp only [headS, headM, List.elem_cons, List.elem_nil, Nat.reduceBEq, Bool.or_false, Bool.false_or, Bool.or_true, Bool.true_or, Bool.or_self, ↓reduceIte, Bool.false_eq_true]; exact rfl) (by simp only [headS, headM, List.elem_cons, List.elem_nil, Nat.reduceBEq, Bool.or_false, Bool.false_or, Bool.or_true, Bool.true_or, Bool.or_self, ↓reduceIte, Bool.false_eq_true]; exact rfl) (fun _ => by simp only [List.cons_append, List.nil_append]; exact rfl) (fun _ => by simp only [List.cons_append, List.nil_append]; exact rfl) (by simp [weakS, gs, e0P]) (by simp [weakM, gm, e0P]) (by omega) (fun i hi => ?_)
    have hl' : (i : Int) < (ts.length : Int) := by omega
    obtain ⟨a, ha⟩ : ∃ a, ts[i]? = some a := ⟨_, List.getElem?_eq_getElem (by omega)⟩
    have hw1 := wrap1 (k := i) (by omega)
    (repeat (first
      | with_reducible refine pwp_seqW ?_
      | with_reducible refine pwp_block ?_
      | ((first | with_reducible refine pwp_skip ?_ | with_reducible refine pwp_exit ?_); try refine wkI ?_)
      | (with_reducible refine pwp_ct ?_ ?_; · simp only [pz, ↓reduceIte, Nat.reduceEqDiff, tmz, hl'])
      | (with_reducible refine pwp_cf ?_ ?_; · simp only [pz, ↓reduceIte, Nat.reduceEqDiff, tmz, hl'])
      | (((first
        | with_reducible refine region_0k ?_
        ); intro ds hds; simp only [List.map] at hds; subst hds); refine reT (by simp only [pz, ↓reduceIte, Nat.reduceEqDiff, Nat.reduceAdd, Nat.reduceSub, Nat.reduceMul, Nat.reduceLeDiff, Nat.reduceBEq, Bool.false_eq_true, decide_true, decide_false, Int.reduceLE, Int.reduceToNat, Int.reduceLT, Int.reduceEq, eq_self, Nat.reduceShiftRight, Nat.reduceAnd, Nat.reduceBneDiff, tmz, hl']; exact rfl) ?_; try refine wkI ?_)))
    ((first
      | with_reducible refine region_0k ?_
      ); intro ds hds; simp only [List.map] at hds; subst hds)
    (refine rcT (by simp only [pz, ↓reduceIte, Nat.reduceEqDiff, Nat.reduceAdd, Nat.reduceSub, Nat.reduceMul, Nat.reduceLeDiff, Nat.reduceBEq, Bool.false_eq_true, decide_true, decide_false, Int.reduceLE, Int.reduceToNat, Int.reduceLT, Int.reduceEq, eq_self, Nat.reduceShiftRight, Nat.reduceAnd, Nat.reduceBneDiff, tmz, ha]; exact rfl) (h a (List.mem_of_getElem? ha)) (by simp only [setA, retA]; exact rfl) ?_)
    by_cases hik : i = k
    · subst hik
      rw [ha] at ha0
      injection ha0 with ha0
      subst ha0
      (refine reT (by simp only [pz, ↓reduceIte, Nat.reduceEqDiff, Nat.reduceAdd, Nat.reduceSub, Nat.reduceMul, Nat.reduceLeDiff, Nat.reduceBEq, Bool.false_eq_true, decide_true, decide_false, Int.reduceLE, Int.reduceToNat, Int.reduceLT, Int.reduceEq, eq_self, Nat.reduceShiftRight, Nat.reduceAnd, Nat.reduceBneDiff, tmz, hp0]; exact rfl) ?_; first | (change pwp _ _ _ _ _) | refine wkI ?_ | skip)
      ((repeat (first
        | with_reducible refine pwp_seqW ?_
        | with_reducible refine pwp_block ?_
        | ((first | with_reducible refine pwp_skip ?_ | with_reducible refine pwp_exit ?_); try refine wkI ?_)
        | (with_reducible refine pwp_ct ?_ ?_; · simp only [pz, ↓reduceIte, Nat.reduceEqDiff, tmz])
        | (with_reducible refine pwp_cf ?_ ?_; · simp only [pz, ↓reduceIte, Nat.reduceEqDiff, tmz])
        | (((first
          | with_reducible refine region_0k ?_
          ); intro ds hds; simp only [List.map] at hds; subst hds); refine reT (by simp only [pz, ↓reduceIte, Nat.reduceEqDiff, Nat.reduceAdd, Nat.reduceSub, Nat.reduceMul, Nat.reduceLeDiff, Nat.reduceBEq, Bool.false_eq_true, decide_true, decide_false, Int.reduceLE, Int.reduceToNat, Int.reduceLT, Int.reduceEq, eq_self, Nat.reduceShiftRight, Nat.reduceAnd, Nat.reduceBneDiff, tmz]; exact rfl) ?_; try refine wkI ?_)))
       refine pwp_ret (ret_ok ?_)
       simp [resOk, resA, resSlots, gs, tmz])
    · have hpf := hbef i a (by omega) ha
      (refine reT (by simp only [pz, ↓reduceIte, Nat.reduceEqDiff, Nat.reduceAdd, Nat.reduceSub, Nat.reduceMul, Nat.reduceLeDiff, Nat.reduceBEq, Bool.false_eq_true, decide_true, decide_false, Int.reduceLE, Int.reduceToNat, Int.reduceLT, Int.reduceEq, eq_self, Nat.reduceShiftRight, Nat.reduceAnd, Nat.reduceBneDiff, tmz, hpf]; exact rfl) ?_; first | (change pwp _ _ _ _ _) | refine wkI ?_ | skip)
      ((repeat (first
        | with_reducible refine pwp_seqW ?_
        | with_reducible refine pwp_block ?_
        | ((first | with_reducible refine pwp_skip ?_ | with_reducible refine pwp_exit ?_); try refine wkI ?_)
        | (with_reducible refine pwp_ct ?_ ?_; · simp only [pz, ↓reduceIte, Nat.reduceEqDiff, hw1, tmz])
        | (with_reducible refine pwp_cf ?_ ?_; · simp only [pz, ↓reduceIte, Nat.reduceEqDiff, hw1, tmz])
        | (((first
          | with_reducible refine region_0k ?_
          ); intro ds hds; simp only [List.map] at hds; subst hds); refine reT (by simp only [pz, ↓reduceIte, Nat.reduceEqDiff, Nat.reduceAdd, Nat.reduceSub, Nat.reduceMul, Nat.reduceLeDiff, Nat.reduceBEq, Bool.false_eq_true, decide_true, decide_false, Int.reduceLE, Int.reduceToNat, Int.reduceLT, Int.reduceEq, eq_self, Nat.reduceShiftRight, Nat.reduceAnd, Nat.reduceBneDiff, hw1, tmz]; exact rfl) ?_; try refine wkI ?_)))
       exact ⟨i + 1, by omega, by simp [weakS, gs, hw1, tmz], by simp [weakM, gm, hw1, tmz], by omega⟩)
  · have hbef : ∀ (j : Nat) a, ts[j]? = some a → P a = false := fun j a ha => by
      cases hp : P a with
      | false => rfl
      | true => exact absurd (List.any_eq_true.2 ⟨a, List.mem_of_getElem? ha, hp⟩) hA
    refine ⟨-1, ⟨fun h => by omega, fun h => absurd h hA⟩, ?_⟩
    refine con_of_pwp e0_ok 66483 Try.func151 rfl (by kernel_rfl) (by kernel_rfl) rfl rfl ?_
    (repeat (first
      | with_reducible refine pwp_seqW ?_
      | with_reducible refine pwp_block ?_
      | ((first | with_reducible refine pwp_skip ?_ | with_reducible refine pwp_exit ?_); try refine wkI ?_)
      | (with_reducible refine pwp_ct ?_ ?_; · simp only [pz, ↓reduceIte, Nat.reduceEqDiff, tmz])
      | (with_reducible refine pwp_cf ?_ ?_; · simp only [pz, ↓reduceIte, Nat.reduceEqDiff, tmz])
      | (((first
        | with_reducible refine region_0k ?_
        ); intro ds hds; simp only [List.map] at hds; subst hds); refine reT (by simp only [pz, ↓reduceIte, Nat.reduceEqDiff, Nat.reduceAdd, Nat.reduceSub, Nat.reduceMul, Nat.reduceLeDiff, Nat.reduceBEq, Bool.false_eq_true, decide_true, decide_false, Int.reduceLE, Int.reduceToNat, Int.reduceLT, Int.reduceEq, eq_self, Nat.reduceShiftRight, Nat.reduceAnd, Nat.reduceBneDiff, tmz]; exact rfl) ?_; try refine wkI ?_)))
    refine pwp_loopU (ι := Nat) [4, 5, 8, 9, 16] [] (fun i => [(8, A.d (.one (.lit (.int .i64 i))))]) (fun i => []) (fun i => i ≤ ts.length) (fun i => ts.length - i) (0) (by simp only [headS, headM, List.elem_cons, List.elem_nil, Nat.reduceBEq, Bool.or_false, Bool.false_or, Bool.or_true, Bool.true_or, Bool.or_self, ↓reduceIte, Bool.false_eq_true]; exact rfl) (by simp only [headS, headM, List.elem_cons, List.elem_nil, Nat.reduceBEq, Bool.or_false, Bool.false_or, Bool.or_true, Bool.true_or, Bool.or_self, ↓reduceIte, Bool.false_eq_true]; exact rfl) (fun _ => by simp only [List.cons_append, List.nil_append]; exact rfl) (fun _ => by simp only [List.cons_append, List.nil_append]; exact rfl) (by simp [weakS, gs, e0P]) (by simp [weakM, gm, e0P]) (by omega) (fun i hi => ?_)
    by_cases hi' : i < ts.length
    rotate_left
    · have hl' : ¬ ((i : Int) < (ts.length : Int)) := by omega
      ((repeat (first
        | with_reducible refine pwp_seqW ?_
        | with_reducible refine pwp_block ?_
        | ((first | with_reducible refine pwp_skip ?_ | with_reducible refine pwp_exit ?_); try refine wkI ?_)
        | (with_reducible refine pwp_ct ?_ ?_; · simp only [pz, ↓reduceIte, Nat.reduceEqDiff, tmz, hl'])
        | (with_reducible refine pwp_cf ?_ ?_; · simp only [pz, ↓reduceIte, Nat.reduceEqDiff, tmz, hl'])
        | (((first
          | with_reducible refine region_0k ?_
          ); intro ds hds; simp only [List.map] at hds; subst hds); refine reT (by simp only [pz, ↓reduceIte, Nat.reduceEqDiff, Nat.reduceAdd, Nat.reduceSub, Nat.reduceMul, Nat.reduceLeDiff, Nat.reduceBEq, Bool.false_eq_true, decide_true, decide_false, Int.reduceLE, Int.reduceToNat, Int.reduceLT, Int.reduceEq, eq_self, Nat.reduceShiftRight, Nat.reduceAnd, Nat.reduceBneDiff, tmz, hl']; exact rfl) ?_; try refine wkI ?_)))
       refine pwp_ret (ret_ok ?_)
       simp [resOk, resA, resSlots, gs, tmz, hl'])
    have hl' : (i : Int) < (ts.length : Int) := by omega
    obtain ⟨a, ha⟩ : ∃ a, ts[i]? = some a := ⟨_, List.getElem?_eq_getElem (by omega)⟩
    have hw1 := wrap1 (k := i) (by omega)
    have hpf := hbef i a ha
    (repeat (first
      | with_reducible refine pwp_seqW ?_
      | with_reducible refine pwp_block ?_
      | ((first | with_reducible refine pwp_skip ?_ | with_reducible refine pwp_exit ?_); try refine wkI ?_)
      | (with_reducible refine pwp_ct ?_ ?_; · simp only [pz, ↓reduceIte, Nat.reduceEqDiff, tmz, hl'])
      | (with_reducible refine pwp_cf ?_ ?_; · simp only [pz, ↓reduceIte, Nat.reduceEqDiff, tmz, hl'])
      | (((first
        | with_reducible refine region_0k ?_
        ); intro ds hds; simp only [List.map] at hds; subst hds); refine reT (by simp only [pz, ↓reduceIte, Nat.reduceEqDiff, Nat.reduceAdd, Nat.reduceSub, Nat.reduceMul, Nat.reduceLeDiff, Nat.reduceBEq, Bool.false_eq_true, decide_true, decide_false, Int.reduceLE, Int.reduceToNat, Int.reduceLT, Int.reduceEq, eq_self, Nat.reduceShiftRight, Nat.reduceAnd, Nat.reduceBneDiff, tmz, hl']; exact rfl) ?_; try refine wkI ?_)))
    ((first
      | with_reducible refine region_0k ?_
      ); intro ds hds; simp only [List.map] at hds; subst hds)
    (refine rcT (by simp only [pz, ↓reduceIte, Nat.reduceEqDiff, Nat.reduceAdd, Nat.reduceSub, Nat.reduceMul, Nat.reduceLeDiff, Nat.reduceBEq, Bool.false_eq_true, decide_true, decide_false, Int.reduceLE, Int.reduceToNat, Int.reduceLT, Int.reduceEq, eq_self, Nat.reduceShiftRight, Nat.reduceAnd, Nat.reduceBneDiff, tmz, ha]; exact rfl) (h a (List.mem_of_getElem? ha)) (by simp only [setA, retA]; exact rfl) ?_)
    (refine reT (by simp only [pz, ↓reduceIte, Nat.reduceEqDiff, Nat.reduceAdd, Nat.reduceSub, Nat.reduceMul, Nat.reduceLeDiff, Nat.reduceBEq, Bool.false_eq_true, decide_true, decide_false, Int.reduceLE, Int.reduceToNat, Int.reduceLT, Int.reduceEq, eq_self, Nat.reduceShiftRight, Nat.reduceAnd, Nat.reduceBneDiff, tmz, hpf]; exact rfl) ?_; first | (change pwp _ _ _ _ _) | refine wkI ?_ | skip)
    ((repeat (first
      | with_reducible refine pwp_seqW ?_
      | with_reducible refine pwp_block ?_
      | ((first | with_reducible refine pwp_skip ?_ | with_reducible refine pwp_exit ?_); try refine wkI ?_)
      | (with_reducible refine pwp_ct ?_ ?_; · simp only [pz, ↓reduceIte, Nat.reduceEqDiff, hw1, tmz])
      | (with_reducible refine pwp_cf ?_ ?_; · simp only [pz, ↓reduceIte, Nat.reduceEqDiff, hw1, tmz])
      | (((first
        | with_reducible refine region_0k ?_
        ); intro ds hds; simp only [List.map] at hds; subst hds); refine reT (by simp only [pz, ↓reduceIte, Nat.reduceEqDiff, Nat.reduceAdd, Nat.reduceSub, Nat.reduceMul, Nat.reduceLeDiff, Nat.reduceBEq, Bool.false_eq_true, decide_true, decide_false, Int.reduceLE, Int.reduceToNat, Int.reduceLT, Int.reduceEq, eq_self, Nat.reduceShiftRight, Nat.reduceAnd, Nat.reduceBneDiff, hw1, tmz]; exact rfl) ?_; try refine wkI ?_)))
     exact ⟨i + 1, by omega, by simp [weakS, gs, hw1, tmz], by simp [weakM, gm, hw1, tmz], by omega⟩)
set_option maxHeartbeats 4000000 in
set_option maxRecDepth 100000 in
theorem con_containsFunc {ts : List Tm} {f : FuncId} {caps : List C} {P : Tm → Bool} (hl : ts.length ≤ big) (h : ∀ a ∈ ts, Con e0 f (.agg (encTm a) :: caps.map .one) [.one (.lit (.bool (P a)))]) :
    Con e0 111 [.one (.sl (encTms ts)), .one (.fn f caps)] [.one (.lit (.bool (ts.any P)))] := by
  obtain ⟨r, hr, c⟩ := con_indexFunc hl h
  refine con_of_pwp e0_ok 19 Try.func111 rfl (by kernel_rfl) (by kernel_rfl) rfl rfl ?_
  (repeat (first
    | with_reducible refine pwp_seqW ?_
    | with_reducible refine pwp_block ?_
    | ((first | with_reducible refine pwp_skip ?_ | with_reducible refine pwp_exit ?_); try refine wkI ?_)
    | (with_reducible refine pwp_ct ?_ ?_; · simp only [pz, ↓reduceIte, Nat.reduceEqDiff, tmz])
    | (with_reducible refine pwp_cf ?_ ?_; · simp only [pz, ↓reduceIte, Nat.reduceEqDiff, tmz])
    | (((first
      | with_reducible refine region_0k ?_
      ); intro ds hds; simp only [List.map] at hds; subst hds); refine reT (by simp only [pz, ↓reduceIte, Nat.reduceEqDiff, Nat.reduceAdd, Nat.reduceSub, Nat.reduceMul, Nat.reduceLeDiff, Nat.reduceBEq, Bool.false_eq_true, decide_true, decide_false, Int.reduceLE, Int.reduceToNat, Int.reduceLT, Int.reduceEq, eq_self, Nat.reduceShiftRight, Nat.reduceAnd, Nat.reduceBneDiff, tmz]; exact rfl) ?_; try refine wkI ?_)))
  ((first
    | with_reducible refine region_0k ?_
    ); intro ds hds; simp only [List.map] at hds; subst hds)
  (refine rcT (by simp only [pz, ↓reduceIte, Nat.reduceEqDiff, Nat.reduceAdd, Nat.reduceSub, Nat.reduceMul, Nat.reduceLeDiff, Nat.reduceBEq, Bool.false_eq_true, decide_true, decide_false, Int.reduceLE, Int.reduceToNat, Int.reduceLT, Int.reduceEq, eq_self, Nat.reduceShiftRight, Nat.reduceAnd, Nat.reduceBneDiff, tmz]; exact rfl) (c) (by simp only [setA, retA]; exact rfl) ?_)
  have e : decide (0 ≤ r) = ts.any P := by
    rw [Bool.eq_iff_iff, decide_eq_true_iff]; exact hr
  (refine reT (by simp only [pz, ↓reduceIte, Nat.reduceEqDiff, Nat.reduceAdd, Nat.reduceSub, Nat.reduceMul, Nat.reduceLeDiff, Nat.reduceBEq, Bool.false_eq_true, decide_true, decide_false, Int.reduceLE, Int.reduceToNat, Int.reduceLT, Int.reduceEq, eq_self, Nat.reduceShiftRight, Nat.reduceAnd, Nat.reduceBneDiff, tmz]; exact rfl) ?_; first | (change pwp _ _ _ _ _) | refine wkI ?_ | skip)
  ((repeat (first
    | with_reducible refine pwp_seqW ?_
    | with_reducible refine pwp_block ?_
    | ((first | with_reducible refine pwp_skip ?_ | with_reducible refine pwp_exit ?_); try refine wkI ?_)
    | (with_reducible refine pwp_ct ?_ ?_; · simp only [pz, ↓reduceIte, Nat.reduceEqDiff, e])
    | (with_reducible refine pwp_cf ?_ ?_; · simp only [pz, ↓reduceIte, Nat.reduceEqDiff, e])
    | (((first
      | with_reducible refine region_0k ?_
      ); intro ds hds; simp only [List.map] at hds; subst hds); refine reT (by simp only [pz, ↓reduceIte, Nat.reduceEqDiff, Nat.reduceAdd, Nat.reduceSub, Nat.reduceMul, Nat.reduceLeDiff, Nat.reduceBEq, Bool.false_eq_true, decide_true, decide_false, Int.reduceLE, Int.reduceToNat, Int.reduceLT, Int.reduceEq, eq_self, Nat.reduceShiftRight, Nat.reduceAnd, Nat.reduceBneDiff, e]; exact rfl) ?_; try refine wkI ?_)))
   refine pwp_ret (ret_ok ?_)
   simp [resOk, resA, resSlots, gs, e])
section
variable {g : Sgn} {mc : C} {M : Tm → Tm → Bool}
def mayC (g : Sgn) (mc : C) (M : Tm → Tm → Bool) (p t : Tm) : Prop := Con e0 68 [.one (.ptr (encX g mc)), .agg (encTm p), .agg (encTm t)] [.one (.lit (.bool (M p t)))]
set_option maxHeartbeats 4000000 in
set_option maxRecDepth 100000 in
theorem con_mayAll {ps ts : List Tm} (hl : ps.length ≤ ts.length) (hb : ts.length ≤ big) (h : ∀ p ∈ ps, ∀ t ∈ ts, mayC g mc M p t) : Con e0 113 [.one (.ptr (encX g mc)), .one (.sl (encTms ps)), .one (.sl (encTms ts))] [.one (.lit (.bool (allB M ps ts)))] := by
  unfold big at hb
  refine con_of_pwp e0_ok 8396743 Try.func113 rfl (by kernel_rfl) (by kernel_rfl) rfl rfl ?_
  (repeat (first
    | with_reducible refine pwp_seqW ?_
    | with_reducible refine pwp_block ?_
    | ((first | with_reducible refine pwp_skip ?_ | with_reducible refine pwp_exit ?_); try refine wkI ?_)
    | (with_reducible refine pwp_ct ?_ ?_; · simp only [pz, ↓reduceIte, Nat.reduceEqDiff, tmz])
    | (with_reducible refine pwp_cf ?_ ?_; · simp only [pz, ↓reduceIte, Nat.reduceEqDiff, tmz])
    | (((first
      | with_reducible refine region_0k ?_
      | (with_reducible refine region_Dk (id := 4) 8 ?_ ?_; · kernel_rfl)
      ); intro ds hds; simp only [List.map] at hds; subst hds); refine reT (by simp only [pz, ↓reduceIte, Nat.reduceEqDiff, Nat.reduceAdd, Nat.reduceSub, Nat.reduceMul, Nat.reduceLeDiff, Nat.reduceBEq, Bool.false_eq_true, decide_true, decide_false, Int.reduceLE, Int.reduceToNat, Int.reduceLT, Int.reduceEq, eq_self, Nat.reduceShiftRight, Nat.reduceAnd, Nat.reduceBneDiff, tmz]; exact rfl) ?_; try refine wkI ?_)))
  refine pwp_loopU (ι := Nat) [6, 7, 8, 11, 12, 23] [] (fun i => [(11, A.d (.one (.lit (.int .i64 i))))]) (fun i => []) (fun i => i ≤ ps.length ∧ ∀ (j : Nat) p t, j < i → ps[j]? = some p → ts[j]? = some t → M p t = true) (fun i => ps.length - i) (0) (by simp only [headS, headM, List.elem_cons, List.elem_nil, Nat.reduceBEq, Bool.or_false, Bool.false_or, Bool.or_true, Bool.true_or, Bool.or_self, ↓reduceIte, Bool.false_eq_true]; exact rfl) (by simp only [headS, headM, List.elem_cons, List.elem_nil, Nat.reduceBEq, Bool.or_false, Bool.false_or, Bool.or_true, Bool.true_or, Bool.or_self, ↓reduceIte, Bool.false_eq_true]; exact rfl) (fun _ => by simp only [List.cons_append, List.nil_append]; exact rfl) (fun _ => by simp only [List.cons_append, List.nil_append]; exact rfl) (by simp [weakS, gs, e0P]) (by simp [weakM, gm, e0P]) (⟨by omega, fun j p t h => absurd h (by omega)⟩) (fun i hi => ?_)
  obtain ⟨hil, hall⟩ := hi
  by_cases hi : i < ps.length
  rotate_left
  · have hl' : ¬ ((i : Int) < (ps.length : Int)) := by omega
    have hT : allB M ps ts = true := by
      simp only [allB, decide_eq_true_eq]
      exact fun j p t hp ht => hall j p t (by have := (List.getElem?_eq_some_iff.1 hp).1; omega) hp ht
    ((repeat (first
      | with_reducible refine pwp_seqW ?_
      | with_reducible refine pwp_block ?_
      | ((first | with_reducible refine pwp_skip ?_ | with_reducible refine pwp_exit ?_); try refine wkI ?_)
      | (with_reducible refine pwp_ct ?_ ?_; · simp only [pz, ↓reduceIte, Nat.reduceEqDiff, tmz, hl', hT])
      | (with_reducible refine pwp_cf ?_ ?_; · simp only [pz, ↓reduceIte, Nat.reduceEqDiff, tmz, hl', hT])
      | (((first
        | with_reducible refine region_0k ?_
        | (with_reducible refine region_Dk (id := 4) 8 ?_ ?_; · kernel_rfl)
        ); intro ds hds; simp only [List.map] at hds; subst hds); refine reT (by simp only [pz, ↓reduceIte, Nat.reduceEqDiff, Nat.reduceAdd, Nat.reduceSub, Nat.reduceMul, Nat.reduceLeDiff, Nat.reduceBEq, Bool.false_eq_true, decide_true, decide_false, Int.reduceLE, Int.reduceToNat, Int.reduceLT, Int.reduceEq, eq_self, Nat.reduceShiftRight, Nat.reduceAnd, Nat.reduceBneDiff, tmz, hl', hT]; exact rfl) ?_; try refine wkI ?_)))
     refine pwp_ret (ret_ok ?_)
     simp [resOk, resA, resSlots, gs, tmz, hl', hT])
  have hl' : (i : Int) < (ps.length : Int) := by omega
  obtain ⟨p, hp⟩ : ∃ a, ps[i]? = some a := ⟨_, List.getElem?_eq_getElem hi⟩
  obtain ⟨t, ht⟩ : ∃ a, ts[i]? = some a := ⟨_, List.getElem?_eq_getElem (by omega)⟩
  have hw1 := wrap1 (k := i) (by omega)
  (repeat (first
    | with_reducible refine pwp_seqW ?_
    | with_reducible refine pwp_block ?_
    | ((first | with_reducible refine pwp_skip ?_ | with_reducible refine pwp_exit ?_); try refine wkI ?_)
    | (with_reducible refine pwp_ct ?_ ?_; · simp only [pz, ↓reduceIte, Nat.reduceEqDiff, tmz, hl', hp])
    | (with_reducible refine pwp_cf ?_ ?_; · simp only [pz, ↓reduceIte, Nat.reduceEqDiff, tmz, hl', hp])
    | (((first
      | with_reducible refine region_0k ?_
      | (with_reducible refine region_Dk (id := 4) 8 ?_ ?_; · kernel_rfl)
      ); intro ds hds; simp only [List.map] at hds; subst hds); refine reT (by simp only [pz, ↓reduceIte, Nat.reduceEqDiff, Nat.reduceAdd, Nat.reduceSub, Nat.reduceMul, Nat.reduceLeDiff, Nat.reduceBEq, Bool.false_eq_true, decide_true, decide_false, Int.reduceLE, Int.reduceToNat, Int.reduceLT, Int.reduceEq, eq_self, Nat.reduceShiftRight, Nat.reduceAnd, Nat.reduceBneDiff, tmz, hl', hp]; exact rfl) ?_; try refine wkI ?_)))
  ((first
    | with_reducible refine region_0k ?_
    | (with_reducible refine region_Dk (id := 4) 8 ?_ ?_; · kernel_rfl)
    ); intro ds hds; simp only [List.map] at hds; subst hds)
  (refine rcT (by simp only [pz, ↓reduceIte, Nat.reduceEqDiff, Nat.reduceAdd, Nat.reduceSub, Nat.reduceMul, Nat.reduceLeDiff, Nat.reduceBEq, Bool.false_eq_true, decide_true, decide_false, Int.reduceLE, Int.reduceToNat, Int.reduceLT, Int.reduceEq, eq_self, Nat.reduceShiftRight, Nat.reduceAnd, Nat.reduceBneDiff, tmz, hp, ht]; exact rfl) (h p (List.mem_of_getElem? hp) t (List.mem_of_getElem? ht)) (by simp only [setA, retA]; exact rfl) ?_)
  cases hM : M p t with
  | true =>
    have hq : i + 1 ≤ ps.length ∧ ∀ (j : Nat) p t, j < i + 1 → ps[j]? = some p → ts[j]? = some t → M p t = true := ⟨by omega, fun j p' t' hj hp' ht' => by
      by_cases e : j = i
      · subst e
        rw [hp] at hp'
        rw [ht] at ht'
        injection hp' with hp'
        injection ht' with ht'
        subst hp' ht'
        exact hM
      · exact hall j p' t' (by omega) hp' ht'⟩
    (refine reT (by simp only [pz, ↓reduceIte, Nat.reduceEqDiff, Nat.reduceAdd, Nat.reduceSub, Nat.reduceMul, Nat.reduceLeDiff, Nat.reduceBEq, Bool.false_eq_true, decide_true, decide_false, Int.reduceLE, Int.reduceToNat, Int.reduceLT, Int.reduceEq, eq_self, Nat.reduceShiftRight, Nat.reduceAnd, Nat.reduceBneDiff, tmz]; exact rfl) ?_; first | (change pwp _ _ _ _ _) | refine wkI ?_ | skip)
    ((repeat (first
      | with_reducible refine pwp_seqW ?_
      | with_reducible refine pwp_block ?_
      | ((first | with_reducible refine pwp_skip ?_ | with_reducible refine pwp_exit ?_); try refine wkI ?_)
      | (with_reducible refine pwp_ct ?_ ?_; · simp only [pz, ↓reduceIte, Nat.reduceEqDiff, hw1, tmz])
      | (with_reducible refine pwp_cf ?_ ?_; · simp only [pz, ↓reduceIte, Nat.reduceEqDiff, hw1, tmz])
      | (((first
        | with_reducible refine region_0k ?_
        | (with_reducible refine region_Dk (id := 4) 8 ?_ ?_; · kernel_rfl)
        ); intro ds hds; simp only [List.map] at hds; subst hds); refine reT (by simp only [pz, ↓reduceIte, Nat.reduceEqDiff, Nat.reduceAdd, Nat.reduceSub, Nat.reduceMul, Nat.reduceLeDiff, Nat.reduceBEq, Bool.false_eq_true, decide_true, decide_false, Int.reduceLE, Int.reduceToNat, Int.reduceLT, Int.reduceEq, eq_self, Nat.reduceShiftRight, Nat.reduceAnd, Nat.reduceBneDiff, hw1, tmz]; exact rfl) ?_; try refine wkI ?_)))
     exact ⟨i + 1, hq, by simp [weakS, gs, hw1, tmz], by simp [weakM, gm, hw1, tmz], by omega⟩)
  | false =>
    have hf := allB_false hp ht hM
    (refine reT (by simp only [pz, ↓reduceIte, Nat.reduceEqDiff, Nat.reduceAdd, Nat.reduceSub, Nat.reduceMul, Nat.reduceLeDiff, Nat.reduceBEq, Bool.false_eq_true, decide_true, decide_false, Int.reduceLE, Int.reduceToNat, Int.reduceLT, Int.reduceEq, eq_self, Nat.reduceShiftRight, Nat.reduceAnd, Nat.reduceBneDiff, tmz]; exact rfl) ?_; first | (change pwp _ _ _ _ _) | refine wkI ?_ | skip)
    ((repeat (first
      | with_reducible refine pwp_seqW ?_
      | with_reducible refine pwp_block ?_
      | ((first | with_reducible refine pwp_skip ?_ | with_reducible refine pwp_exit ?_); try refine wkI ?_)
      | (with_reducible refine pwp_ct ?_ ?_; · simp only [pz, ↓reduceIte, Nat.reduceEqDiff, hf])
      | (with_reducible refine pwp_cf ?_ ?_; · simp only [pz, ↓reduceIte, Nat.reduceEqDiff, hf])
      | (((first
        | with_reducible refine region_0k ?_
        | (with_reducible refine region_Dk (id := 4) 8 ?_ ?_; · kernel_rfl)
        ); intro ds hds; simp only [List.map] at hds; subst hds); refine reT (by simp only [pz, ↓reduceIte, Nat.reduceEqDiff, Nat.reduceAdd, Nat.reduceSub, Nat.reduceMul, Nat.reduceLeDiff, Nat.reduceBEq, Bool.false_eq_true, decide_true, decide_false, Int.reduceLE, Int.reduceToNat, Int.reduceLT, Int.reduceEq, eq_self, Nat.reduceShiftRight, Nat.reduceAnd, Nat.reduceBneDiff, hf]; exact rfl) ?_; try refine wkI ?_)))
     refine pwp_ret (ret_ok ?_)
     simp [resOk, resA, resSlots, gs, hf])
set_option maxHeartbeats 4000000 in
set_option maxRecDepth 100000 in
theorem con_mayFollow {ps ts : List Tm} (hl : ps.length ≤ big) (hb : ts.length ≤ big) (hop : ∀ p ∈ ps, p.op = -1 ∨ 0 ≤ p.op) (h : ∀ p ∈ ps, ∀ t ∈ ts, mayC g mc M p t) : Con e0 112 [.one (.ptr (encX g mc)), .one (.sl (encTms ps)), .one (.sl (encTms ts))] [.one (.lit (.bool (followB M ps ts)))] := by
  unfold big at hb hl
  refine con_of_pwp e0_ok 1116691513031 Try.func112 rfl (by kernel_rfl) (by kernel_rfl) rfl rfl ?_
  (repeat (first
    | with_reducible refine pwp_seqW ?_
    | with_reducible refine pwp_block ?_
    | ((first | with_reducible refine pwp_skip ?_ | with_reducible refine pwp_exit ?_); try refine wkI ?_)
    | (with_reducible refine pwp_ct ?_ ?_; · simp only [pz, ↓reduceIte, Nat.reduceEqDiff, tmz])
    | (with_reducible refine pwp_cf ?_ ?_; · simp only [pz, ↓reduceIte, Nat.reduceEqDiff, tmz])
    | (((first
      | with_reducible refine region_0k ?_
      | (with_reducible refine region_Dk (id := 5) 19 ?_ ?_; · kernel_rfl)
      ); intro ds hds; simp only [List.map] at hds; subst hds); refine reT (by simp only [pz, ↓reduceIte, Nat.reduceEqDiff, Nat.reduceAdd, Nat.reduceSub, Nat.reduceMul, Nat.reduceLeDiff, Nat.reduceBEq, Bool.false_eq_true, decide_true, decide_false, Int.reduceLE, Int.reduceToNat, Int.reduceLT, Int.reduceEq, eq_self, Nat.reduceShiftRight, Nat.reduceAnd, Nat.reduceBneDiff, tmz]; exact rfl) ?_; try refine wkI ?_)))
  refine pwp_loopU (ι := Nat × Nat) [6, 7, 9, 12, 13, 34, 40] [] (fun x => [(12, A.d (.one (.lit (.int .i64 (x.1 : Nat))))), (7, A.d (.one (.lit (.int .i64 (x.2 : Nat)))))]) (fun x => []) (fun x => x.1 ≤ ps.length ∧ x.2 ≤ ts.length ∧ followB M (ps.drop x.1) (ts.drop x.2) = followB M ps ts) (fun x => ps.length - x.1) ((0, 0)) (by simp only [headS, headM, List.elem_cons, List.elem_nil, Nat.reduceBEq, Bool.or_false, Bool.false_or, Bool.or_true, Bool.true_or, Bool.or_self, ↓reduceIte, Bool.false_eq_true]; exact rfl) (by simp only [headS, headM, List.elem_cons, List.elem_nil, Nat.reduceBEq, Bool.or_false, Bool.false_or, Bool.or_true, Bool.true_or, Bool.or_self, ↓reduceIte, Bool.false_eq_true]; exact rfl) (fun _ => by simp only [List.cons_append, List.nil_append]; exact rfl) (fun _ => by simp only [List.cons_append, List.nil_append]; exact rfl) (by simp [weakS, gs, e0P]) (by simp [weakM, gm, e0P]) (⟨by omega, by omega, rfl⟩) (fun x hx => ?_)
  obtain ⟨i, at0⟩ := x
  obtain ⟨hil, hat0, hfo⟩ := hx
  simp only at hil hat0 hfo
  by_cases hi : i < ps.length
  rotate_left
  · have hl' : ¬ ((i : Int) < (ps.length : Int)) := by omega
    have hT : followB M ps ts = true := by rw [← hfo]; exact follow_end (by omega)
    ((repeat (first
      | with_reducible refine pwp_seqW ?_
      | with_reducible refine pwp_block ?_
      | ((first | with_reducible refine pwp_skip ?_ | with_reducible refine pwp_exit ?_); try refine wkI ?_)
      | (with_reducible refine pwp_ct ?_ ?_; · simp only [pz, ↓reduceIte, Nat.reduceEqDiff, tmz, hl', hT])
      | (with_reducible refine pwp_cf ?_ ?_; · simp only [pz, ↓reduceIte, Nat.reduceEqDiff, tmz, hl', hT])
      | (((first
        | with_reducible refine region_0k ?_
        | (with_reducible refine region_Dk (id := 5) 19 ?_ ?_; · kernel_rfl)
        ); intro ds hds; simp only [List.map] at hds; subst hds); refine reT (by simp only [pz, ↓reduceIte, Nat.reduceEqDiff, Nat.reduceAdd, Nat.reduceSub, Nat.reduceMul, Nat.reduceLeDiff, Nat.reduceBEq, Bool.false_eq_true, decide_true, decide_false, Int.reduceLE, Int.reduceToNat, Int.reduceLT, Int.reduceEq, eq_self, Nat.reduceShiftRight, Nat.reduceAnd, Nat.reduceBneDiff, tmz, hl', hT]; exact rfl) ?_; try refine wkI ?_)))
     refine pwp_ret (ret_ok ?_)
     simp [resOk, resA, resSlots, gs, tmz, hl', hT])
  have hl' : (i : Int) < (ps.length : Int) := by omega
  obtain ⟨p, hp⟩ : ∃ a, ps[i]? = some a := ⟨_, List.getElem?_eq_getElem hi⟩
  have hw1 := wrap1 (k := i) (by omega)
  have hpm := List.mem_of_getElem? hp
  (repeat (first
    | with_reducible refine pwp_seqW ?_
    | with_reducible refine pwp_block ?_
    | ((first | with_reducible refine pwp_skip ?_ | with_reducible refine pwp_exit ?_); try refine wkI ?_)
    | (with_reducible refine pwp_ct ?_ ?_; · simp only [pz, ↓reduceIte, Nat.reduceEqDiff, tmz, hl', hp])
    | (with_reducible refine pwp_cf ?_ ?_; · simp only [pz, ↓reduceIte, Nat.reduceEqDiff, tmz, hl', hp])
    | (((first
      | with_reducible refine region_0k ?_
      | (with_reducible refine region_Dk (id := 5) 19 ?_ ?_; · kernel_rfl)
      ); intro ds hds; simp only [List.map] at hds; subst hds); refine reT (by simp only [pz, ↓reduceIte, Nat.reduceEqDiff, Nat.reduceAdd, Nat.reduceSub, Nat.reduceMul, Nat.reduceLeDiff, Nat.reduceBEq, Bool.false_eq_true, decide_true, decide_false, Int.reduceLE, Int.reduceToNat, Int.reduceLT, Int.reduceEq, eq_self, Nat.reduceShiftRight, Nat.reduceAnd, Nat.reduceBneDiff, tmz, hl', hp]; exact rfl) ?_; try refine wkI ?_)))
  refine pwp_loopU (ι := Nat) [7, 34] [] (fun k => [(7, A.d (.one (.lit (.int .i64 k))))]) (fun k => []) (fun k => k ≤ ts.length ∧ followB M (ps.drop i) (ts.drop k) = followB M ps ts) (fun k => ts.length - k) (at0) (by simp only [headS, headM, List.elem_cons, List.elem_nil, Nat.reduceBEq, Bool.or_false, Bool.false_or, Bool.or_true, Bool.true_or, Bool.or_self, ↓reduceIte, Bool.false_eq_true]; exact rfl) (by simp only [headS, headM, List.elem_cons, List.elem_nil, Nat.reduceBEq, Bool.or_false, Bool.false_or, Bool.or_true, Bool.true_or, Bool.or_self, ↓reduceIte, Bool.false_eq_true]; exact rfl) (fun _ => by simp only [List.cons_append, List.nil_append]; exact rfl) (fun _ => by simp only [List.cons_append, List.nil_append]; exact rfl) (by simp [weakS, gs, tmz]) (by simp [weakM, gm, tmz]) (⟨by omega, hfo⟩) (fun k hk => ?_)
  obtain ⟨hkl, hfk⟩ := hk
  by_cases hk : k < ts.length
  rotate_left
  · have hk' : ¬ ((k : Int) < (ts.length : Int)) := by omega
    have hk2 : (ts.length : Int) ≤ (k : Int) := by omega
    have hF : followB M ps ts = false := by rw [← hfk]; exact follow_out hp (by omega)
    ((repeat (first
      | with_reducible refine pwp_seqW ?_
      | with_reducible refine pwp_block ?_
      | ((first | with_reducible refine pwp_skip ?_ | with_reducible refine pwp_exit ?_); try refine wkI ?_)
      | (with_reducible refine pwp_ct ?_ ?_; · simp only [pz, ↓reduceIte, Nat.reduceEqDiff, tmz, hk', hk2, hF])
      | (with_reducible refine pwp_cf ?_ ?_; · simp only [pz, ↓reduceIte, Nat.reduceEqDiff, tmz, hk', hk2, hF])
      | (((first
        | with_reducible refine region_0k ?_
        | (with_reducible refine region_Dk (id := 5) 19 ?_ ?_; · kernel_rfl)
        ); intro ds hds; simp only [List.map] at hds; subst hds); refine reT (by simp only [pz, ↓reduceIte, Nat.reduceEqDiff, Nat.reduceAdd, Nat.reduceSub, Nat.reduceMul, Nat.reduceLeDiff, Nat.reduceBEq, Bool.false_eq_true, decide_true, decide_false, Int.reduceLE, Int.reduceToNat, Int.reduceLT, Int.reduceEq, eq_self, Nat.reduceShiftRight, Nat.reduceAnd, Nat.reduceBneDiff, tmz, hk', hk2, hF]; exact rfl) ?_; try refine wkI ?_)))
     refine pwp_ret (ret_ok ?_)
     simp [resOk, resA, resSlots, gs, tmz, hk', hk2, hF])
  have hk' : (k : Int) < (ts.length : Int) := by omega
  have hk2 : ¬ ((ts.length : Int) ≤ (k : Int)) := by omega
  obtain ⟨t, ht⟩ : ∃ a, ts[k]? = some a := ⟨_, List.getElem?_eq_getElem hk⟩
  have hwk := wrap1 (k := k) (by omega)
  rcases hop p hpm with hv | hv
  · have hv' : ¬ (0 ≤ p.op) := by omega
    have hv2 : ¬ ((0 : Int) ≤ -1) := by omega
    have hq : i + 1 ≤ ps.length ∧ k + 1 ≤ ts.length ∧ followB M (ps.drop (i + 1)) (ts.drop (k + 1)) = followB M ps ts := ⟨by omega, by omega, by rw [← follow_take hp ht (by simp [hv])]; exact hfk⟩
    ((repeat (first
      | with_reducible refine pwp_seqW ?_
      | with_reducible refine pwp_block ?_
      | ((first | with_reducible refine pwp_skip ?_ | with_reducible refine pwp_exit ?_); try refine wkI ?_)
      | (with_reducible refine pwp_ct ?_ ?_; · simp only [pz, ↓reduceIte, Nat.reduceEqDiff, hw1, hwk, tmz, hk', hk2, hv', hv2, hv])
      | (with_reducible refine pwp_cf ?_ ?_; · simp only [pz, ↓reduceIte, Nat.reduceEqDiff, hw1, hwk, tmz, hk', hk2, hv', hv2, hv])
      | (((first
        | with_reducible refine region_0k ?_
        | (with_reducible refine region_Dk (id := 5) 19 ?_ ?_; · kernel_rfl)
        ); intro ds hds; simp only [List.map] at hds; subst hds); refine reT (by simp only [pz, ↓reduceIte, Nat.reduceEqDiff, Nat.reduceAdd, Nat.reduceSub, Nat.reduceMul, Nat.reduceLeDiff, Nat.reduceBEq, Bool.false_eq_true, decide_true, decide_false, Int.reduceLE, Int.reduceToNat, Int.reduceLT, Int.reduceEq, eq_self, Nat.reduceShiftRight, Nat.reduceAnd, Nat.reduceBneDiff, hw1, hwk, tmz, hk', hk2, hv', hv2, hv]; exact rfl) ?_; try refine wkI ?_)))
     exact ⟨(i + 1, k + 1), hq, by simp [weakS, gs, hw1, hwk, tmz, hk', hk2, hv', hv2, hv], by simp [weakM, gm, hw1, hwk, tmz, hk', hk2, hv', hv2, hv], by omega⟩)
  have hvn : ¬ p.op = -1 := by omega
  (repeat (first
    | with_reducible refine pwp_seqW ?_
    | with_reducible refine pwp_block ?_
    | ((first | with_reducible refine pwp_skip ?_ | with_reducible refine pwp_exit ?_); try refine wkI ?_)
    | (with_reducible refine pwp_ct ?_ ?_; · simp only [pz, ↓reduceIte, Nat.reduceEqDiff, tmz])
    | (with_reducible refine pwp_cf ?_ ?_; · simp only [pz, ↓reduceIte, Nat.reduceEqDiff, tmz])
    | (((first
      | with_reducible refine region_0k ?_
      | (with_reducible refine region_Dk (id := 5) 19 ?_ ?_; · kernel_rfl)
      ); intro ds hds; simp only [List.map] at hds; subst hds); refine reT (by simp only [pz, ↓reduceIte, Nat.reduceEqDiff, Nat.reduceAdd, Nat.reduceSub, Nat.reduceMul, Nat.reduceLeDiff, Nat.reduceBEq, Bool.false_eq_true, decide_true, decide_false, Int.reduceLE, Int.reduceToNat, Int.reduceLT, Int.reduceEq, eq_self, Nat.reduceShiftRight, Nat.reduceAnd, Nat.reduceBneDiff, tmz]; exact rfl) ?_; try refine wkI ?_)))
  ((first
    | with_reducible refine region_0k ?_
    | (with_reducible refine region_Dk (id := 5) 19 ?_ ?_; · kernel_rfl)
    ); intro ds hds; simp only [List.map] at hds; subst hds)
  (refine rcT (by simp only [pz, ↓reduceIte, Nat.reduceEqDiff, Nat.reduceAdd, Nat.reduceSub, Nat.reduceMul, Nat.reduceLeDiff, Nat.reduceBEq, Bool.false_eq_true, decide_true, decide_false, Int.reduceLE, Int.reduceToNat, Int.reduceLT, Int.reduceEq, eq_self, Nat.reduceShiftRight, Nat.reduceAnd, Nat.reduceBneDiff, tmz, hk', hv, ht]; exact rfl) (h p hpm t (List.mem_of_getElem? ht)) (by simp only [setA, retA]; exact rfl) ?_)
  cases hM : M p t with
  | true =>
    have hq : i + 1 ≤ ps.length ∧ k + 1 ≤ ts.length ∧ followB M (ps.drop (i + 1)) (ts.drop (k + 1)) = followB M ps ts := ⟨by omega, by omega, by rw [← follow_take hp ht (by simp [hM])]; exact hfk⟩
    (refine reT (by simp only [pz, ↓reduceIte, Nat.reduceEqDiff, Nat.reduceAdd, Nat.reduceSub, Nat.reduceMul, Nat.reduceLeDiff, Nat.reduceBEq, Bool.false_eq_true, decide_true, decide_false, Int.reduceLE, Int.reduceToNat, Int.reduceLT, Int.reduceEq, eq_self, Nat.reduceShiftRight, Nat.reduceAnd, Nat.reduceBneDiff, tmz]; exact rfl) ?_; first | (change pwp _ _ _ _ _) | refine wkI ?_ | skip)
    ((repeat (first
      | with_reducible refine pwp_seqW ?_
      | with_reducible refine pwp_block ?_
      | ((first | with_reducible refine pwp_skip ?_ | with_reducible refine pwp_exit ?_); try refine wkI ?_)
      | (with_reducible refine pwp_ct ?_ ?_; · simp only [pz, ↓reduceIte, Nat.reduceEqDiff, hw1, hwk, tmz, hk', hk2])
      | (with_reducible refine pwp_cf ?_ ?_; · simp only [pz, ↓reduceIte, Nat.reduceEqDiff, hw1, hwk, tmz, hk', hk2])
      | (((first
        | with_reducible refine region_0k ?_
        | (with_reducible refine region_Dk (id := 5) 19 ?_ ?_; · kernel_rfl)
        ); intro ds hds; simp only [List.map] at hds; subst hds); refine reT (by simp only [pz, ↓reduceIte, Nat.reduceEqDiff, Nat.reduceAdd, Nat.reduceSub, Nat.reduceMul, Nat.reduceLeDiff, Nat.reduceBEq, Bool.false_eq_true, decide_true, decide_false, Int.reduceLE, Int.reduceToNat, Int.reduceLT, Int.reduceEq, eq_self, Nat.reduceShiftRight, Nat.reduceAnd, Nat.reduceBneDiff, hw1, hwk, tmz, hk', hk2]; exact rfl) ?_; try refine wkI ?_)))
     exact ⟨(i + 1, k + 1), hq, by simp [weakS, gs, hw1, hwk, tmz, hk', hk2], by simp [weakM, gm, hw1, hwk, tmz, hk', hk2], by omega⟩)
  | false =>
    have hq : k + 1 ≤ ts.length ∧ followB M (ps.drop i) (ts.drop (k + 1)) = followB M ps ts := ⟨by omega, by rw [← follow_step hp ht (by simp [hM, hvn])]; exact hfk⟩
    (refine reT (by simp only [pz, ↓reduceIte, Nat.reduceEqDiff, Nat.reduceAdd, Nat.reduceSub, Nat.reduceMul, Nat.reduceLeDiff, Nat.reduceBEq, Bool.false_eq_true, decide_true, decide_false, Int.reduceLE, Int.reduceToNat, Int.reduceLT, Int.reduceEq, eq_self, Nat.reduceShiftRight, Nat.reduceAnd, Nat.reduceBneDiff, tmz]; exact rfl) ?_; first | (change pwp _ _ _ _ _) | refine wkI ?_ | skip)
    ((repeat (first
      | with_reducible refine pwp_seqW ?_
      | with_reducible refine pwp_block ?_
      | ((first | with_reducible refine pwp_skip ?_ | with_reducible refine pwp_exit ?_); try refine wkI ?_)
      | (with_reducible refine pwp_ct ?_ ?_; · simp only [pz, ↓reduceIte, Nat.reduceEqDiff, hwk, tmz])
      | (with_reducible refine pwp_cf ?_ ?_; · simp only [pz, ↓reduceIte, Nat.reduceEqDiff, hwk, tmz])
      | (((first
        | with_reducible refine region_0k ?_
        | (with_reducible refine region_Dk (id := 5) 19 ?_ ?_; · kernel_rfl)
        ); intro ds hds; simp only [List.map] at hds; subst hds); refine reT (by simp only [pz, ↓reduceIte, Nat.reduceEqDiff, Nat.reduceAdd, Nat.reduceSub, Nat.reduceMul, Nat.reduceLeDiff, Nat.reduceBEq, Bool.false_eq_true, decide_true, decide_false, Int.reduceLE, Int.reduceToNat, Int.reduceLT, Int.reduceEq, eq_self, Nat.reduceShiftRight, Nat.reduceAnd, Nat.reduceBneDiff, hwk, tmz]; exact rfl) ?_; try refine wkI ?_)))
     exact ⟨k + 1, hq, by simp [weakS, gs, hwk, tmz], by simp [weakM, gm, hwk, tmz], by omega⟩)
end
end Go.Proofs.Ytmpcbijkbgmjkaa

namespace Go.Proofs.Ytmpcbijkbgmjkaa
open Go.RowKit
section
variable {g : Sgn} {mc : C}
theorem FormOk.arg {t a : Tm} (h : FormOk g t) (ha : a ∈ t.args) : FormOk g a := (FormOk_iff.1 h).2.1 a ha
theorem FormOk.opc {t : Tm} (h : FormOk g t) : t.op = -1 ∨ 0 ≤ t.op := by
  rcases h.node with h | ⟨o, d, h⟩
  · exact .inl h.1
  · exact .inr h.lo
set_option maxHeartbeats 4000000 in
set_option maxRecDepth 100000 in
theorem con_may1 {M : Tm → Tm → Bool} {p t : Tm} (h : mayC g mc M p t) : Con e0 110 [.agg (encTm t), .one (.ptr [.ptr (encX g mc)]), .one (.ptr (encTm p))] [.one (.lit (.bool (M p t)))] := by
  refine con_of_pwp e0_ok 31 Try.func110 rfl (by kernel_rfl) (by kernel_rfl) rfl rfl ?_
  (repeat (first
    | with_reducible refine pwp_seqW ?_
    | with_reducible refine pwp_block ?_
    | ((first | with_reducible refine pwp_skip ?_ | with_reducible refine pwp_exit ?_); try refine wkI ?_)
    | (with_reducible refine pwp_ct ?_ ?_; · simp only [pz, ↓reduceIte, Nat.reduceEqDiff, tmz])
    | (with_reducible refine pwp_cf ?_ ?_; · simp only [pz, ↓reduceIte, Nat.reduceEqDiff, tmz])
    | (((first
      | with_reducible refine region_0k ?_
      ); intro ds hds; simp only [List.map] at hds; subst hds); refine reT (by simp only [pz, ↓reduceIte, Nat.reduceEqDiff, Nat.reduceAdd, Nat.reduceSub, Nat.reduceMul, Nat.reduceLeDiff, Nat.reduceBEq, Bool.false_eq_true, decide_true, decide_false, Int.reduceLE, Int.reduceToNat, Int.reduceLT, Int.reduceEq, eq_self, Nat.reduceShiftRight, Nat.reduceAnd, Nat.reduceBneDiff, tmz]; exact rfl) ?_; try refine wkI ?_)))
  ((first
    | with_reducible refine region_0k ?_
    ); intro ds hds; simp only [List.map] at hds; subst hds)
  (refine rcT (by simp only [pz, ↓reduceIte, Nat.reduceEqDiff, Nat.reduceAdd, Nat.reduceSub, Nat.reduceMul, Nat.reduceLeDiff, Nat.reduceBEq, Bool.false_eq_true, decide_true, decide_false, Int.reduceLE, Int.reduceToNat, Int.reduceLT, Int.reduceEq, eq_self, Nat.reduceShiftRight, Nat.reduceAnd, Nat.reduceBneDiff, tmz]; exact rfl) (h) (by simp only [setA, retA]; exact rfl) ?_)
  (refine reT (by simp only [pz, ↓reduceIte, Nat.reduceEqDiff, Nat.reduceAdd, Nat.reduceSub, Nat.reduceMul, Nat.reduceLeDiff, Nat.reduceBEq, Bool.false_eq_true, decide_true, decide_false, Int.reduceLE, Int.reduceToNat, Int.reduceLT, Int.reduceEq, eq_self, Nat.reduceShiftRight, Nat.reduceAnd, Nat.reduceBneDiff, tmz]; exact rfl) ?_; first | (change pwp _ _ _ _ _) | refine wkI ?_ | skip)
  ((repeat (first
    | with_reducible refine pwp_seqW ?_
    | with_reducible refine pwp_block ?_
    | ((first | with_reducible refine pwp_skip ?_ | with_reducible refine pwp_exit ?_); try refine wkI ?_)
    | (with_reducible refine pwp_ct ?_ ?_; · simp only [pz, ↓reduceIte, Nat.reduceEqDiff, tmz])
    | (with_reducible refine pwp_cf ?_ ?_; · simp only [pz, ↓reduceIte, Nat.reduceEqDiff, tmz])
    | (((first
      | with_reducible refine region_0k ?_
      ); intro ds hds; simp only [List.map] at hds; subst hds); refine reT (by simp only [pz, ↓reduceIte, Nat.reduceEqDiff, Nat.reduceAdd, Nat.reduceSub, Nat.reduceMul, Nat.reduceLeDiff, Nat.reduceBEq, Bool.false_eq_true, decide_true, decide_false, Int.reduceLE, Int.reduceToNat, Int.reduceLT, Int.reduceEq, eq_self, Nat.reduceShiftRight, Nat.reduceAnd, Nat.reduceBneDiff, tmz]; exact rfl) ?_; try refine wkI ?_)))
   refine pwp_ret (ret_ok ?_)
   simp [resOk, resA, resSlots, gs, tmz])
theorem swap2_eq {ts : List Tm} {a b : Tm} (hl : ts.length = 2) (ha : ts[0]? = some a) (hb : ts[1]? = some b) : swap2 ts = [b, a] := by
  match ts, hl with
  | [x, y], _ =>
    simp at ha hb
    subst ha hb
    rfl
set_option maxHeartbeats 40000000 in
set_option maxRecDepth 100000 in
theorem con_mayMatch (hg : SgnOk g) : ∀ (n : Nat) (p t : Tm), sizeTm p < n → FormOk g p → FormOk g t → sizeTm p ≤ big → sizeTm t ≤ big → mayC g mc (may g n) p t := by
  intro n
  induction n with
  | zero => intro p t h; omega
  | succ n ih =>
    intro p t hn hfp hft hbp hbt
    have hsp := sizeTm_eq p
    have hst := sizeTm_eq t
    have hlp := sizeTms_len p.args
    have hlt := sizeTms_len t.args
    have IH : ∀ p' ∈ p.args, ∀ t' ∈ t.args, mayC g mc (may g n) p' t' := fun p' hp' t' ht' => by
      have h1 := sizeTms_mem hp'
      have h2 := sizeTms_mem ht'
      exact ih p' t' (by omega) (hfp.arg hp') (hft.arg ht') (by omega) (by omega)
    show Con e0 _ _ [.one (.lit (.bool (mayB g (may g n) p t)))]
    generalize may g n = M at IH ⊢
    have hbp' := hbp
    have hbt' := hbt
    unfold big at hbp' hbt'
    refine con_of_pwp e0_ok 9904275927516953698140956415 Try.func68 rfl (by kernel_rfl) (by kernel_rfl) rfl rfl ?_
    rcases hfp.node with hv | ⟨o, d, hA⟩
    · have h1 := hv.1
      have hneg : (-1 : Int) < 0 := by omega
      have e : mayB g M p t = decide (kindTm g p = kindTm g t) := by simp [mayB, h1]
      rw [e]
      (repeat (first
        | with_reducible refine pwp_seqW ?_
        | with_reducible refine pwp_block ?_
        | ((first | with_reducible refine pwp_skip ?_ | with_reducible refine pwp_exit ?_); try refine wkI ?_)
        | (with_reducible refine pwp_ct ?_ ?_; · simp only [pz, ↓reduceIte, Nat.reduceEqDiff, tmz, h1, hneg])
        | (with_reducible refine pwp_cf ?_ ?_; · simp only [pz, ↓reduceIte, Nat.reduceEqDiff, tmz, h1, hneg])
        | (((first
          | with_reducible refine region_0k ?_
          | (with_reducible refine region_Dk (id := 2) 7 ?_ ?_; · kernel_rfl)
          | (with_reducible refine region_Dk (id := 21) 17 ?_ ?_; · kernel_rfl)
          | (with_reducible refine region_Dk (id := 3) 9 ?_ ?_; · kernel_rfl)
          ); intro ds hds; simp only [List.map] at hds; subst hds); refine reT (by simp only [pz, ↓reduceIte, Nat.reduceEqDiff, Nat.reduceAdd, Nat.reduceSub, Nat.reduceMul, Nat.reduceLeDiff, Nat.reduceBEq, Bool.false_eq_true, decide_true, decide_false, Int.reduceLE, Int.reduceToNat, Int.reduceLT, Int.reduceEq, eq_self, Nat.reduceShiftRight, Nat.reduceAnd, Nat.reduceBneDiff, tmz, h1, hneg]; exact rfl) ?_; try refine wkI ?_)))
      ((first
        | with_reducible refine region_0k ?_
        | (with_reducible refine region_Dk (id := 2) 7 ?_ ?_; · kernel_rfl)
        | (with_reducible refine region_Dk (id := 21) 17 ?_ ?_; · kernel_rfl)
        | (with_reducible refine region_Dk (id := 3) 9 ?_ ?_; · kernel_rfl)
        ); intro ds hds; simp only [List.map] at hds; subst hds)
      (refine rcT (by simp only [pz, ↓reduceIte, Nat.reduceEqDiff, Nat.reduceAdd, Nat.reduceSub, Nat.reduceMul, Nat.reduceLeDiff, Nat.reduceBEq, Bool.false_eq_true, decide_true, decide_false, Int.reduceLE, Int.reduceToNat, Int.reduceLT, Int.reduceEq, eq_self, Nat.reduceShiftRight, Nat.reduceAnd, Nat.reduceBneDiff, tmz]; exact rfl) (con_kindOf (mc := mc) hg hfp.node) (by simp only [setA, retA]; exact rfl) ?_)
      (refine rcT (by simp only [pz, ↓reduceIte, Nat.reduceEqDiff, Nat.reduceAdd, Nat.reduceSub, Nat.reduceMul, Nat.reduceLeDiff, Nat.reduceBEq, Bool.false_eq_true, decide_true, decide_false, Int.reduceLE, Int.reduceToNat, Int.reduceLT, Int.reduceEq, eq_self, Nat.reduceShiftRight, Nat.reduceAnd, Nat.reduceBneDiff, tmz]; exact rfl) (con_kindOf (mc := mc) hg hft.node) (by simp only [setA, retA]; exact rfl) ?_)
      (refine reT (by simp only [pz, ↓reduceIte, Nat.reduceEqDiff, Nat.reduceAdd, Nat.reduceSub, Nat.reduceMul, Nat.reduceLeDiff, Nat.reduceBEq, Bool.false_eq_true, decide_true, decide_false, Int.reduceLE, Int.reduceToNat, Int.reduceLT, Int.reduceEq, eq_self, Nat.reduceShiftRight, Nat.reduceAnd, Nat.reduceBneDiff, tmz]; exact rfl) ?_; first | (change pwp _ _ _ _ _) | refine wkI ?_ | skip)
      ((repeat (first
        | with_reducible refine pwp_seqW ?_
        | with_reducible refine pwp_block ?_
        | ((first | with_reducible refine pwp_skip ?_ | with_reducible refine pwp_exit ?_); try refine wkI ?_)
        | (with_reducible refine pwp_ct ?_ ?_; · simp only [pz, ↓reduceIte, Nat.reduceEqDiff, tmz])
        | (with_reducible refine pwp_cf ?_ ?_; · simp only [pz, ↓reduceIte, Nat.reduceEqDiff, tmz])
        | (((first
          | with_reducible refine region_0k ?_
          | (with_reducible refine region_Dk (id := 2) 7 ?_ ?_; · kernel_rfl)
          | (with_reducible refine region_Dk (id := 21) 17 ?_ ?_; · kernel_rfl)
          | (with_reducible refine region_Dk (id := 3) 9 ?_ ?_; · kernel_rfl)
          ); intro ds hds; simp only [List.map] at hds; subst hds); refine reT (by simp only [pz, ↓reduceIte, Nat.reduceEqDiff, Nat.reduceAdd, Nat.reduceSub, Nat.reduceMul, Nat.reduceLeDiff, Nat.reduceBEq, Bool.false_eq_true, decide_true, decide_false, Int.reduceLE, Int.reduceToNat, Int.reduceLT, Int.reduceEq, eq_self, Nat.reduceShiftRight, Nat.reduceAnd, Nat.reduceBneDiff, tmz]; exact rfl) ?_; try refine wkI ?_)))
       refine pwp_ret (ret_ok ?_)
       simp [resOk, resA, resSlots, gs, tmz])
    have h0 := hA.lo
    have h1 := hA.op
    have ho := hA.at'
    have hd := hA.fst
    have hneg : ¬ (p.op < 0) := by omega
    have hax := hg.axs o (List.mem_of_getElem? ho)
    have hlo := hax.lo
    by_cases hu : o.unit = 0
    rotate_left
    · have e : mayB g M p t = true := by simp [mayB, h1, ho, hu]
      ((repeat (first
        | with_reducible refine pwp_seqW ?_
        | with_reducible refine pwp_block ?_
        | ((first | with_reducible refine pwp_skip ?_ | with_reducible refine pwp_exit ?_); try refine wkI ?_)
        | (with_reducible refine pwp_ct ?_ ?_; · simp only [pz, ↓reduceIte, Nat.reduceEqDiff, tmz, hneg, encX, h0, ho, encOpr, hu, e])
        | (with_reducible refine pwp_cf ?_ ?_; · simp only [pz, ↓reduceIte, Nat.reduceEqDiff, tmz, hneg, encX, h0, ho, encOpr, hu, e])
        | (((first
          | with_reducible refine region_0k ?_
          | (with_reducible refine region_Dk (id := 2) 7 ?_ ?_; · kernel_rfl)
          | (with_reducible refine region_Dk (id := 21) 17 ?_ ?_; · kernel_rfl)
          | (with_reducible refine region_Dk (id := 3) 9 ?_ ?_; · kernel_rfl)
          ); intro ds hds; simp only [List.map] at hds; subst hds); refine reT (by simp only [pz, ↓reduceIte, Nat.reduceEqDiff, Nat.reduceAdd, Nat.reduceSub, Nat.reduceMul, Nat.reduceLeDiff, Nat.reduceBEq, Bool.false_eq_true, decide_true, decide_false, Int.reduceLE, Int.reduceToNat, Int.reduceLT, Int.reduceEq, eq_self, Nat.reduceShiftRight, Nat.reduceAnd, Nat.reduceBneDiff, tmz, hneg, encX, h0, ho, encOpr, hu, e]; exact rfl) ?_; try refine wkI ?_)))
       refine pwp_ret (ret_ok ?_)
       simp [resOk, resA, resSlots, gs, tmz, hneg, encX, h0, ho, encOpr, hu, e])
    by_cases hop : p.op = t.op
    rotate_left
    · have e : mayB g M p t = false := by simp [mayB, h1, ho, hu, hop]
      ((repeat (first
        | with_reducible refine pwp_seqW ?_
        | with_reducible refine pwp_block ?_
        | ((first | with_reducible refine pwp_skip ?_ | with_reducible refine pwp_exit ?_); try refine wkI ?_)
        | (with_reducible refine pwp_ct ?_ ?_; · simp only [pz, ↓reduceIte, Nat.reduceEqDiff, tmz, hneg, encX, h0, ho, encOpr, hu, hop, e])
        | (with_reducible refine pwp_cf ?_ ?_; · simp only [pz, ↓reduceIte, Nat.reduceEqDiff, tmz, hneg, encX, h0, ho, encOpr, hu, hop, e])
        | (((first
          | with_reducible refine region_0k ?_
          | (with_reducible refine region_Dk (id := 2) 7 ?_ ?_; · kernel_rfl)
          | (with_reducible refine region_Dk (id := 21) 17 ?_ ?_; · kernel_rfl)
          | (with_reducible refine region_Dk (id := 3) 9 ?_ ?_; · kernel_rfl)
          ); intro ds hds; simp only [List.map] at hds; subst hds); refine reT (by simp only [pz, ↓reduceIte, Nat.reduceEqDiff, Nat.reduceAdd, Nat.reduceSub, Nat.reduceMul, Nat.reduceLeDiff, Nat.reduceBEq, Bool.false_eq_true, decide_true, decide_false, Int.reduceLE, Int.reduceToNat, Int.reduceLT, Int.reduceEq, eq_self, Nat.reduceShiftRight, Nat.reduceAnd, Nat.reduceBneDiff, tmz, hneg, encX, h0, ho, encOpr, hu, hop, e]; exact rfl) ?_; try refine wkI ?_)))
       refine pwp_ret (ret_ok ?_)
       simp [resOk, resA, resSlots, gs, tmz, hneg, encX, h0, ho, encOpr, hu, hop, e])
    have hopT : (p.op = t.op) = True := eq_true hop
    have hAt : AppOk g t o d := by
      obtain ⟨o', d', h⟩ := hft.node.app (by rw [← hop]; exact h1)
      have e1 := h.at'
      rw [← hop, ho] at e1
      injection e1 with e1
      subst e1
      have e2 := h.fst
      rw [hd] at e2
      injection e2 with e2
      subst e2
      exact h
    cases ha : o.assoc with
    | true =>
      by_cases hle : p.args.length ≤ t.args.length
      rotate_left
      · have e : mayB g M p t = false := by simp [mayB, h1, ho, hu, hopT, ha, hle]
        have hle' : (t.args.length : Int) < (p.args.length : Int) := by omega
        ((repeat (first
          | with_reducible refine pwp_seqW ?_
          | with_reducible refine pwp_block ?_
          | ((first | with_reducible refine pwp_skip ?_ | with_reducible refine pwp_exit ?_); try refine wkI ?_)
          | (with_reducible refine pwp_ct ?_ ?_; · simp only [pz, ↓reduceIte, Nat.reduceEqDiff, tmz, hneg, encX, h0, ho, encOpr, hu, hopT, ha, hle', e])
          | (with_reducible refine pwp_cf ?_ ?_; · simp only [pz, ↓reduceIte, Nat.reduceEqDiff, tmz, hneg, encX, h0, ho, encOpr, hu, hopT, ha, hle', e])
          | (((first
            | with_reducible refine region_0k ?_
            | (with_reducible refine region_Dk (id := 2) 7 ?_ ?_; · kernel_rfl)
            | (with_reducible refine region_Dk (id := 21) 17 ?_ ?_; · kernel_rfl)
            | (with_reducible refine region_Dk (id := 3) 9 ?_ ?_; · kernel_rfl)
            ); intro ds hds; simp only [List.map] at hds; subst hds); refine reT (by simp only [pz, ↓reduceIte, Nat.reduceEqDiff, Nat.reduceAdd, Nat.reduceSub, Nat.reduceMul, Nat.reduceLeDiff, Nat.reduceBEq, Bool.false_eq_true, decide_true, decide_false, Int.reduceLE, Int.reduceToNat, Int.reduceLT, Int.reduceEq, eq_self, Nat.reduceShiftRight, Nat.reduceAnd, Nat.reduceBneDiff, tmz, hneg, encX, h0, ho, encOpr, hu, hopT, ha, hle', e]; exact rfl) ?_; try refine wkI ?_)))
         refine pwp_ret (ret_ok ?_)
         simp [resOk, resA, resSlots, gs, tmz, hneg, encX, h0, ho, encOpr, hu, hopT, ha, hle', e])
      have hle' : ¬ ((t.args.length : Int) < (p.args.length : Int)) := by omega
      cases hc : o.comm with
      | false =>
        have e : mayB g M p t = followB M p.args t.args := by simp [mayB, h1, ho, hu, hopT, ha, hle, hc]
        rw [e]
        (repeat (first
          | with_reducible refine pwp_seqW ?_
          | with_reducible refine pwp_block ?_
          | ((first | with_reducible refine pwp_skip ?_ | with_reducible refine pwp_exit ?_); try refine wkI ?_)
          | (with_reducible refine pwp_ct ?_ ?_; · simp only [pz, ↓reduceIte, Nat.reduceEqDiff, tmz, hneg, encX, h0, ho, encOpr, hu, hopT, ha, hle', hc])
          | (with_reducible refine pwp_cf ?_ ?_; · simp only [pz, ↓reduceIte, Nat.reduceEqDiff, tmz, hneg, encX, h0, ho, encOpr, hu, hopT, ha, hle', hc])
          | (((first
            | with_reducible refine region_0k ?_
            | (with_reducible refine region_Dk (id := 2) 7 ?_ ?_; · kernel_rfl)
            | (with_reducible refine region_Dk (id := 21) 17 ?_ ?_; · kernel_rfl)
            | (with_reducible refine region_Dk (id := 3) 9 ?_ ?_; · kernel_rfl)
            ); intro ds hds; simp only [List.map] at hds; subst hds); refine reT (by simp only [pz, ↓reduceIte, Nat.reduceEqDiff, Nat.reduceAdd, Nat.reduceSub, Nat.reduceMul, Nat.reduceLeDiff, Nat.reduceBEq, Bool.false_eq_true, decide_true, decide_false, Int.reduceLE, Int.reduceToNat, Int.reduceLT, Int.reduceEq, eq_self, Nat.reduceShiftRight, Nat.reduceAnd, Nat.reduceBneDiff, tmz, hneg, encX, h0, ho, encOpr, hu, hopT, ha, hle', hc]; exact rfl) ?_; try refine wkI ?_)))
        ((first
          | with_reducible refine region_0k ?_
          | (with_reducible refine region_Dk (id := 2) 7 ?_ ?_; · kernel_rfl)
          | (with_reducible refine region_Dk (id := 21) 17 ?_ ?_; · kernel_rfl)
          | (with_reducible refine region_Dk (id := 3) 9 ?_ ?_; · kernel_rfl)
          ); intro ds hds; simp only [List.map] at hds; subst hds)
        (refine rcT (by simp only [pz, ↓reduceIte, Nat.reduceEqDiff, Nat.reduceAdd, Nat.reduceSub, Nat.reduceMul, Nat.reduceLeDiff, Nat.reduceBEq, Bool.false_eq_true, decide_true, decide_false, Int.reduceLE, Int.reduceToNat, Int.reduceLT, Int.reduceEq, eq_self, Nat.reduceShiftRight, Nat.reduceAnd, Nat.reduceBneDiff, tmz]; exact rfl) (con_mayFollow (by omega) (by omega) (fun p' hp' => (hfp.arg hp').opc) IH) (by simp only [setA, retA]; exact rfl) ?_)
        (refine reT (by simp only [pz, ↓reduceIte, Nat.reduceEqDiff, Nat.reduceAdd, Nat.reduceSub, Nat.reduceMul, Nat.reduceLeDiff, Nat.reduceBEq, Bool.false_eq_true, decide_true, decide_false, Int.reduceLE, Int.reduceToNat, Int.reduceLT, Int.reduceEq, eq_self, Nat.reduceShiftRight, Nat.reduceAnd, Nat.reduceBneDiff, tmz]; exact rfl) ?_; first | (change pwp _ _ _ _ _) | refine wkI ?_ | skip)
        ((repeat (first
          | with_reducible refine pwp_seqW ?_
          | with_reducible refine pwp_block ?_
          | ((first | with_reducible refine pwp_skip ?_ | with_reducible refine pwp_exit ?_); try refine wkI ?_)
          | (with_reducible refine pwp_ct ?_ ?_; · simp only [pz, ↓reduceIte, Nat.reduceEqDiff, tmz])
          | (with_reducible refine pwp_cf ?_ ?_; · simp only [pz, ↓reduceIte, Nat.reduceEqDiff, tmz])
          | (((first
            | with_reducible refine region_0k ?_
            | (with_reducible refine region_Dk (id := 2) 7 ?_ ?_; · kernel_rfl)
            | (with_reducible refine region_Dk (id := 21) 17 ?_ ?_; · kernel_rfl)
            | (with_reducible refine region_Dk (id := 3) 9 ?_ ?_; · kernel_rfl)
            ); intro ds hds; simp only [List.map] at hds; subst hds); refine reT (by simp only [pz, ↓reduceIte, Nat.reduceEqDiff, Nat.reduceAdd, Nat.reduceSub, Nat.reduceMul, Nat.reduceLeDiff, Nat.reduceBEq, Bool.false_eq_true, decide_true, decide_false, Int.reduceLE, Int.reduceToNat, Int.reduceLT, Int.reduceEq, eq_self, Nat.reduceShiftRight, Nat.reduceAnd, Nat.reduceBneDiff, tmz]; exact rfl) ?_; try refine wkI ?_)))
         refine pwp_ret (ret_ok ?_)
         simp [resOk, resA, resSlots, gs, tmz])
      | true =>
        have e : mayB g M p t = eachB M p.args t.args := by simp [mayB, h1, ho, hu, hopT, ha, hle, hc]
        rw [e]
        (repeat (first
          | with_reducible refine pwp_seqW ?_
          | with_reducible refine pwp_block ?_
          | ((first | with_reducible refine pwp_skip ?_ | with_reducible refine pwp_exit ?_); try refine wkI ?_)
          | (with_reducible refine pwp_ct ?_ ?_; · simp only [pz, ↓reduceIte, Nat.reduceEqDiff, tmz, hneg, encX, h0, ho, encOpr, hu, hopT, ha, hle'])
          | (with_reducible refine pwp_cf ?_ ?_; · simp only [pz, ↓reduceIte, Nat.reduceEqDiff, tmz, hneg, encX, h0, ho, encOpr, hu, hopT, ha, hle'])
          | (((first
            | with_reducible refine region_0k ?_
            | (with_reducible refine region_Dk (id := 2) 7 ?_ ?_; · kernel_rfl)
            | (with_reducible refine region_Dk (id := 21) 17 ?_ ?_; · kernel_rfl)
            | (with_reducible refine region_Dk (id := 3) 9 ?_ ?_; · kernel_rfl)
            ); intro ds hds; simp only [List.map] at hds; subst hds); refine reT (by simp only [pz, ↓reduceIte, Nat.reduceEqDiff, Nat.reduceAdd, Nat.reduceSub, Nat.reduceMul, Nat.reduceLeDiff, Nat.reduceBEq, Bool.false_eq_true, decide_true, decide_false, Int.reduceLE, Int.reduceToNat, Int.reduceLT, Int.reduceEq, eq_self, Nat.reduceShiftRight, Nat.reduceAnd, Nat.reduceBneDiff, tmz, hneg, encX, h0, ho, encOpr, hu, hopT, ha, hle']; exact rfl) ?_; try refine wkI ?_)))
        refine pwp_ct (by simp only [evA, constA, gs, Nat.reduceEqDiff, ↓reduceIte, hc]) ?_
        repeat (with_reducible refine pwp_seqW ?_)
        (with_reducible refine region_Fk [3] ?_; intro σ1 hσ ds hds; simp only [pz, ↓reduceIte, Nat.reduceEqDiff, Nat.reduceAdd, Nat.reduceSub, Nat.reduceMul, Nat.reduceLeDiff, Nat.reduceBEq, Bool.false_eq_true, decide_true, decide_false, Int.reduceLE, Int.reduceToNat, Int.reduceLT, Int.reduceEq, eq_self, Nat.reduceShiftRight, Nat.reduceAnd, Nat.reduceBneDiff] at hσ; subst hσ; simp only [List.map] at hds; subst hds; refine reT (by simp only [pz, ↓reduceIte, Nat.reduceEqDiff, Nat.reduceAdd, Nat.reduceSub, Nat.reduceMul, Nat.reduceLeDiff, Nat.reduceBEq, Bool.false_eq_true, decide_true, decide_false, Int.reduceLE, Int.reduceToNat, Int.reduceLT, Int.reduceEq, eq_self, Nat.reduceShiftRight, Nat.reduceAnd, Nat.reduceBneDiff, tmz]; exact rfl) ?_; try refine wkI ?_)
        have cL : ∀ p' ∈ p.args, Con e0 111 [.one (.sl (encTms t.args)), .one (.fn 110 [.ptr [.ptr (encX g mc)], .ptr (encTm p')])] [.one (.lit (.bool (anyB M p' t.args)))] := fun p' hp' => con_containsFunc (by omega) fun t' ht' => con_may1 (IH p' hp' t' ht')
        rw [encX] at cL
        have hno : ∀ p' ∈ p.args, ¬ (p'.op = -1 ∨ anyB M p' t.args = true) → eachB M p.args t.args = false := fun p' hp' h => by
          simp only [eachB, decide_eq_false_iff_not]
          exact fun hA => h (hA p' hp')
        (repeat (first
          | with_reducible refine pwp_seqW ?_
          | with_reducible refine pwp_block ?_
          | ((first | with_reducible refine pwp_skip ?_ | with_reducible refine pwp_exit ?_); try refine wkI ?_)
          | (with_reducible refine pwp_ct ?_ ?_; · simp only [pz, ↓reduceIte, Nat.reduceEqDiff, tmz])
          | (with_reducible refine pwp_cf ?_ ?_; · simp only [pz, ↓reduceIte, Nat.reduceEqDiff, tmz])
          | (((first
            | with_reducible refine region_0k ?_
            | (with_reducible refine region_Dk (id := 2) 7 ?_ ?_; · kernel_rfl)
            | (with_reducible refine region_Dk (id := 21) 17 ?_ ?_; · kernel_rfl)
            | (with_reducible refine region_Dk (id := 3) 9 ?_ ?_; · kernel_rfl)
            ); intro ds hds; simp only [List.map] at hds; subst hds); refine reT (by simp only [pz, ↓reduceIte, Nat.reduceEqDiff, Nat.reduceAdd, Nat.reduceSub, Nat.reduceMul, Nat.reduceLeDiff, Nat.reduceBEq, Bool.false_eq_true, decide_true, decide_false, Int.reduceLE, Int.reduceToNat, Int.reduceLT, Int.reduceEq, eq_self, Nat.reduceShiftRight, Nat.reduceAnd, Nat.reduceBneDiff, tmz]; exact rfl) ?_; try refine wkI ?_)))
        refine pwp_loopU (ι := Nat) [6, 9, 10, 63, 64, 77] [] (fun i => [(63, A.d (.one (.lit (.int .i64 i))))]) (fun i => []) (fun i => i ≤ p.args.length ∧ ∀ (j : Nat) p', j < i → p.args[j]? = some p' → p'.op = -1 ∨ anyB M p' t.args = true) (fun i => p.args.length - i) (0) (by simp only [headS, headM, List.elem_cons, List.elem_nil, Nat.reduceBEq, Bool.or_false, Bool.false_or, Bool.or_true, Bool.true_or, Bool.or_self, ↓reduceIte, Bool.false_eq_true]; exact rfl) (by simp only [headS, headM, List.elem_cons, List.elem_nil, Nat.reduceBEq, Bool.or_false, Bool.false_or, Bool.or_true, Bool.true_or, Bool.or_self, ↓reduceIte, Bool.false_eq_true]; exact rfl) (fun _ => by simp only [List.cons_append, List.nil_append]; exact rfl) (fun _ => by simp only [List.cons_append, List.nil_append]; exact rfl) (by simp [weakS, gs, e0P]) (by simp [weakM, gm, e0P]) (⟨by omega, fun j p' h => absurd h (by omega)⟩) (fun i hi => ?_)
        obtain ⟨hil, hall⟩ := hi
        by_cases hi : i < p.args.length
        rotate_left
        · have hl' : ¬ ((i : Int) < (p.args.length : Int)) := by omega
          have hT : eachB M p.args t.args = true := by
            simp only [eachB, decide_eq_true_eq]
            intro p' hp'
            obtain ⟨j, hj⟩ := List.getElem?_of_mem hp'
            exact hall j p' (by have := (List.getElem?_eq_some_iff.1 hj).1; omega) hj
          ((repeat (first
            | with_reducible refine pwp_seqW ?_
            | with_reducible refine pwp_block ?_
            | ((first | with_reducible refine pwp_skip ?_ | with_reducible refine pwp_exit ?_); try refine wkI ?_)
            | (with_reducible refine pwp_ct ?_ ?_; · simp only [pz, ↓reduceIte, Nat.reduceEqDiff, tmz, hl', hT])
            | (with_reducible refine pwp_cf ?_ ?_; · simp only [pz, ↓reduceIte, Nat.reduceEqDiff, tmz, hl', hT])
            | (((first
              | with_reducible refine region_0k ?_
              | (with_reducible refine region_Dk (id := 2) 7 ?_ ?_; · kernel_rfl)
              | (with_reducible refine region_Dk (id := 21) 17 ?_ ?_; · kernel_rfl)
              | (with_reducible refine region_Dk (id := 3) 9 ?_ ?_; · kernel_rfl)
              ); intro ds hds; simp only [List.map] at hds; subst hds); refine reT (by simp only [pz, ↓reduceIte, Nat.reduceEqDiff, Nat.reduceAdd, Nat.reduceSub, Nat.reduceMul, Nat.reduceLeDiff, Nat.reduceBEq, Bool.false_eq_true, decide_true, decide_false, Int.reduceLE, Int.reduceToNat, Int.reduceLT, Int.reduceEq, eq_self, Nat.reduceShiftRight, Nat.reduceAnd, Nat.reduceBneDiff, tmz, hl', hT]; exact rfl) ?_; try refine wkI ?_)))
           refine pwp_ret (ret_ok ?_)
           simp [resOk, resA, resSlots, gs, tmz, hl', hT])
        have hl' : (i : Int) < (p.args.length : Int) := by omega
        obtain ⟨a, haa⟩ : ∃ a, p.args[i]? = some a := ⟨_, List.getElem?_eq_getElem hi⟩
        have ham := List.mem_of_getElem? haa
        have hw1 := wrap1 (k := i) (by omega)
        have hnext : (a.op = -1 ∨ anyB M a t.args = true) → i + 1 ≤ p.args.length ∧ ∀ (j : Nat) p', j < i + 1 → p.args[j]? = some p' → p'.op = -1 ∨ anyB M p' t.args = true := fun h => ⟨by omega, fun j p' hj hp' => by
          by_cases e : j = i
          · subst e
            rw [haa] at hp'
            injection hp' with hp'
            subst hp'
            exact h
          · exact hall j p' (by omega) hp'⟩
        rcases (hfp.arg ham).opc with hv | hv
        · have hq := hnext (.inl hv)
          have hv2 : ¬ ((0 : Int) ≤ -1) := by omega
          ((repeat (first
            | with_reducible refine pwp_seqW ?_
            | with_reducible refine pwp_block ?_
            | ((first | with_reducible refine pwp_skip ?_ | with_reducible refine pwp_exit ?_); try refine wkI ?_)
            | (with_reducible refine pwp_ct ?_ ?_; · simp only [pz, ↓reduceIte, Nat.reduceEqDiff, hw1, tmz, hl', haa, hv, hv2])
            | (with_reducible refine pwp_cf ?_ ?_; · simp only [pz, ↓reduceIte, Nat.reduceEqDiff, hw1, tmz, hl', haa, hv, hv2])
            | (((first
              | with_reducible refine region_0k ?_
              | (with_reducible refine region_Dk (id := 2) 7 ?_ ?_; · kernel_rfl)
              | (with_reducible refine region_Dk (id := 21) 17 ?_ ?_; · kernel_rfl)
              | (with_reducible refine region_Dk (id := 3) 9 ?_ ?_; · kernel_rfl)
              ); intro ds hds; simp only [List.map] at hds; subst hds); refine reT (by simp only [pz, ↓reduceIte, Nat.reduceEqDiff, Nat.reduceAdd, Nat.reduceSub, Nat.reduceMul, Nat.reduceLeDiff, Nat.reduceBEq, Bool.false_eq_true, decide_true, decide_false, Int.reduceLE, Int.reduceToNat, Int.reduceLT, Int.reduceEq, eq_self, Nat.reduceShiftRight, Nat.reduceAnd, Nat.reduceBneDiff, hw1, tmz, hl', haa, hv, hv2]; exact rfl) ?_; try refine wkI ?_)))
           exact ⟨i + 1, hq, by simp [weakS, gs, hw1, tmz, hl', haa, hv, hv2], by simp [weakM, gm, hw1, tmz, hl', haa, hv, hv2], by omega⟩)
        (repeat (first
          | with_reducible refine pwp_seqW ?_
          | with_reducible refine pwp_block ?_
          | ((first | with_reducible refine pwp_skip ?_ | with_reducible refine pwp_exit ?_); try refine wkI ?_)
          | (with_reducible refine pwp_ct ?_ ?_; · simp only [pz, ↓reduceIte, Nat.reduceEqDiff, tmz, hl', haa])
          | (with_reducible refine pwp_cf ?_ ?_; · simp only [pz, ↓reduceIte, Nat.reduceEqDiff, tmz, hl', haa])
          | (((first
            | with_reducible refine region_0k ?_
            | (with_reducible refine region_Dk (id := 2) 7 ?_ ?_; · kernel_rfl)
            | (with_reducible refine region_Dk (id := 21) 17 ?_ ?_; · kernel_rfl)
            | (with_reducible refine region_Dk (id := 3) 9 ?_ ?_; · kernel_rfl)
            ); intro ds hds; simp only [List.map] at hds; subst hds); refine reT (by simp only [pz, ↓reduceIte, Nat.reduceEqDiff, Nat.reduceAdd, Nat.reduceSub, Nat.reduceMul, Nat.reduceLeDiff, Nat.reduceBEq, Bool.false_eq_true, decide_true, decide_false, Int.reduceLE, Int.reduceToNat, Int.reduceLT, Int.reduceEq, eq_self, Nat.reduceShiftRight, Nat.reduceAnd, Nat.reduceBneDiff, tmz, hl', haa]; exact rfl) ?_; try refine wkI ?_)))
        ((first
          | with_reducible refine region_0k ?_
          | (with_reducible refine region_Dk (id := 2) 7 ?_ ?_; · kernel_rfl)
          | (with_reducible refine region_Dk (id := 21) 17 ?_ ?_; · kernel_rfl)
          | (with_reducible refine region_Dk (id := 3) 9 ?_ ?_; · kernel_rfl)
          ); intro ds hds; simp only [List.map] at hds; subst hds)
        (refine rcT (by simp only [pz, ↓reduceIte, Nat.reduceEqDiff, Nat.reduceAdd, Nat.reduceSub, Nat.reduceMul, Nat.reduceLeDiff, Nat.reduceBEq, Bool.false_eq_true, decide_true, decide_false, Int.reduceLE, Int.reduceToNat, Int.reduceLT, Int.reduceEq, eq_self, Nat.reduceShiftRight, Nat.reduceAnd, Nat.reduceBneDiff, tmz, hv]; exact rfl) (cL a ham) (by simp only [setA, retA]; exact rfl) ?_)
        cases hM : anyB M a t.args with
        | true =>
          have hq := hnext (.inr hM)
          (refine reT (by simp only [pz, ↓reduceIte, Nat.reduceEqDiff, Nat.reduceAdd, Nat.reduceSub, Nat.reduceMul, Nat.reduceLeDiff, Nat.reduceBEq, Bool.false_eq_true, decide_true, decide_false, Int.reduceLE, Int.reduceToNat, Int.reduceLT, Int.reduceEq, eq_self, Nat.reduceShiftRight, Nat.reduceAnd, Nat.reduceBneDiff, tmz]; exact rfl) ?_; first | (change pwp _ _ _ _ _) | refine wkI ?_ | skip)
          ((repeat (first
            | with_reducible refine pwp_seqW ?_
            | with_reducible refine pwp_block ?_
            | ((first | with_reducible refine pwp_skip ?_ | with_reducible refine pwp_exit ?_); try refine wkI ?_)
            | (with_reducible refine pwp_ct ?_ ?_; · simp only [pz, ↓reduceIte, Nat.reduceEqDiff, hw1, tmz])
            | (with_reducible refine pwp_cf ?_ ?_; · simp only [pz, ↓reduceIte, Nat.reduceEqDiff, hw1, tmz])
            | (((first
              | with_reducible refine region_0k ?_
              | (with_reducible refine region_Dk (id := 2) 7 ?_ ?_; · kernel_rfl)
              | (with_reducible refine region_Dk (id := 21) 17 ?_ ?_; · kernel_rfl)
              | (with_reducible refine region_Dk (id := 3) 9 ?_ ?_; · kernel_rfl)
              ); intro ds hds; simp only [List.map] at hds; subst hds); refine reT (by simp only [pz, ↓reduceIte, Nat.reduceEqDiff, Nat.reduceAdd, Nat.reduceSub, Nat.reduceMul, Nat.reduceLeDiff, Nat.reduceBEq, Bool.false_eq_true, decide_true, decide_false, Int.reduceLE, Int.reduceToNat, Int.reduceLT, Int.reduceEq, eq_self, Nat.reduceShiftRight, Nat.reduceAnd, Nat.reduceBneDiff, hw1, tmz]; exact rfl) ?_; try refine wkI ?_)))
           exact ⟨i + 1, hq, by simp [weakS, gs, hw1, tmz], by simp [weakM, gm, hw1, tmz], by omega⟩)
        | false =>
          have hf := hno a ham (fun h => by
            rcases h with h | h
            · omega
            · rw [hM] at h; cases h)
          (refine reT (by simp only [pz, ↓reduceIte, Nat.reduceEqDiff, Nat.reduceAdd, Nat.reduceSub, Nat.reduceMul, Nat.reduceLeDiff, Nat.reduceBEq, Bool.false_eq_true, decide_true, decide_false, Int.reduceLE, Int.reduceToNat, Int.reduceLT, Int.reduceEq, eq_self, Nat.reduceShiftRight, Nat.reduceAnd, Nat.reduceBneDiff, tmz]; exact rfl) ?_; first | (change pwp _ _ _ _ _) | refine wkI ?_ | skip)
          ((repeat (first
            | with_reducible refine pwp_seqW ?_
            | with_reducible refine pwp_block ?_
            | ((first | with_reducible refine pwp_skip ?_ | with_reducible refine pwp_exit ?_); try refine wkI ?_)
            | (with_reducible refine pwp_ct ?_ ?_; · simp only [pz, ↓reduceIte, Nat.reduceEqDiff, hf])
            | (with_reducible refine pwp_cf ?_ ?_; · simp only [pz, ↓reduceIte, Nat.reduceEqDiff, hf])
            | (((first
              | with_reducible refine region_0k ?_
              | (with_reducible refine region_Dk (id := 2) 7 ?_ ?_; · kernel_rfl)
              | (with_reducible refine region_Dk (id := 21) 17 ?_ ?_; · kernel_rfl)
              | (with_reducible refine region_Dk (id := 3) 9 ?_ ?_; · kernel_rfl)
              ); intro ds hds; simp only [List.map] at hds; subst hds); refine reT (by simp only [pz, ↓reduceIte, Nat.reduceEqDiff, Nat.reduceAdd, Nat.reduceSub, Nat.reduceMul, Nat.reduceLeDiff, Nat.reduceBEq, Bool.false_eq_true, decide_true, decide_false, Int.reduceLE, Int.reduceToNat, Int.reduceLT, Int.reduceEq, eq_self, Nat.reduceShiftRight, Nat.reduceAnd, Nat.reduceBneDiff, hf]; exact rfl) ?_; try refine wkI ?_)))
           refine pwp_ret (ret_ok ?_)
           simp [resOk, resA, resSlots, gs, hf])
    | false =>
      have hln : p.args.length = t.args.length := by rw [hA.nas ha, hAt.nas ha]
      cases hc : o.comm with
      | false =>
        have e : mayB g M p t = allB M p.args t.args := by simp [mayB, h1, ho, hu, hopT, ha, hc]
        rw [e]
        have c := con_mayAll (g := g) (mc := mc) (M := M) (ps := p.args) (ts := t.args) (by omega) (by omega) IH
        cases hal : allB M p.args t.args with
        | true =>
          rw [hal] at c
          (repeat (first
            | with_reducible refine pwp_seqW ?_
            | with_reducible refine pwp_block ?_
            | ((first | with_reducible refine pwp_skip ?_ | with_reducible refine pwp_exit ?_); try refine wkI ?_)
            | (with_reducible refine pwp_ct ?_ ?_; · simp only [pz, ↓reduceIte, Nat.reduceEqDiff, tmz, hneg, encX, h0, ho, encOpr, hu, hopT, ha, hc])
            | (with_reducible refine pwp_cf ?_ ?_; · simp only [pz, ↓reduceIte, Nat.reduceEqDiff, tmz, hneg, encX, h0, ho, encOpr, hu, hopT, ha, hc])
            | (((first
              | with_reducible refine region_0k ?_
              | (with_reducible refine region_Dk (id := 2) 7 ?_ ?_; · kernel_rfl)
              | (with_reducible refine region_Dk (id := 21) 17 ?_ ?_; · kernel_rfl)
              | (with_reducible refine region_Dk (id := 3) 9 ?_ ?_; · kernel_rfl)
              ); intro ds hds; simp only [List.map] at hds; subst hds); refine reT (by simp only [pz, ↓reduceIte, Nat.reduceEqDiff, Nat.reduceAdd, Nat.reduceSub, Nat.reduceMul, Nat.reduceLeDiff, Nat.reduceBEq, Bool.false_eq_true, decide_true, decide_false, Int.reduceLE, Int.reduceToNat, Int.reduceLT, Int.reduceEq, eq_self, Nat.reduceShiftRight, Nat.reduceAnd, Nat.reduceBneDiff, tmz, hneg, encX, h0, ho, encOpr, hu, hopT, ha, hc]; exact rfl) ?_; try refine wkI ?_)))
          ((first
            | with_reducible refine region_0k ?_
            | (with_reducible refine region_Dk (id := 2) 7 ?_ ?_; · kernel_rfl)
            | (with_reducible refine region_Dk (id := 21) 17 ?_ ?_; · kernel_rfl)
            | (with_reducible refine region_Dk (id := 3) 9 ?_ ?_; · kernel_rfl)
            ); intro ds hds; simp only [List.map] at hds; subst hds)
          (refine rcT (by simp only [pz, ↓reduceIte, Nat.reduceEqDiff, Nat.reduceAdd, Nat.reduceSub, Nat.reduceMul, Nat.reduceLeDiff, Nat.reduceBEq, Bool.false_eq_true, decide_true, decide_false, Int.reduceLE, Int.reduceToNat, Int.reduceLT, Int.reduceEq, eq_self, Nat.reduceShiftRight, Nat.reduceAnd, Nat.reduceBneDiff, tmz]; exact rfl) (c) (by simp only [setA, retA]; exact rfl) ?_)
          (refine reT (by simp only [pz, ↓reduceIte, Nat.reduceEqDiff, Nat.reduceAdd, Nat.reduceSub, Nat.reduceMul, Nat.reduceLeDiff, Nat.reduceBEq, Bool.false_eq_true, decide_true, decide_false, Int.reduceLE, Int.reduceToNat, Int.reduceLT, Int.reduceEq, eq_self, Nat.reduceShiftRight, Nat.reduceAnd, Nat.reduceBneDiff, tmz]; exact rfl) ?_; first | (change pwp _ _ _ _ _) | refine wkI ?_ | skip)
          ((repeat (first
            | with_reducible refine pwp_seqW ?_
            | with_reducible refine pwp_block ?_
            | ((first | with_reducible refine pwp_skip ?_ | with_reducible refine pwp_exit ?_); try refine wkI ?_)
            | (with_reducible refine pwp_ct ?_ ?_; · simp only [pz, ↓reduceIte, Nat.reduceEqDiff, tmz])
            | (with_reducible refine pwp_cf ?_ ?_; · simp only [pz, ↓reduceIte, Nat.reduceEqDiff, tmz])
            | (((first
              | with_reducible refine region_0k ?_
              | (with_reducible refine region_Dk (id := 2) 7 ?_ ?_; · kernel_rfl)
              | (with_reducible refine region_Dk (id := 21) 17 ?_ ?_; · kernel_rfl)
              | (with_reducible refine region_Dk (id := 3) 9 ?_ ?_; · kernel_rfl)
              ); intro ds hds; simp only [List.map] at hds; subst hds); refine reT (by simp only [pz, ↓reduceIte, Nat.reduceEqDiff, Nat.reduceAdd, Nat.reduceSub, Nat.reduceMul, Nat.reduceLeDiff, Nat.reduceBEq, Bool.false_eq_true, decide_true, decide_false, Int.reduceLE, Int.reduceToNat, Int.reduceLT, Int.reduceEq, eq_self, Nat.reduceShiftRight, Nat.reduceAnd, Nat.reduceBneDiff, tmz]; exact rfl) ?_; try refine wkI ?_)))
           refine pwp_ret (ret_ok ?_)
           simp [resOk, resA, resSlots, gs, tmz])
        | false =>
          rw [hal] at c
          (repeat (first
            | with_reducible refine pwp_seqW ?_
            | with_reducible refine pwp_block ?_
            | ((first | with_reducible refine pwp_skip ?_ | with_reducible refine pwp_exit ?_); try refine wkI ?_)
            | (with_reducible refine pwp_ct ?_ ?_; · simp only [pz, ↓reduceIte, Nat.reduceEqDiff, tmz, hneg, encX, h0, ho, encOpr, hu, hopT, ha, hc])
            | (with_reducible refine pwp_cf ?_ ?_; · simp only [pz, ↓reduceIte, Nat.reduceEqDiff, tmz, hneg, encX, h0, ho, encOpr, hu, hopT, ha, hc])
            | (((first
              | with_reducible refine region_0k ?_
              | (with_reducible refine region_Dk (id := 2) 7 ?_ ?_; · kernel_rfl)
              | (with_reducible refine region_Dk (id := 21) 17 ?_ ?_; · kernel_rfl)
              | (with_reducible refine region_Dk (id := 3) 9 ?_ ?_; · kernel_rfl)
              ); intro ds hds; simp only [List.map] at hds; subst hds); refine reT (by simp only [pz, ↓reduceIte, Nat.reduceEqDiff, Nat.reduceAdd, Nat.reduceSub, Nat.reduceMul, Nat.reduceLeDiff, Nat.reduceBEq, Bool.false_eq_true, decide_true, decide_false, Int.reduceLE, Int.reduceToNat, Int.reduceLT, Int.reduceEq, eq_self, Nat.reduceShiftRight, Nat.reduceAnd, Nat.reduceBneDiff, tmz, hneg, encX, h0, ho, encOpr, hu, hopT, ha, hc]; exact rfl) ?_; try refine wkI ?_)))
          ((first
            | with_reducible refine region_0k ?_
            | (with_reducible refine region_Dk (id := 2) 7 ?_ ?_; · kernel_rfl)
            | (with_reducible refine region_Dk (id := 21) 17 ?_ ?_; · kernel_rfl)
            | (with_reducible refine region_Dk (id := 3) 9 ?_ ?_; · kernel_rfl)
            ); intro ds hds; simp only [List.map] at hds; subst hds)
          (refine rcT (by simp only [pz, ↓reduceIte, Nat.reduceEqDiff, Nat.reduceAdd, Nat.reduceSub, Nat.reduceMul, Nat.reduceLeDiff, Nat.reduceBEq, Bool.false_eq_true, decide_true, decide_false, Int.reduceLE, Int.reduceToNat, Int.reduceLT, Int.reduceEq, eq_self, Nat.reduceShiftRight, Nat.reduceAnd, Nat.reduceBneDiff, tmz]; exact rfl) (c) (by simp only [setA, retA]; exact rfl) ?_)
          (refine reT (by simp only [pz, ↓reduceIte, Nat.reduceEqDiff, Nat.reduceAdd, Nat.reduceSub, Nat.reduceMul, Nat.reduceLeDiff, Nat.reduceBEq, Bool.false_eq_true, decide_true, decide_false, Int.reduceLE, Int.reduceToNat, Int.reduceLT, Int.reduceEq, eq_self, Nat.reduceShiftRight, Nat.reduceAnd, Nat.reduceBneDiff, tmz]; exact rfl) ?_; first | (change pwp _ _ _ _ _) | refine wkI ?_ | skip)
          ((repeat (first
            | with_reducible refine pwp_seqW ?_
            | with_reducible refine pwp_block ?_
            | ((first | with_reducible refine pwp_skip ?_ | with_reducible refine pwp_exit ?_); try refine wkI ?_)
            | (with_reducible refine pwp_ct ?_ ?_; · simp only [pz, ↓reduceIte, Nat.reduceEqDiff, tmz, encOpr, hc])
            | (with_reducible refine pwp_cf ?_ ?_; · simp only [pz, ↓reduceIte, Nat.reduceEqDiff, tmz, encOpr, hc])
            | (((first
              | with_reducible refine region_0k ?_
              | (with_reducible refine region_Dk (id := 2) 7 ?_ ?_; · kernel_rfl)
              | (with_reducible refine region_Dk (id := 21) 17 ?_ ?_; · kernel_rfl)
              | (with_reducible refine region_Dk (id := 3) 9 ?_ ?_; · kernel_rfl)
              ); intro ds hds; simp only [List.map] at hds; subst hds); refine reT (by simp only [pz, ↓reduceIte, Nat.reduceEqDiff, Nat.reduceAdd, Nat.reduceSub, Nat.reduceMul, Nat.reduceLeDiff, Nat.reduceBEq, Bool.false_eq_true, decide_true, decide_false, Int.reduceLE, Int.reduceToNat, Int.reduceLT, Int.reduceEq, eq_self, Nat.reduceShiftRight, Nat.reduceAnd, Nat.reduceBneDiff, tmz, encOpr, hc]; exact rfl) ?_; try refine wkI ?_)))
           refine pwp_ret (ret_ok ?_)
           simp [resOk, resA, resSlots, gs, tmz, encOpr, hc])
      | true =>
        have h2 : d.args.length = 2 := (hax.two (.inr (.inl hc)) d hd).1
        have hl2 : t.args.length = 2 := by rw [hAt.nas ha, h2]
        obtain ⟨a0, ha0⟩ : ∃ a, t.args[0]? = some a := ⟨_, List.getElem?_eq_getElem (by omega)⟩
        obtain ⟨a1, ha1⟩ : ∃ a, t.args[1]? = some a := ⟨_, List.getElem?_eq_getElem (by omega)⟩
        have e : mayB g M p t = (allB M p.args t.args || allB M p.args [a1, a0]) := by simp [mayB, h1, ho, hu, hopT, ha, hc, swap2_eq hl2 ha0 ha1]
        rw [e]
        have c := con_mayAll (g := g) (mc := mc) (M := M) (ps := p.args) (ts := t.args) (by omega) (by omega) IH
        have c2 := con_clip3 (con_mayAll (g := g) (mc := mc) (M := M) (ps := p.args) (ts := [a1, a0]) (by simp; omega) (by simp [big]) (fun p' hp' t' ht' => IH p' hp' t' (by
          simp only [List.mem_cons, List.not_mem_nil, or_false] at ht'
          rcases ht' with rfl | rfl
          · exact List.mem_of_getElem? ha1
          · exact List.mem_of_getElem? ha0)))
        simp only [encTms] at c2
        cases hal : allB M p.args t.args with
        | true =>
          rw [hal] at c
          (repeat (first
            | with_reducible refine pwp_seqW ?_
            | with_reducible refine pwp_block ?_
            | ((first | with_reducible refine pwp_skip ?_ | with_reducible refine pwp_exit ?_); try refine wkI ?_)
            | (with_reducible refine pwp_ct ?_ ?_; · simp only [pz, ↓reduceIte, Nat.reduceEqDiff, tmz, hneg, encX, h0, ho, encOpr, hu, hopT, ha, hc])
            | (with_reducible refine pwp_cf ?_ ?_; · simp only [pz, ↓reduceIte, Nat.reduceEqDiff, tmz, hneg, encX, h0, ho, encOpr, hu, hopT, ha, hc])
            | (((first
              | with_reducible refine region_0k ?_
              | (with_reducible refine region_Dk (id := 2) 7 ?_ ?_; · kernel_rfl)
              | (with_reducible refine region_Dk (id := 21) 17 ?_ ?_; · kernel_rfl)
              | (with_reducible refine region_Dk (id := 3) 9 ?_ ?_; · kernel_rfl)
              ); intro ds hds; simp only [List.map] at hds; subst hds); refine reT (by simp only [pz, ↓reduceIte, Nat.reduceEqDiff, Nat.reduceAdd, Nat.reduceSub, Nat.reduceMul, Nat.reduceLeDiff, Nat.reduceBEq, Bool.false_eq_true, decide_true, decide_false, Int.reduceLE, Int.reduceToNat, Int.reduceLT, Int.reduceEq, eq_self, Nat.reduceShiftRight, Nat.reduceAnd, Nat.reduceBneDiff, tmz, hneg, encX, h0, ho, encOpr, hu, hopT, ha, hc]; exact rfl) ?_; try refine wkI ?_)))
          ((first
            | with_reducible refine region_0k ?_
            | (with_reducible refine region_Dk (id := 2) 7 ?_ ?_; · kernel_rfl)
            | (with_reducible refine region_Dk (id := 21) 17 ?_ ?_; · kernel_rfl)
            | (with_reducible refine region_Dk (id := 3) 9 ?_ ?_; · kernel_rfl)
            ); intro ds hds; simp only [List.map] at hds; subst hds)
          (refine rcT (by simp only [pz, ↓reduceIte, Nat.reduceEqDiff, Nat.reduceAdd, Nat.reduceSub, Nat.reduceMul, Nat.reduceLeDiff, Nat.reduceBEq, Bool.false_eq_true, decide_true, decide_false, Int.reduceLE, Int.reduceToNat, Int.reduceLT, Int.reduceEq, eq_self, Nat.reduceShiftRight, Nat.reduceAnd, Nat.reduceBneDiff, tmz]; exact rfl) (c) (by simp only [setA, retA]; exact rfl) ?_)
          (refine reT (by simp only [pz, ↓reduceIte, Nat.reduceEqDiff, Nat.reduceAdd, Nat.reduceSub, Nat.reduceMul, Nat.reduceLeDiff, Nat.reduceBEq, Bool.false_eq_true, decide_true, decide_false, Int.reduceLE, Int.reduceToNat, Int.reduceLT, Int.reduceEq, eq_self, Nat.reduceShiftRight, Nat.reduceAnd, Nat.reduceBneDiff, tmz]; exact rfl) ?_; first | (change pwp _ _ _ _ _) | refine wkI ?_ | skip)
          ((repeat (first
            | with_reducible refine pwp_seqW ?_
            | with_reducible refine pwp_block ?_
            | ((first | with_reducible refine pwp_skip ?_ | with_reducible refine pwp_exit ?_); try refine wkI ?_)
            | (with_reducible refine pwp_ct ?_ ?_; · simp only [pz, ↓reduceIte, Nat.reduceEqDiff, tmz])
            | (with_reducible refine pwp_cf ?_ ?_; · simp only [pz, ↓reduceIte, Nat.reduceEqDiff, tmz])
            | (((first
              | with_reducible refine region_0k ?_
              | (with_reducible refine region_Dk (id := 2) 7 ?_ ?_; · kernel_rfl)
              | (with_reducible refine region_Dk (id := 21) 17 ?_ ?_; · kernel_rfl)
              | (with_reducible refine region_Dk (id := 3) 9 ?_ ?_; · kernel_rfl)
              ); intro ds hds; simp only [List.map] at hds; subst hds); refine reT (by simp only [pz, ↓reduceIte, Nat.reduceEqDiff, Nat.reduceAdd, Nat.reduceSub, Nat.reduceMul, Nat.reduceLeDiff, Nat.reduceBEq, Bool.false_eq_true, decide_true, decide_false, Int.reduceLE, Int.reduceToNat, Int.reduceLT, Int.reduceEq, eq_self, Nat.reduceShiftRight, Nat.reduceAnd, Nat.reduceBneDiff, tmz]; exact rfl) ?_; try refine wkI ?_)))
           refine pwp_ret (ret_ok ?_)
           simp [resOk, resA, resSlots, gs, tmz])
        | false =>
          rw [hal] at c
          (repeat (first
            | with_reducible refine pwp_seqW ?_
            | with_reducible refine pwp_block ?_
            | ((first | with_reducible refine pwp_skip ?_ | with_reducible refine pwp_exit ?_); try refine wkI ?_)
            | (with_reducible refine pwp_ct ?_ ?_; · simp only [pz, ↓reduceIte, Nat.reduceEqDiff, tmz, hneg, encX, h0, ho, encOpr, hu, hopT, ha, hc])
            | (with_reducible refine pwp_cf ?_ ?_; · simp only [pz, ↓reduceIte, Nat.reduceEqDiff, tmz, hneg, encX, h0, ho, encOpr, hu, hopT, ha, hc])
            | (((first
              | with_reducible refine region_0k ?_
              | (with_reducible refine region_Dk (id := 2) 7 ?_ ?_; · kernel_rfl)
              | (with_reducible refine region_Dk (id := 21) 17 ?_ ?_; · kernel_rfl)
              | (with_reducible refine region_Dk (id := 3) 9 ?_ ?_; · kernel_rfl)
              ); intro ds hds; simp only [List.map] at hds; subst hds); refine reT (by simp only [pz, ↓reduceIte, Nat.reduceEqDiff, Nat.reduceAdd, Nat.reduceSub, Nat.reduceMul, Nat.reduceLeDiff, Nat.reduceBEq, Bool.false_eq_true, decide_true, decide_false, Int.reduceLE, Int.reduceToNat, Int.reduceLT, Int.reduceEq, eq_self, Nat.reduceShiftRight, Nat.reduceAnd, Nat.reduceBneDiff, tmz, hneg, encX, h0, ho, encOpr, hu, hopT, ha, hc]; exact rfl) ?_; try refine wkI ?_)))
          ((first
            | with_reducible refine region_0k ?_
            | (with_reducible refine region_Dk (id := 2) 7 ?_ ?_; · kernel_rfl)
            | (with_reducible refine region_Dk (id := 21) 17 ?_ ?_; · kernel_rfl)
            | (with_reducible refine region_Dk (id := 3) 9 ?_ ?_; · kernel_rfl)
            ); intro ds hds; simp only [List.map] at hds; subst hds)
          (refine rcT (by simp only [pz, ↓reduceIte, Nat.reduceEqDiff, Nat.reduceAdd, Nat.reduceSub, Nat.reduceMul, Nat.reduceLeDiff, Nat.reduceBEq, Bool.false_eq_true, decide_true, decide_false, Int.reduceLE, Int.reduceToNat, Int.reduceLT, Int.reduceEq, eq_self, Nat.reduceShiftRight, Nat.reduceAnd, Nat.reduceBneDiff, tmz]; exact rfl) (c) (by simp only [setA, retA]; exact rfl) ?_)
          (refine reT (by simp only [pz, ↓reduceIte, Nat.reduceEqDiff, Nat.reduceAdd, Nat.reduceSub, Nat.reduceMul, Nat.reduceLeDiff, Nat.reduceBEq, Bool.false_eq_true, decide_true, decide_false, Int.reduceLE, Int.reduceToNat, Int.reduceLT, Int.reduceEq, eq_self, Nat.reduceShiftRight, Nat.reduceAnd, Nat.reduceBneDiff, tmz]; exact rfl) ?_; first | (change pwp _ _ _ _ _) | refine wkI ?_ | skip)
          (repeat (first
            | with_reducible refine pwp_seqW ?_
            | with_reducible refine pwp_block ?_
            | ((first | with_reducible refine pwp_skip ?_ | with_reducible refine pwp_exit ?_); try refine wkI ?_)
            | (with_reducible refine pwp_ct ?_ ?_; · simp only [pz, ↓reduceIte, Nat.reduceEqDiff, tmz])
            | (with_reducible refine pwp_cf ?_ ?_; · simp only [pz, ↓reduceIte, Nat.reduceEqDiff, tmz])
            | (((first
              | with_reducible refine region_0k ?_
              | (with_reducible refine region_Dk (id := 2) 7 ?_ ?_; · kernel_rfl)
              | (with_reducible refine region_Dk (id := 21) 17 ?_ ?_; · kernel_rfl)
              | (with_reducible refine region_Dk (id := 3) 9 ?_ ?_; · kernel_rfl)
              ); intro ds hds; simp only [List.map] at hds; subst hds); refine reT (by simp only [pz, ↓reduceIte, Nat.reduceEqDiff, Nat.reduceAdd, Nat.reduceSub, Nat.reduceMul, Nat.reduceLeDiff, Nat.reduceBEq, Bool.false_eq_true, decide_true, decide_false, Int.reduceLE, Int.reduceToNat, Int.reduceLT, Int.reduceEq, eq_self, Nat.reduceShiftRight, Nat.reduceAnd, Nat.reduceBneDiff, tmz]; exact rfl) ?_; try refine wkI ?_)))
          ((first
            | with_reducible refine region_0k ?_
            | (with_reducible refine region_Dk (id := 2) 7 ?_ ?_; · kernel_rfl)
            | (with_reducible refine region_Dk (id := 21) 17 ?_ ?_; · kernel_rfl)
            | (with_reducible refine region_Dk (id := 3) 9 ?_ ?_; · kernel_rfl)
            ); intro ds hds; simp only [List.map] at hds; subst hds)
          (refine rcT (by simp only [pz, ↓reduceIte, Nat.reduceEqDiff, Nat.reduceAdd, Nat.reduceSub, Nat.reduceMul, Nat.reduceLeDiff, Nat.reduceBEq, Bool.false_eq_true, decide_true, decide_false, Int.reduceLE, Int.reduceToNat, Int.reduceLT, Int.reduceEq, eq_self, Nat.reduceShiftRight, Nat.reduceAnd, Nat.reduceBneDiff, tmz, encOpr, hc, ha0, ha1]; exact rfl) (c2) (by simp only [setA, retA]; exact rfl) ?_)
          (refine reT (by simp only [pz, ↓reduceIte, Nat.reduceEqDiff, Nat.reduceAdd, Nat.reduceSub, Nat.reduceMul, Nat.reduceLeDiff, Nat.reduceBEq, Bool.false_eq_true, decide_true, decide_false, Int.reduceLE, Int.reduceToNat, Int.reduceLT, Int.reduceEq, eq_self, Nat.reduceShiftRight, Nat.reduceAnd, Nat.reduceBneDiff, tmz]; exact rfl) ?_; first | (change pwp _ _ _ _ _) | refine wkI ?_ | skip)
          ((repeat (first
            | with_reducible refine pwp_seqW ?_
            | with_reducible refine pwp_block ?_
            | ((first | with_reducible refine pwp_skip ?_ | with_reducible refine pwp_exit ?_); try refine wkI ?_)
            | (with_reducible refine pwp_ct ?_ ?_; · simp only [pz, ↓reduceIte, Nat.reduceEqDiff, tmz])
            | (with_reducible refine pwp_cf ?_ ?_; · simp only [pz, ↓reduceIte, Nat.reduceEqDiff, tmz])
            | (((first
              | with_reducible refine region_0k ?_
              | (with_reducible refine region_Dk (id := 2) 7 ?_ ?_; · kernel_rfl)
              | (with_reducible refine region_Dk (id := 21) 17 ?_ ?_; · kernel_rfl)
              | (with_reducible refine region_Dk (id := 3) 9 ?_ ?_; · kernel_rfl)
              ); intro ds hds; simp only [List.map] at hds; subst hds); refine reT (by simp only [pz, ↓reduceIte, Nat.reduceEqDiff, Nat.reduceAdd, Nat.reduceSub, Nat.reduceMul, Nat.reduceLeDiff, Nat.reduceBEq, Bool.false_eq_true, decide_true, decide_false, Int.reduceLE, Int.reduceToNat, Int.reduceLT, Int.reduceEq, eq_self, Nat.reduceShiftRight, Nat.reduceAnd, Nat.reduceBneDiff, tmz]; exact rfl) ?_; try refine wkI ?_)))
           refine pwp_ret (ret_ok ?_)
           simp [resOk, resA, resSlots, gs, tmz])
/-- What the quick test says of two trees. -/
noncomputable def mayT (g : Sgn) (p t : Tm) : Bool := isSgn g && isTerm g p && isTerm g t && may g (sizeTm p + 1) p t
set_option maxHeartbeats 40000000 in
set_option maxRecDepth 100000 in
theorem con_implMay (hok : okSgn g) {p t : Tm} (hp : okTm p) (ht : okTm t) (hbp : sizeTm p ≤ big) (hbt : sizeTm t ≤ big) : Con e0 33 [.agg (encSgn g), .agg (encTm p), .agg (encTm t)] [.one (.lit (.bool (mayT g p t)))] := by
  by_cases hg : SgnOk g
  rotate_left
  · have e : mayT g p t = false := by simp [mayT, isSgn_false hg]
    have c := con_newAlg_not hok hg
    rw [encSgn] at c
    refine con_of_pwp e0_ok 511 Try.func33 rfl (by kernel_rfl) (by kernel_rfl) rfl rfl ?_
    (repeat (first
      | with_reducible refine pwp_seqW ?_
      | with_reducible refine pwp_block ?_
      | ((first | with_reducible refine pwp_skip ?_ | with_reducible refine pwp_exit ?_); try refine wkI ?_)
      | (with_reducible refine pwp_ct ?_ ?_; · simp only [pz, ↓reduceIte, Nat.reduceEqDiff, tmz, encSgn])
      | (with_reducible refine pwp_cf ?_ ?_; · simp only [pz, ↓reduceIte, Nat.reduceEqDiff, tmz, encSgn])
      | (((first
        | with_reducible refine region_0k ?_
        ); intro ds hds; simp only [List.map] at hds; subst hds); refine reT (by simp only [pz, ↓reduceIte, Nat.reduceEqDiff, Nat.reduceAdd, Nat.reduceSub, Nat.reduceMul, Nat.reduceLeDiff, Nat.reduceBEq, Bool.false_eq_true, decide_true, decide_false, Int.reduceLE, Int.reduceToNat, Int.reduceLT, Int.reduceEq, eq_self, Nat.reduceShiftRight, Nat.reduceAnd, Nat.reduceBneDiff, tmz, encSgn]; exact rfl) ?_; try refine wkI ?_)))
    ((first
      | with_reducible refine region_0k ?_
      ); intro ds hds; simp only [List.map] at hds; subst hds)
    (refine rcT (by simp only [pz, ↓reduceIte, Nat.reduceEqDiff, Nat.reduceAdd, Nat.reduceSub, Nat.reduceMul, Nat.reduceLeDiff, Nat.reduceBEq, Bool.false_eq_true, decide_true, decide_false, Int.reduceLE, Int.reduceToNat, Int.reduceLT, Int.reduceEq, eq_self, Nat.reduceShiftRight, Nat.reduceAnd, Nat.reduceBneDiff, tmz]; exact rfl) (c) (by simp only [setA, retA]; exact rfl) ?_)
    (refine reT (by simp only [pz, ↓reduceIte, Nat.reduceEqDiff, Nat.reduceAdd, Nat.reduceSub, Nat.reduceMul, Nat.reduceLeDiff, Nat.reduceBEq, Bool.false_eq_true, decide_true, decide_false, Int.reduceLE, Int.reduceToNat, Int.reduceLT, Int.reduceEq, eq_self, Nat.reduceShiftRight, Nat.reduceAnd, Nat.reduceBneDiff, tmz]; exact rfl) ?_; first | (change pwp _ _ _ _ _) | refine wkI ?_ | skip)
    ((repeat (first
      | with_reducible refine pwp_seqW ?_
      | with_reducible refine pwp_block ?_
      | ((first | with_reducible refine pwp_skip ?_ | with_reducible refine pwp_exit ?_); try refine wkI ?_)
      | (with_reducible refine pwp_ct ?_ ?_; · simp only [pz, ↓reduceIte, Nat.reduceEqDiff, tmz, e])
      | (with_reducible refine pwp_cf ?_ ?_; · simp only [pz, ↓reduceIte, Nat.reduceEqDiff, tmz, e])
      | (((first
        | with_reducible refine region_0k ?_
        ); intro ds hds; simp only [List.map] at hds; subst hds); refine reT (by simp only [pz, ↓reduceIte, Nat.reduceEqDiff, Nat.reduceAdd, Nat.reduceSub, Nat.reduceMul, Nat.reduceLeDiff, Nat.reduceBEq, Bool.false_eq_true, decide_true, decide_false, Int.reduceLE, Int.reduceToNat, Int.reduceLT, Int.reduceEq, eq_self, Nat.reduceShiftRight, Nat.reduceAnd, Nat.reduceBneDiff, tmz, e]; exact rfl) ?_; try refine wkI ?_)))
     refine pwp_ret (ret_ok ?_)
     simp [resOk, resA, resSlots, gs, tmz, e])
  have hs := isSgn_true hg
  have c := conE_newAlg hok hg
  rw [encSgn] at c
  refine con_of_pwp e0_ok 511 Try.func33 rfl (by kernel_rfl) (by kernel_rfl) rfl rfl ?_
  (repeat (first
    | with_reducible refine pwp_seqW ?_
    | with_reducible refine pwp_block ?_
    | ((first | with_reducible refine pwp_skip ?_ | with_reducible refine pwp_exit ?_); try refine wkI ?_)
    | (with_reducible refine pwp_ct ?_ ?_; · simp only [pz, ↓reduceIte, Nat.reduceEqDiff, tmz, encSgn])
    | (with_reducible refine pwp_cf ?_ ?_; · simp only [pz, ↓reduceIte, Nat.reduceEqDiff, tmz, encSgn])
    | (((first
      | with_reducible refine region_0k ?_
      ); intro ds hds; simp only [List.map] at hds; subst hds); refine reT (by simp only [pz, ↓reduceIte, Nat.reduceEqDiff, Nat.reduceAdd, Nat.reduceSub, Nat.reduceMul, Nat.reduceLeDiff, Nat.reduceBEq, Bool.false_eq_true, decide_true, decide_false, Int.reduceLE, Int.reduceToNat, Int.reduceLT, Int.reduceEq, eq_self, Nat.reduceShiftRight, Nat.reduceAnd, Nat.reduceBneDiff, tmz, encSgn]; exact rfl) ?_; try refine wkI ?_)))
  ((first
    | with_reducible refine region_0k ?_
    ); intro ds hds; simp only [List.map] at hds; subst hds)
  (refine runs_goE (by simp only [pz, ↓reduceIte, Nat.reduceEqDiff, Nat.reduceAdd, Nat.reduceSub, Nat.reduceMul, Nat.reduceLeDiff, Nat.reduceBEq, Bool.false_eq_true, decide_true, decide_false, Int.reduceLE, Int.reduceToNat, Int.reduceLT, Int.reduceEq, eq_self, Nat.reduceShiftRight, Nat.reduceAnd, Nat.reduceBneDiff, tmz]; exact rfl) (by simp only [pz, ↓reduceIte, Nat.reduceEqDiff, Nat.reduceAdd, Nat.reduceSub, Nat.reduceMul, Nat.reduceLeDiff, Nat.reduceBEq, Bool.false_eq_true, decide_true, decide_false, Int.reduceLE, Int.reduceToNat, Int.reduceLT, Int.reduceEq, eq_self, Nat.reduceShiftRight, Nat.reduceAnd, Nat.reduceBneDiff, tmz]; exact rfl) (c) ?_)
  rintro r ⟨b, rfl⟩
  have c1 := con_implIsT (mc := .lit (.map (some b))) hg hp hbp
  have c2 := con_implIsT (mc := .lit (.map (some b))) hg ht hbt
  generalize C.lit (.map (some b)) = mc at c1 c2 ⊢
  (refine reT (by simp only [pz, ↓reduceIte, Nat.reduceEqDiff, Nat.reduceAdd, Nat.reduceSub, Nat.reduceMul, Nat.reduceLeDiff, Nat.reduceBEq, Bool.false_eq_true, decide_true, decide_false, Int.reduceLE, Int.reduceToNat, Int.reduceLT, Int.reduceEq, eq_self, Nat.reduceShiftRight, Nat.reduceAnd, Nat.reduceBneDiff, retA, sa_some]; exact rfl) ?_; first | (change pwp _ _ _ _ _) | refine wkI ?_ | skip)
  (repeat (first
    | with_reducible refine pwp_seqW ?_
    | with_reducible refine pwp_block ?_
    | ((first | with_reducible refine pwp_skip ?_ | with_reducible refine pwp_exit ?_); try refine wkI ?_)
    | (with_reducible refine pwp_ct ?_ ?_; · simp only [pz, ↓reduceIte, Nat.reduceEqDiff, tmz])
    | (with_reducible refine pwp_cf ?_ ?_; · simp only [pz, ↓reduceIte, Nat.reduceEqDiff, tmz])
    | (((first
      | with_reducible refine region_0k ?_
      ); intro ds hds; simp only [List.map] at hds; subst hds); refine reT (by simp only [pz, ↓reduceIte, Nat.reduceEqDiff, Nat.reduceAdd, Nat.reduceSub, Nat.reduceMul, Nat.reduceLeDiff, Nat.reduceBEq, Bool.false_eq_true, decide_true, decide_false, Int.reduceLE, Int.reduceToNat, Int.reduceLT, Int.reduceEq, eq_self, Nat.reduceShiftRight, Nat.reduceAnd, Nat.reduceBneDiff, tmz]; exact rfl) ?_; try refine wkI ?_)))
  ((first
    | with_reducible refine region_0k ?_
    ); intro ds hds; simp only [List.map] at hds; subst hds)
  (refine rcT (by simp only [pz, ↓reduceIte, Nat.reduceEqDiff, Nat.reduceAdd, Nat.reduceSub, Nat.reduceMul, Nat.reduceLeDiff, Nat.reduceBEq, Bool.false_eq_true, decide_true, decide_false, Int.reduceLE, Int.reduceToNat, Int.reduceLT, Int.reduceEq, eq_self, Nat.reduceShiftRight, Nat.reduceAnd, Nat.reduceBneDiff, tmz]; exact rfl) (c1) (by simp only [setA, retA]; exact rfl) ?_)
  cases h1 : isTerm g p with
  | false =>
    have e : mayT g p t = false := by simp [mayT, h1]
    (refine reT (by simp only [pz, ↓reduceIte, Nat.reduceEqDiff, Nat.reduceAdd, Nat.reduceSub, Nat.reduceMul, Nat.reduceLeDiff, Nat.reduceBEq, Bool.false_eq_true, decide_true, decide_false, Int.reduceLE, Int.reduceToNat, Int.reduceLT, Int.reduceEq, eq_self, Nat.reduceShiftRight, Nat.reduceAnd, Nat.reduceBneDiff, tmz]; exact rfl) ?_; first | (change pwp _ _ _ _ _) | refine wkI ?_ | skip)
    ((repeat (first
      | with_reducible refine pwp_seqW ?_
      | with_reducible refine pwp_block ?_
      | ((first | with_reducible refine pwp_skip ?_ | with_reducible refine pwp_exit ?_); try refine wkI ?_)
      | (with_reducible refine pwp_ct ?_ ?_; · simp only [pz, ↓reduceIte, Nat.reduceEqDiff, tmz, e])
      | (with_reducible refine pwp_cf ?_ ?_; · simp only [pz, ↓reduceIte, Nat.reduceEqDiff, tmz, e])
      | (((first
        | with_reducible refine region_0k ?_
        ); intro ds hds; simp only [List.map] at hds; subst hds); refine reT (by simp only [pz, ↓reduceIte, Nat.reduceEqDiff, Nat.reduceAdd, Nat.reduceSub, Nat.reduceMul, Nat.reduceLeDiff, Nat.reduceBEq, Bool.false_eq_true, decide_true, decide_false, Int.reduceLE, Int.reduceToNat, Int.reduceLT, Int.reduceEq, eq_self, Nat.reduceShiftRight, Nat.reduceAnd, Nat.reduceBneDiff, tmz, e]; exact rfl) ?_; try refine wkI ?_)))
     refine pwp_ret (ret_ok ?_)
     simp [resOk, resA, resSlots, gs, tmz, e])
  | true =>
    (refine rcT (by simp only [pz, ↓reduceIte, Nat.reduceEqDiff, Nat.reduceAdd, Nat.reduceSub, Nat.reduceMul, Nat.reduceLeDiff, Nat.reduceBEq, Bool.false_eq_true, decide_true, decide_false, Int.reduceLE, Int.reduceToNat, Int.reduceLT, Int.reduceEq, eq_self, Nat.reduceShiftRight, Nat.reduceAnd, Nat.reduceBneDiff, tmz]; exact rfl) (c2) (by simp only [setA, retA]; exact rfl) ?_)
    cases h2 : isTerm g t with
    | false =>
      have e : mayT g p t = false := by simp [mayT, h2]
      (refine reT (by simp only [pz, ↓reduceIte, Nat.reduceEqDiff, Nat.reduceAdd, Nat.reduceSub, Nat.reduceMul, Nat.reduceLeDiff, Nat.reduceBEq, Bool.false_eq_true, decide_true, decide_false, Int.reduceLE, Int.reduceToNat, Int.reduceLT, Int.reduceEq, eq_self, Nat.reduceShiftRight, Nat.reduceAnd, Nat.reduceBneDiff, tmz]; exact rfl) ?_; first | (change pwp _ _ _ _ _) | refine wkI ?_ | skip)
      ((repeat (first
        | with_reducible refine pwp_seqW ?_
        | with_reducible refine pwp_block ?_
        | ((first | with_reducible refine pwp_skip ?_ | with_reducible refine pwp_exit ?_); try refine wkI ?_)
        | (with_reducible refine pwp_ct ?_ ?_; · simp only [pz, ↓reduceIte, Nat.reduceEqDiff, tmz, e])
        | (with_reducible refine pwp_cf ?_ ?_; · simp only [pz, ↓reduceIte, Nat.reduceEqDiff, tmz, e])
        | (((first
          | with_reducible refine region_0k ?_
          ); intro ds hds; simp only [List.map] at hds; subst hds); refine reT (by simp only [pz, ↓reduceIte, Nat.reduceEqDiff, Nat.reduceAdd, Nat.reduceSub, Nat.reduceMul, Nat.reduceLeDiff, Nat.reduceBEq, Bool.false_eq_true, decide_true, decide_false, Int.reduceLE, Int.reduceToNat, Int.reduceLT, Int.reduceEq, eq_self, Nat.reduceShiftRight, Nat.reduceAnd, Nat.reduceBneDiff, tmz, e]; exact rfl) ?_; try refine wkI ?_)))
       refine pwp_ret (ret_ok ?_)
       simp [resOk, resA, resSlots, gs, tmz, e])
    | true =>
      have c3 : Con e0 _ _ _ := con_mayMatch (mc := mc) hg _ p t (Nat.lt_succ_self _) (isTerm_iff.1 h1).form (isTerm_iff.1 h2).form hbp hbt
      have e : mayT g p t = may g (sizeTm p + 1) p t := by simp [mayT, h1, h2, hs]
      (refine rcT (by simp only [pz, ↓reduceIte, Nat.reduceEqDiff, Nat.reduceAdd, Nat.reduceSub, Nat.reduceMul, Nat.reduceLeDiff, Nat.reduceBEq, Bool.false_eq_true, decide_true, decide_false, Int.reduceLE, Int.reduceToNat, Int.reduceLT, Int.reduceEq, eq_self, Nat.reduceShiftRight, Nat.reduceAnd, Nat.reduceBneDiff, tmz]; exact rfl) (c3) (by simp only [setA, retA]; exact rfl) ?_)
      (refine reT (by simp only [pz, ↓reduceIte, Nat.reduceEqDiff, Nat.reduceAdd, Nat.reduceSub, Nat.reduceMul, Nat.reduceLeDiff, Nat.reduceBEq, Bool.false_eq_true, decide_true, decide_false, Int.reduceLE, Int.reduceToNat, Int.reduceLT, Int.reduceEq, eq_self, Nat.reduceShiftRight, Nat.reduceAnd, Nat.reduceBneDiff, tmz]; exact rfl) ?_; first | (change pwp _ _ _ _ _) | refine wkI ?_ | skip)
      ((repeat (first
        | with_reducible refine pwp_seqW ?_
        | with_reducible refine pwp_block ?_
        | ((first | with_reducible refine pwp_skip ?_ | with_reducible refine pwp_exit ?_); try refine wkI ?_)
        | (with_reducible refine pwp_ct ?_ ?_; · simp only [pz, ↓reduceIte, Nat.reduceEqDiff, tmz, e])
        | (with_reducible refine pwp_cf ?_ ?_; · simp only [pz, ↓reduceIte, Nat.reduceEqDiff, tmz, e])
        | (((first
          | with_reducible refine region_0k ?_
          ); intro ds hds; simp only [List.map] at hds; subst hds); refine reT (by simp only [pz, ↓reduceIte, Nat.reduceEqDiff, Nat.reduceAdd, Nat.reduceSub, Nat.reduceMul, Nat.reduceLeDiff, Nat.reduceBEq, Bool.false_eq_true, decide_true, decide_false, Int.reduceLE, Int.reduceToNat, Int.reduceLT, Int.reduceEq, eq_self, Nat.reduceShiftRight, Nat.reduceAnd, Nat.reduceBneDiff, tmz, e]; exact rfl) ?_; try refine wkI ?_)))
       refine pwp_ret (ret_ok ?_)
       simp [resOk, resA, resSlots, gs, tmz, e])
end
end Go.Proofs.Ytmpcbijkbgmjkaa

