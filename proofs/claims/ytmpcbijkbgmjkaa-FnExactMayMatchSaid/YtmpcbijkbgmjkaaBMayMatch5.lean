/-
  FnExactMayMatch returns true for every signature, pattern and term, and turns nothing: proved without conditions.
-/
import Derived.Test.YtmpcbijkbgmjkaaBMayMatch0
import Derived.Test.YtmpcbijkbgmjkaaBMayMatch1
import Derived.Test.YtmpcbijkbgmjkaaBMayMatch2
import Derived.Test.YtmpcbijkbgmjkaaBMayMatch3
import Derived.Test.YtmpcbijkbgmjkaaBMayMatch4
set_option linter.unusedSimpArgs false
set_option linter.unusedVariables false
namespace Go.Proofs.Ytmpcbijkbgmjkaa
open Go.RowKit
section
variable {g : Sgn} {M : Tm → Tm → Bool}
def mayS (g : Sgn) (M : Tm → Tm → Bool) (p t : Tm) : Prop := Con e0 65 [.agg (encSgn g), .agg (encTm p), .agg (encTm t)] [.one (.lit (.bool (M p t)))]
set_option maxHeartbeats 4000000 in
set_option maxRecDepth 100000 in
theorem con_l19All {ps ts : List Tm} (hl : ps.length ≤ ts.length) (hb : ts.length ≤ big) (h : ∀ p ∈ ps, ∀ t ∈ ts, mayS g M p t) : Con e0 104 [.agg (encSgn g), .one (.sl (encTms ps)), .one (.sl (encTms ts))] [.one (.lit (.bool (allB M ps ts)))] := by
  unfold big at hb
  unfold mayS at h
  rw [encSgn] at h
  refine con_of_pwp e0_ok 16779471 Try.func104 rfl (by kernel_rfl) (by kernel_rfl) rfl rfl ?_
  (repeat (first
    | with_reducible refine pwp_seqW ?_
    | with_reducible refine pwp_block ?_
    | ((first | with_reducible refine pwp_skip ?_ | with_reducible refine pwp_exit ?_); try refine wkI ?_)
    | (with_reducible refine pwp_ct ?_ ?_; · simp only [pz, ↓reduceIte, Nat.reduceEqDiff, tmz, encSgn])
    | (with_reducible refine pwp_cf ?_ ?_; · simp only [pz, ↓reduceIte, Nat.reduceEqDiff, tmz, encSgn])
    | (((first
      | with_reducible refine region_0k ?_
      | (with_reducible refine region_Dk (id := 4) 11 ?_ ?_; · kernel_rfl)
      ); intro ds hds; simp only [List.map] at hds; subst hds); refine reT (by simp only [pz, ↓reduceIte, Nat.reduceEqDiff, Nat.reduceAdd, Nat.reduceSub, Nat.reduceMul, Nat.reduceLeDiff, Nat.reduceBEq, Bool.false_eq_true, decide_true, decide_false, Int.reduceLE, Int.reduceToNat, Int.reduceLT, Int.reduceEq, eq_self, Nat.reduceShiftRight, Nat.reduceAnd, Nat.reduceBneDiff, tmz, encSgn]; exact rfl) ?_; try refine wkI ?_)))
  refine pwp_loopU (ι := Nat) [6, 7, 11, 24] [] (fun i => [(7, A.d (.one (.lit (.int .i64 i))))]) (fun i => []) (fun i => i ≤ ps.length ∧ ∀ (j : Nat) p t, j < i → ps[j]? = some p → ts[j]? = some t → M p t = true) (fun i => ps.length - i) (0) (by simp only [headS, headM, List.elem_cons, List.elem_nil, Nat.reduceBEq, Bool.or_false, Bool.false_or, Bool.or_true, Bool.true_or, Bool.or_self, ↓reduceIte, Bool.false_eq_true]; exact rfl) (by simp only [headS, headM, List.elem_cons, List.elem_nil, Nat.reduceBEq, Bool.or_false, Bool.false_or, Bool.or_true, Bool.true_or, Bool.or_self, ↓reduceIte, Bool.false_eq_true]; exact rfl) (fun _ => by simp only [List.cons_append, List.nil_append]; exact rfl) (fun _ => by simp only [List.cons_append, List.nil_append]; exact rfl) (by simp [weakS, gs, e0P]) (by simp [weakM, gm, e0P]) (⟨by omega, fun j p t h => absurd h (by omega)⟩) (fun i hi => ?_)
  obtain ⟨hil, hall⟩ := hi
  by_cases hi : i < ps.length
  rotate_left
  · have hl' : ¬ ((i : Int) < (ps.length : Int)) := by omega
    have hT : allB M ps ts = true := by
      simp only [allB, decide_eq_true_eq]
      exact fun j p t hp ht => hall j p t (by have := (List.getElem?_eq_some_iff.1 hp).1; omega) hp ht
    ((repeat (first
      | with_reducible refine pwp_seqW ?_
      | with_reducible refine pwp_block ?_
      | ((first | with_reducible refine pwp_skip ?_ | with_reducible refine pwp_exit ?_); try refine wkI ?_)
      | (with_reducible refine pwp_ct ?_ ?_; · simp only [pz, ↓reduceIte, Nat.reduceEqDiff, tmz, hl', hT])
      | (with_reducible refine pwp_cf ?_ ?_; · simp only [pz, ↓reduceIte, Nat.reduceEqDiff, tmz, hl', hT])
      | (((first
        | with_reducible refine region_0k ?_
        | (with_reducible refine region_Dk (id := 4) 11 ?_ ?_; · kernel_rfl)
        ); intro ds hds; simp only [List.map] at hds; subst hds); refine reT (by simp only [pz, ↓reduceIte, Nat.reduceEqDiff, Nat.reduceAdd, Nat.reduceSub, Nat.reduceMul, Nat.reduceLeDiff, Nat.reduceBEq, Bool.false_eq_true, decide_true, decide_false, Int.reduceLE, Int.reduceToNat, Int.reduceLT, Int.reduceEq, eq_self, Nat.reduceShiftRight, Nat.reduceAnd, Nat.reduceBneDiff, tmz, hl', hT]; exact rfl) ?_; try refine wkI ?_)))
     refine pwp_ret (ret_ok ?_)
     simp [resOk, resA, resSlots, gs, tmz, hl', hT])
  have hl' : (i : Int) < (ps.length : Int) := by omega
  obtain ⟨p, hp⟩ : ∃ a, ps[i]? = some a := ⟨_, List.getElem?_eq_getElem hi⟩
  obtain ⟨t, ht⟩ : ∃ a, ts[i]? = some a := ⟨_, List.getElem?_eq_getElem (by omega)⟩
  have hw1 := wrap1 (k := i) (by omega)
  (repeat (first
    | with_reducible refine pwp_seqW ?_
    | with_reducible refine pwp_block ?_
    | ((first | with_reducible refine pwp_skip ?_ | with_reducible refine pwp_exit ?_); try refine wkI ?_)
    | (with_reducible refine pwp_ct ?_ ?_; · simp only [pz, ↓reduceIte, Nat.reduceEqDiff, tmz, hl'])
    | (with_reducible refine pwp_cf ?_ ?_; · simp only [pz, ↓reduceIte, Nat.reduceEqDiff, tmz, hl'])
    | (((first
      | with_reducible refine region_0k ?_
      | (with_reducible refine region_Dk (id := 4) 11 ?_ ?_; · kernel_rfl)
      ); intro ds hds; simp only [List.map] at hds; subst hds); refine reT (by simp only [pz, ↓reduceIte, Nat.reduceEqDiff, Nat.reduceAdd, Nat.reduceSub, Nat.reduceMul, Nat.reduceLeDiff, Nat.reduceBEq, Bool.false_eq_true, decide_true, decide_false, Int.reduceLE, Int.reduceToNat, Int.reduceLT, Int.reduceEq, eq_self, Nat.reduceShiftRight, Nat.reduceAnd, Nat.reduceBneDiff, tmz, hl']; exact rfl) ?_; try refine wkI ?_)))
  ((first
    | with_reducible refine region_0k ?_
    | (with_reducible refine region_Dk (id := 4) 11 ?_ ?_; · kernel_rfl)
    ); intro ds hds; simp only [List.map] at hds; subst hds)
  (refine rcT (by simp only [pz, ↓reduceIte, Nat.reduceEqDiff, Nat.reduceAdd, Nat.reduceSub, Nat.reduceMul, Nat.reduceLeDiff, Nat.reduceBEq, Bool.false_eq_true, decide_true, decide_false, Int.reduceLE, Int.reduceToNat, Int.reduceLT, Int.reduceEq, eq_self, Nat.reduceShiftRight, Nat.reduceAnd, Nat.reduceBneDiff, tmz, hp, ht]; exact rfl) (h p (List.mem_of_getElem? hp) t (List.mem_of_getElem? ht)) (by simp only [setA, retA]; exact rfl) ?_)
  cases hM : M p t with
  | true =>
    have hq : i + 1 ≤ ps.length ∧ ∀ (j : Nat) p t, j < i + 1 → ps[j]? = some p → ts[j]? = some t → M p t = true := ⟨by omega, fun j p' t' hj hp' ht' => by
      by_cases e : j = i
      · subst e
        rw [hp] at hp'
        rw [ht] at ht'
        injection hp' with hp'
        injection ht' with ht'
        subst hp' ht'
        exact hM
      · exact hall j p' t' (by omega) hp' ht'⟩
    (refine reT (by simp only [pz, ↓reduceIte, Nat.reduceEqDiff, Nat.reduceAdd, Nat.reduceSub, Nat.reduceMul, Nat.reduceLeDiff, Nat.reduceBEq, Bool.false_eq_true, decide_true, decide_false, Int.reduceLE, Int.reduceToNat, Int.reduceLT, Int.reduceEq, eq_self, Nat.reduceShiftRight, Nat.reduceAnd, Nat.reduceBneDiff, tmz]; exact rfl) ?_; first | (change pwp _ _ _ _ _) | refine wkI ?_ | skip)
    ((repeat (first
      | with_reducible refine pwp_seqW ?_
      | with_reducible refine pwp_block ?_
      | ((first | with_reducible refine pwp_skip ?_ | with_reducible refine pwp_exit ?_); try refine wkI ?_)
      | (with_reducible refine pwp_ct ?_ ?_; · simp only [pz, ↓reduceIte, Nat.reduceEqDiff, hw1, tmz])
      | (with_reducible refine pwp_cf ?_ ?_; · simp only [pz, ↓reduceIte, Nat.reduceEqDiff, hw1, tmz])
      | (((first
        | with_reducible refine region_0k ?_
        | (with_reducible refine region_Dk (id := 4) 11 ?_ ?_; · kernel_rfl)
        ); intro ds hds; simp only [List.map] at hds; subst hds); refine reT (by simp only [pz, ↓reduceIte, Nat.reduceEqDiff, Nat.reduceAdd, Nat.reduceSub, Nat.reduceMul, Nat.reduceLeDiff, Nat.reduceBEq, Bool.false_eq_true, decide_true, decide_false, Int.reduceLE, Int.reduceToNat, Int.reduceLT, Int.reduceEq, eq_self, Nat.reduceShiftRight, Nat.reduceAnd, Nat.reduceBneDiff, hw1, tmz]; exact rfl) ?_; try refine wkI ?_)))
     exact ⟨i + 1, hq, by simp [weakS, gs, hw1, tmz], by simp [weakM, gm, hw1, tmz], by omega⟩)
  | false =>
    have hf := allB_false hp ht hM
    (refine reT (by simp only [pz, ↓reduceIte, Nat.reduceEqDiff, Nat.reduceAdd, Nat.reduceSub, Nat.reduceMul, Nat.reduceLeDiff, Nat.reduceBEq, Bool.false_eq_true, decide_true, decide_false, Int.reduceLE, Int.reduceToNat, Int.reduceLT, Int.reduceEq, eq_self, Nat.reduceShiftRight, Nat.reduceAnd, Nat.reduceBneDiff, tmz]; exact rfl) ?_; first | (change pwp _ _ _ _ _) | refine wkI ?_ | skip)
    ((repeat (first
      | with_reducible refine pwp_seqW ?_
      | with_reducible refine pwp_block ?_
      | ((first | with_reducible refine pwp_skip ?_ | with_reducible refine pwp_exit ?_); try refine wkI ?_)
      | (with_reducible refine pwp_ct ?_ ?_; · simp only [pz, ↓reduceIte, Nat.reduceEqDiff, hf])
      | (with_reducible refine pwp_cf ?_ ?_; · simp only [pz, ↓reduceIte, Nat.reduceEqDiff, hf])
      | (((first
        | with_reducible refine region_0k ?_
        | (with_reducible refine region_Dk (id := 4) 11 ?_ ?_; · kernel_rfl)
        ); intro ds hds; simp only [List.map] at hds; subst hds); refine reT (by simp only [pz, ↓reduceIte, Nat.reduceEqDiff, Nat.reduceAdd, Nat.reduceSub, Nat.reduceMul, Nat.reduceLeDiff, Nat.reduceBEq, Bool.false_eq_true, decide_true, decide_false, Int.reduceLE, Int.reduceToNat, Int.reduceLT, Int.reduceEq, eq_self, Nat.reduceShiftRight, Nat.reduceAnd, Nat.reduceBneDiff, hf]; exact rfl) ?_; try refine wkI ?_)))
     refine pwp_ret (ret_ok ?_)
     simp [resOk, resA, resSlots, gs, hf])
set_option maxHeartbeats 4000000 in
set_option maxRecDepth 100000 in
theorem con_l19Order {ps ts : List Tm} (hl : ps.length ≤ big) (hb : ts.length ≤ big) (h : ∀ p ∈ ps, ∀ t ∈ ts, mayS g M p t) : Con e0 103 [.agg (encSgn g), .one (.sl (encTms ps)), .one (.sl (encTms ts))] [.one (.lit (.bool (followB M ps ts)))] := by
  unfold big at hb hl
  unfold mayS at h
  rw [encSgn] at h
  refine con_of_pwp e0_ok 35734127907279 Try.func103 rfl (by kernel_rfl) (by kernel_rfl) rfl rfl ?_
  (repeat (first
    | with_reducible refine pwp_seqW ?_
    | with_reducible refine pwp_block ?_
    | ((first | with_reducible refine pwp_skip ?_ | with_reducible refine pwp_exit ?_); try refine wkI ?_)
    | (with_reducible refine pwp_ct ?_ ?_; · simp only [pz, ↓reduceIte, Nat.reduceEqDiff, tmz, encSgn])
    | (with_reducible refine pwp_cf ?_ ?_; · simp only [pz, ↓reduceIte, Nat.reduceEqDiff, tmz, encSgn])
    | (((first
      | with_reducible refine region_0k ?_
      | (with_reducible refine region_Dk (id := 5) 25 ?_ ?_; · kernel_rfl)
      ); intro ds hds; simp only [List.map] at hds; subst hds); refine reT (by simp only [pz, ↓reduceIte, Nat.reduceEqDiff, Nat.reduceAdd, Nat.reduceSub, Nat.reduceMul, Nat.reduceLeDiff, Nat.reduceBEq, Bool.false_eq_true, decide_true, decide_false, Int.reduceLE, Int.reduceToNat, Int.reduceLT, Int.reduceEq, eq_self, Nat.reduceShiftRight, Nat.reduceAnd, Nat.reduceBneDiff, tmz, encSgn]; exact rfl) ?_; try refine wkI ?_)))
  refine pwp_loopU (ι := Nat × Nat) [6, 7, 8, 12, 39, 45] [] (fun x => [(8, A.d (.one (.lit (.int .i64 (x.1 : Nat))))), (7, A.d (.one (.lit (.int .i64 (x.2 : Nat)))))]) (fun x => []) (fun x => x.1 ≤ ps.length ∧ x.2 ≤ ts.length ∧ followB M (ps.drop x.1) (ts.drop x.2) = followB M ps ts) (fun x => ps.length - x.1) ((0, 0)) (by simp only [headS, headM, List.elem_cons, List.elem_nil, Nat.reduceBEq, Bool.or_false, Bool.false_or, Bool.or_true, Bool.true_or, Bool.or_self, ↓reduceIte, Bool.false_eq_true]; exact rfl) (by simp only [headS, headM, List.elem_cons, List.elem_nil, Nat.reduceBEq, Bool.or_false, Bool.false_or, Bool.or_true, Bool.true_or, Bool.or_self, ↓reduceIte, Bool.false_eq_true]; exact rfl) (fun _ => by simp only [List.cons_append, List.nil_append]; exact rfl) (fun _ => by simp only [List.cons_append, List.nil_append]; exact rfl) (by simp [weakS, gs, e0P]) (by simp [weakM, gm, e0P]) (⟨by omega, by omega, rfl⟩) (fun x hx => ?_)
  obtain ⟨i, at0⟩ := x
  obtain ⟨hil, hat0, hfo⟩ := hx
  simp only at hil hat0 hfo
  by_cases hi : i < ps.length
  rotate_left
  · have hl' : ¬ ((i : Int) < (ps.length : Int)) := by omega
    have hT : followB M ps ts = true := by rw [← hfo]; exact follow_end (by omega)
    ((repeat (first
      | with_reducible refine pwp_seqW ?_
      | with_reducible refine pwp_block ?_
      | ((first | with_reducible refine pwp_skip ?_ | with_reducible refine pwp_exit ?_); try refine wkI ?_)
      | (with_reducible refine pwp_ct ?_ ?_; · simp only [pz, ↓reduceIte, Nat.reduceEqDiff, tmz, hl', hT])
      | (with_reducible refine pwp_cf ?_ ?_; · simp only [pz, ↓reduceIte, Nat.reduceEqDiff, tmz, hl', hT])
      | (((first
        | with_reducible refine region_0k ?_
        | (with_reducible refine region_Dk (id := 5) 25 ?_ ?_; · kernel_rfl)
        ); intro ds hds; simp only [List.map] at hds; subst hds); refine reT (by simp only [pz, ↓reduceIte, Nat.reduceEqDiff, Nat.reduceAdd, Nat.reduceSub, Nat.reduceMul, Nat.reduceLeDiff, Nat.reduceBEq, Bool.false_eq_true, decide_true, decide_false, Int.reduceLE, Int.reduceToNat, Int.reduceLT, Int.reduceEq, eq_self, Nat.reduceShiftRight, Nat.reduceAnd, Nat.reduceBneDiff, tmz, hl', hT]; exact rfl) ?_; try refine wkI ?_)))
     refine pwp_ret (ret_ok ?_)
     simp [resOk, resA, resSlots, gs, tmz, hl', hT])
  have hl' : (i : Int) < (ps.length : Int) := by omega
  obtain ⟨p, hp⟩ : ∃ a, ps[i]? = some a := ⟨_, List.getElem?_eq_getElem hi⟩
  have hw1 := wrap1 (k := i) (by omega)
  have hpm := List.mem_of_getElem? hp
  (repeat (first
    | with_reducible refine pwp_seqW ?_
    | with_reducible refine pwp_block ?_
    | ((first | with_reducible refine pwp_skip ?_ | with_reducible refine pwp_exit ?_); try refine wkI ?_)
    | (with_reducible refine pwp_ct ?_ ?_; · simp only [pz, ↓reduceIte, Nat.reduceEqDiff, tmz, hl'])
    | (with_reducible refine pwp_cf ?_ ?_; · simp only [pz, ↓reduceIte, Nat.reduceEqDiff, tmz, hl'])
    | (((first
      | with_reducible refine region_0k ?_
      | (with_reducible refine region_Dk (id := 5) 25 ?_ ?_; · kernel_rfl)
      ); intro ds hds; simp only [List.map] at hds; subst hds); refine reT (by simp only [pz, ↓reduceIte, Nat.reduceEqDiff, Nat.reduceAdd, Nat.reduceSub, Nat.reduceMul, Nat.reduceLeDiff, Nat.reduceBEq, Bool.false_eq_true, decide_true, decide_false, Int.reduceLE, Int.reduceToNat, Int.reduceLT, Int.reduceEq, eq_self, Nat.reduceShiftRight, Nat.reduceAnd, Nat.reduceBneDiff, tmz, hl']; exact rfl) ?_; try refine wkI ?_)))
  refine pwp_loopU (ι := Nat) [7, 39] [] (fun k => [(7, A.d (.one (.lit (.int .i64 k))))]) (fun k => []) (fun k => k ≤ ts.length ∧ followB M (ps.drop i) (ts.drop k) = followB M ps ts) (fun k => ts.length - k) (at0) (by simp only [headS, headM, List.elem_cons, List.elem_nil, Nat.reduceBEq, Bool.or_false, Bool.false_or, Bool.or_true, Bool.true_or, Bool.or_self, ↓reduceIte, Bool.false_eq_true]; exact rfl) (by simp only [headS, headM, List.elem_cons, List.elem_nil, Nat.reduceBEq, Bool.or_false, Bool.false_or, Bool.or_true, Bool.true_or, Bool.or_self, ↓reduceIte, Bool.false_eq_true]; exact rfl) (fun _ => by simp only [List.cons_append, List.nil_append]; exact rfl) (fun _ => by simp only [List.cons_append, List.nil_append]; exact rfl) (by simp [weakS, gs, tmz]) (by simp [weakM, gm, tmz]) (⟨by omega, hfo⟩) (fun k hk => ?_)
  obtain ⟨hkl, hfk⟩ := hk
  by_cases hk : k < ts.length
  rotate_left
  · have hk' : ¬ ((k : Int) < (ts.length : Int)) := by omega
    have hk2 : (ts.length : Int) ≤ (k : Int) := by omega
    have hF : followB M ps ts = false := by rw [← hfk]; exact follow_out hp (by omega)
    ((repeat (first
      | with_reducible refine pwp_seqW ?_
      | with_reducible refine pwp_block ?_
      | ((first | with_reducible refine pwp_skip ?_ | with_reducible refine pwp_exit ?_); try refine wkI ?_)
      | (with_reducible refine pwp_ct ?_ ?_; · simp only [pz, ↓reduceIte, Nat.reduceEqDiff, tmz, hk', hk2, hF])
      | (with_reducible refine pwp_cf ?_ ?_; · simp only [pz, ↓reduceIte, Nat.reduceEqDiff, tmz, hk', hk2, hF])
      | (((first
        | with_reducible refine region_0k ?_
        | (with_reducible refine region_Dk (id := 5) 25 ?_ ?_; · kernel_rfl)
        ); intro ds hds; simp only [List.map] at hds; subst hds); refine reT (by simp only [pz, ↓reduceIte, Nat.reduceEqDiff, Nat.reduceAdd, Nat.reduceSub, Nat.reduceMul, Nat.reduceLeDiff, Nat.reduceBEq, Bool.false_eq_true, decide_true, decide_false, Int.reduceLE, Int.reduceToNat, Int.reduceLT, Int.reduceEq, eq_self, Nat.reduceShiftRight, Nat.reduceAnd, Nat.reduceBneDiff, tmz, hk', hk2, hF]; exact rfl) ?_; try refine wkI ?_)))
     refine pwp_ret (ret_ok ?_)
     simp [resOk, resA, resSlots, gs, tmz, hk', hk2, hF])
  have hk' : (k : Int) < (ts.length : Int) := by omega
  have hk2 : ¬ ((ts.length : Int) ≤ (k : Int)) := by omega
  obtain ⟨t, ht⟩ : ∃ a, ts[k]? = some a := ⟨_, List.getElem?_eq_getElem hk⟩
  have hwk := wrap1 (k := k) (by omega)
  by_cases hv : p.op = -1
  · have hq : i + 1 ≤ ps.length ∧ k + 1 ≤ ts.length ∧ followB M (ps.drop (i + 1)) (ts.drop (k + 1)) = followB M ps ts := ⟨by omega, by omega, by rw [← follow_take hp ht (by simp [hv])]; exact hfk⟩
    ((repeat (first
      | with_reducible refine pwp_seqW ?_
      | with_reducible refine pwp_block ?_
      | ((first | with_reducible refine pwp_skip ?_ | with_reducible refine pwp_exit ?_); try refine wkI ?_)
      | (with_reducible refine pwp_ct ?_ ?_; · simp only [pz, ↓reduceIte, Nat.reduceEqDiff, hw1, hwk, tmz, hk', hk2, hp, hv])
      | (with_reducible refine pwp_cf ?_ ?_; · simp only [pz, ↓reduceIte, Nat.reduceEqDiff, hw1, hwk, tmz, hk', hk2, hp, hv])
      | (((first
        | with_reducible refine region_0k ?_
        | (with_reducible refine region_Dk (id := 5) 25 ?_ ?_; · kernel_rfl)
        ); intro ds hds; simp only [List.map] at hds; subst hds); refine reT (by simp only [pz, ↓reduceIte, Nat.reduceEqDiff, Nat.reduceAdd, Nat.reduceSub, Nat.reduceMul, Nat.reduceLeDiff, Nat.reduceBEq, Bool.false_eq_true, decide_true, decide_false, Int.reduceLE, Int.reduceToNat, Int.reduceLT, Int.reduceEq, eq_self, Nat.reduceShiftRight, Nat.reduceAnd, Nat.reduceBneDiff, hw1, hwk, tmz, hk', hk2, hp, hv]; exact rfl) ?_; try refine wkI ?_)))
     exact ⟨(i + 1, k + 1), hq, by simp [weakS, gs, hw1, hwk, tmz, hk', hk2, hp, hv], by simp [weakM, gm, hw1, hwk, tmz, hk', hk2, hp, hv], by omega⟩)
  (repeat (first
    | with_reducible refine pwp_seqW ?_
    | with_reducible refine pwp_block ?_
    | ((first | with_reducible refine pwp_skip ?_ | with_reducible refine pwp_exit ?_); try refine wkI ?_)
    | (with_reducible refine pwp_ct ?_ ?_; · simp only [pz, ↓reduceIte, Nat.reduceEqDiff, tmz])
    | (with_reducible refine pwp_cf ?_ ?_; · simp only [pz, ↓reduceIte, Nat.reduceEqDiff, tmz])
    | (((first
      | with_reducible refine region_0k ?_
      | (with_reducible refine region_Dk (id := 5) 25 ?_ ?_; · kernel_rfl)
      ); intro ds hds; simp only [List.map] at hds; subst hds); refine reT (by simp only [pz, ↓reduceIte, Nat.reduceEqDiff, Nat.reduceAdd, Nat.reduceSub, Nat.reduceMul, Nat.reduceLeDiff, Nat.reduceBEq, Bool.false_eq_true, decide_true, decide_false, Int.reduceLE, Int.reduceToNat, Int.reduceLT, Int.reduceEq, eq_self, Nat.reduceShiftRight, Nat.reduceAnd, Nat.reduceBneDiff, tmz]; exact rfl) ?_; try refine wkI ?_)))
  ((first
    | with_reducible refine region_0k ?_
    | (with_reducible refine region_Dk (id := 5) 25 ?_ ?_; · kernel_rfl)
    ); intro ds hds; simp only [List.map] at hds; subst hds)
  (refine rcT (by simp only [pz, ↓reduceIte, Nat.reduceEqDiff, Nat.reduceAdd, Nat.reduceSub, Nat.reduceMul, Nat.reduceLeDiff, Nat.reduceBEq, Bool.false_eq_true, decide_true, decide_false, Int.reduceLE, Int.reduceToNat, Int.reduceLT, Int.reduceEq, eq_self, Nat.reduceShiftRight, Nat.reduceAnd, Nat.reduceBneDiff, tmz, hk', hp, hv, ht]; exact rfl) (h p hpm t (List.mem_of_getElem? ht)) (by simp only [setA, retA]; exact rfl) ?_)
  cases hM : M p t with
  | true =>
    have hq : i + 1 ≤ ps.length ∧ k + 1 ≤ ts.length ∧ followB M (ps.drop (i + 1)) (ts.drop (k + 1)) = followB M ps ts := ⟨by omega, by omega, by rw [← follow_take hp ht (by simp [hM])]; exact hfk⟩
    (refine reT (by simp only [pz, ↓reduceIte, Nat.reduceEqDiff, Nat.reduceAdd, Nat.reduceSub, Nat.reduceMul, Nat.reduceLeDiff, Nat.reduceBEq, Bool.false_eq_true, decide_true, decide_false, Int.reduceLE, Int.reduceToNat, Int.reduceLT, Int.reduceEq, eq_self, Nat.reduceShiftRight, Nat.reduceAnd, Nat.reduceBneDiff, tmz]; exact rfl) ?_; first | (change pwp _ _ _ _ _) | refine wkI ?_ | skip)
    ((repeat (first
      | with_reducible refine pwp_seqW ?_
      | with_reducible refine pwp_block ?_
      | ((first | with_reducible refine pwp_skip ?_ | with_reducible refine pwp_exit ?_); try refine wkI ?_)
      | (with_reducible refine pwp_ct ?_ ?_; · simp only [pz, ↓reduceIte, Nat.reduceEqDiff, hw1, hwk, tmz, hk', hk2])
      | (with_reducible refine pwp_cf ?_ ?_; · simp only [pz, ↓reduceIte, Nat.reduceEqDiff, hw1, hwk, tmz, hk', hk2])
      | (((first
        | with_reducible refine region_0k ?_
        | (with_reducible refine region_Dk (id := 5) 25 ?_ ?_; · kernel_rfl)
        ); intro ds hds; simp only [List.map] at hds; subst hds); refine reT (by simp only [pz, ↓reduceIte, Nat.reduceEqDiff, Nat.reduceAdd, Nat.reduceSub, Nat.reduceMul, Nat.reduceLeDiff, Nat.reduceBEq, Bool.false_eq_true, decide_true, decide_false, Int.reduceLE, Int.reduceToNat, Int.reduceLT, Int.reduceEq, eq_self, Nat.reduceShiftRight, Nat.reduceAnd, Nat.reduceBneDiff, hw1, hwk, tmz, hk', hk2]; exact rfl) ?_; try refine wkI ?_)))
     exact ⟨(i + 1, k + 1), hq, by simp [weakS, gs, hw1, hwk, tmz, hk', hk2], by simp [weakM, gm, hw1, hwk, tmz, hk', hk2], by omega⟩)
  | false =>
    have hq : k + 1 ≤ ts.length ∧ followB M (ps.drop i) (ts.drop (k + 1)) = followB M ps ts := ⟨by omega, by rw [← follow_step hp ht (by simp [hM, hv])]; exact hfk⟩
    (refine reT (by simp only [pz, ↓reduceIte, Nat.reduceEqDiff, Nat.reduceAdd, Nat.reduceSub, Nat.reduceMul, Nat.reduceLeDiff, Nat.reduceBEq, Bool.false_eq_true, decide_true, decide_false, Int.reduceLE, Int.reduceToNat, Int.reduceLT, Int.reduceEq, eq_self, Nat.reduceShiftRight, Nat.reduceAnd, Nat.reduceBneDiff, tmz]; exact rfl) ?_; first | (change pwp _ _ _ _ _) | refine wkI ?_ | skip)
    ((repeat (first
      | with_reducible refine pwp_seqW ?_
      | with_reducible refine pwp_block ?_
      | ((first | with_reducible refine pwp_skip ?_ | with_reducible refine pwp_exit ?_); try refine wkI ?_)
      | (with_reducible refine pwp_ct ?_ ?_; · simp only [pz, ↓reduceIte, Nat.reduceEqDiff, hwk, tmz])
      | (with_reducible refine pwp_cf ?_ ?_; · simp only [pz, ↓reduceIte, Nat.reduceEqDiff, hwk, tmz])
      | (((first
        | with_reducible refine region_0k ?_
        | (with_reducible refine region_Dk (id := 5) 25 ?_ ?_; · kernel_rfl)
        ); intro ds hds; simp only [List.map] at hds; subst hds); refine reT (by simp only [pz, ↓reduceIte, Nat.reduceEqDiff, Nat.reduceAdd, Nat.reduceSub, Nat.reduceMul, Nat.reduceLeDiff, Nat.reduceBEq, Bool.false_eq_true, decide_true, decide_false, Int.reduceLE, Int.reduceToNat, Int.reduceLT, Int.reduceEq, eq_self, Nat.reduceShiftRight, Nat.reduceAnd, Nat.reduceBneDiff, hwk, tmz]; exact rfl) ?_; try refine wkI ?_)))
     exact ⟨k + 1, hq, by simp [weakS, gs, hwk, tmz], by simp [weakM, gm, hwk, tmz], by omega⟩)
theorem any_take {P : Tm → Bool} {ts : List Tm} {k : Nat} {t : Tm} (h : ts[k]? = some t) : (ts.take (k + 1)).any P = ((ts.take k).any P || P t) := by
  rw [take_snoc h, List.any_append]; simp
set_option maxHeartbeats 4000000 in
set_option maxRecDepth 100000 in
theorem con_l19Each {ps ts : List Tm} (hl : ps.length ≤ big) (hb : ts.length ≤ big) (h : ∀ p ∈ ps, ∀ t ∈ ts, mayS g M p t) : Con e0 102 [.agg (encSgn g), .one (.sl (encTms ps)), .one (.sl (encTms ts))] [.one (.lit (.bool (eachB M ps ts)))] := by
  unfold big at hb hl
  unfold mayS at h
  rw [encSgn] at h
  have hno : ∀ p' ∈ ps, ¬ (p'.op = -1 ∨ anyB M p' ts = true) → eachB M ps ts = false := fun p' hp' h => by
    simp only [eachB, decide_eq_false_iff_not]
    exact fun hA => h (hA p' hp')
  refine con_of_pwp e0_ok 4398080074703 Try.func102 rfl (by kernel_rfl) (by kernel_rfl) rfl rfl ?_
  (repeat (first
    | with_reducible refine pwp_seqW ?_
    | with_reducible refine pwp_block ?_
    | ((first | with_reducible refine pwp_skip ?_ | with_reducible refine pwp_exit ?_); try refine wkI ?_)
    | (with_reducible refine pwp_ct ?_ ?_; · simp only [pz, ↓reduceIte, Nat.reduceEqDiff, tmz, encSgn])
    | (with_reducible refine pwp_cf ?_ ?_; · simp only [pz, ↓reduceIte, Nat.reduceEqDiff, tmz, encSgn])
    | (((first
      | with_reducible refine region_0k ?_
      | (with_reducible refine region_Dk (id := 8) 13 ?_ ?_; · kernel_rfl)
      ); intro ds hds; simp only [List.map] at hds; subst hds); refine reT (by simp only [pz, ↓reduceIte, Nat.reduceEqDiff, Nat.reduceAdd, Nat.reduceSub, Nat.reduceMul, Nat.reduceLeDiff, Nat.reduceBEq, Bool.false_eq_true, decide_true, decide_false, Int.reduceLE, Int.reduceToNat, Int.reduceLT, Int.reduceEq, eq_self, Nat.reduceShiftRight, Nat.reduceAnd, Nat.reduceBneDiff, tmz, encSgn]; exact rfl) ?_; try refine wkI ?_)))
  refine pwp_loopU (ι := Nat) [6, 7, 8, 9, 13, 25, 42] [] (fun i => [(7, A.d (.one (.lit (.int .i64 i))))]) (fun i => []) (fun i => i ≤ ps.length ∧ ∀ (j : Nat) p', j < i → ps[j]? = some p' → p'.op = -1 ∨ anyB M p' ts = true) (fun i => ps.length - i) (0) (by simp only [headS, headM, List.elem_cons, List.elem_nil, Nat.reduceBEq, Bool.or_false, Bool.false_or, Bool.or_true, Bool.true_or, Bool.or_self, ↓reduceIte, Bool.false_eq_true]; exact rfl) (by simp only [headS, headM, List.elem_cons, List.elem_nil, Nat.reduceBEq, Bool.or_false, Bool.false_or, Bool.or_true, Bool.true_or, Bool.or_self, ↓reduceIte, Bool.false_eq_true]; exact rfl) (fun _ => by simp only [List.cons_append, List.nil_append]; exact rfl) (fun _ => by simp only [List.cons_append, List.nil_append]; exact rfl) (by simp [weakS, gs, e0P]) (by simp [weakM, gm, e0P]) (⟨by omega, fun j p' h => absurd h (by omega)⟩) (fun i hi => ?_)
  obtain ⟨hil, hall⟩ := hi
  by_cases hi : i < ps.length
  rotate_left
  · have hl' : ¬ ((i : Int) < (ps.length : Int)) := by omega
    have hT : eachB M ps ts = true := by
      simp only [eachB, decide_eq_true_eq]
      intro p' hp'
      obtain ⟨j, hj⟩ := List.getElem?_of_mem hp'
      exact hall j p' (by have := (List.getElem?_eq_some_iff.1 hj).1; omega) hj
    ((repeat (first
      | with_reducible refine pwp_seqW ?_
      | with_reducible refine pwp_block ?_
      | ((first | with_reducible refine pwp_skip ?_ | with_reducible refine pwp_exit ?_); try refine wkI ?_)
      | (with_reducible refine pwp_ct ?_ ?_; · simp only [pz, ↓reduceIte, Nat.reduceEqDiff, tmz, hl', hT])
      | (with_reducible refine pwp_cf ?_ ?_; · simp only [pz, ↓reduceIte, Nat.reduceEqDiff, tmz, hl', hT])
      | (((first
        | with_reducible refine region_0k ?_
        | (with_reducible refine region_Dk (id := 8) 13 ?_ ?_; · kernel_rfl)
        ); intro ds hds; simp only [List.map] at hds; subst hds); refine reT (by simp only [pz, ↓reduceIte, Nat.reduceEqDiff, Nat.reduceAdd, Nat.reduceSub, Nat.reduceMul, Nat.reduceLeDiff, Nat.reduceBEq, Bool.false_eq_true, decide_true, decide_false, Int.reduceLE, Int.reduceToNat, Int.reduceLT, Int.reduceEq, eq_self, Nat.reduceShiftRight, Nat.reduceAnd, Nat.reduceBneDiff, tmz, hl', hT]; exact rfl) ?_; try refine wkI ?_)))
     refine pwp_ret (ret_ok ?_)
     simp [resOk, resA, resSlots, gs, tmz, hl', hT])
  have hl' : (i : Int) < (ps.length : Int) := by omega
  obtain ⟨p, hp⟩ : ∃ a, ps[i]? = some a := ⟨_, List.getElem?_eq_getElem hi⟩
  have hpm := List.mem_of_getElem? hp
  have hw1 := wrap1 (k := i) (by omega)
  have hnext : (p.op = -1 ∨ anyB M p ts = true) → i + 1 ≤ ps.length ∧ ∀ (j : Nat) p', j < i + 1 → ps[j]? = some p' → p'.op = -1 ∨ anyB M p' ts = true := fun h => ⟨by omega, fun j p' hj hp' => by
    by_cases e : j = i
    · subst e
      rw [hp] at hp'
      injection hp' with hp'
      subst hp'
      exact h
    · exact hall j p' (by omega) hp'⟩
  (repeat (first
    | with_reducible refine pwp_seqW ?_
    | with_reducible refine pwp_block ?_
    | ((first | with_reducible refine pwp_skip ?_ | with_reducible refine pwp_exit ?_); try refine wkI ?_)
    | (with_reducible refine pwp_ct ?_ ?_; · simp only [pz, ↓reduceIte, Nat.reduceEqDiff, tmz, hl', hp])
    | (with_reducible refine pwp_cf ?_ ?_; · simp only [pz, ↓reduceIte, Nat.reduceEqDiff, tmz, hl', hp])
    | (((first
      | with_reducible refine region_0k ?_
      | (with_reducible refine region_Dk (id := 8) 13 ?_ ?_; · kernel_rfl)
      ); intro ds hds; simp only [List.map] at hds; subst hds); refine reT (by simp only [pz, ↓reduceIte, Nat.reduceEqDiff, Nat.reduceAdd, Nat.reduceSub, Nat.reduceMul, Nat.reduceLeDiff, Nat.reduceBEq, Bool.false_eq_true, decide_true, decide_false, Int.reduceLE, Int.reduceToNat, Int.reduceLT, Int.reduceEq, eq_self, Nat.reduceShiftRight, Nat.reduceAnd, Nat.reduceBneDiff, tmz, hl', hp]; exact rfl) ?_; try refine wkI ?_)))
  refine pwp_loopU (ι := Nat) [8, 9, 25] [] (fun k => [(9, A.d (.one (.lit (.int .i64 k)))), (8, A.d (.one (.lit (.bool (decide (p.op = -1) || (ts.take k).any (M p))))))]) (fun k => []) (fun k => k ≤ ts.length) (fun k => ts.length - k) (0) (by simp only [headS, headM, List.elem_cons, List.elem_nil, Nat.reduceBEq, Bool.or_false, Bool.false_or, Bool.or_true, Bool.true_or, Bool.or_self, ↓reduceIte, Bool.false_eq_true]; exact rfl) (by simp only [headS, headM, List.elem_cons, List.elem_nil, Nat.reduceBEq, Bool.or_false, Bool.false_or, Bool.or_true, Bool.true_or, Bool.or_self, ↓reduceIte, Bool.false_eq_true]; exact rfl) (fun _ => by simp only [List.cons_append, List.nil_append]; exact rfl) (fun _ => by simp only [List.cons_append, List.nil_append]; exact rfl) (by simp [weakS, gs, tmz]) (by simp [weakM, gm, tmz]) (by omega) (fun k hk => ?_)
  by_cases hk' : k < ts.length
  rotate_left
  · have hk2 : ¬ ((k : Int) < (ts.length : Int)) := by omega
    have et : ts.take k = ts := List.take_of_length_le (by omega)
    have ea : ts.any (M p) = anyB M p ts := rfl
    rw [et, ea]
    cases hM : (decide (p.op = -1) || anyB M p ts) with
    | true =>
      have hq := hnext (by simpa using hM)
      ((repeat (first
        | with_reducible refine pwp_seqW ?_
        | with_reducible refine pwp_block ?_
        | ((first | with_reducible refine pwp_skip ?_ | with_reducible refine pwp_exit ?_); try refine wkI ?_)
        | (with_reducible refine pwp_ct ?_ ?_; · simp only [pz, ↓reduceIte, Nat.reduceEqDiff, hw1, tmz, hk2])
        | (with_reducible refine pwp_cf ?_ ?_; · simp only [pz, ↓reduceIte, Nat.reduceEqDiff, hw1, tmz, hk2])
        | (((first
          | with_reducible refine region_0k ?_
          | (with_reducible refine region_Dk (id := 8) 13 ?_ ?_; · kernel_rfl)
          ); intro ds hds; simp only [List.map] at hds; subst hds); refine reT (by simp only [pz, ↓reduceIte, Nat.reduceEqDiff, Nat.reduceAdd, Nat.reduceSub, Nat.reduceMul, Nat.reduceLeDiff, Nat.reduceBEq, Bool.false_eq_true, decide_true, decide_false, Int.reduceLE, Int.reduceToNat, Int.reduceLT, Int.reduceEq, eq_self, Nat.reduceShiftRight, Nat.reduceAnd, Nat.reduceBneDiff, hw1, tmz, hk2]; exact rfl) ?_; try refine wkI ?_)))
       exact ⟨i + 1, hq, by simp [weakS, gs, hw1, tmz, hk2], by simp [weakM, gm, hw1, tmz, hk2], by omega⟩)
    | false =>
      have hf := hno p hpm (by simpa using hM)
      ((repeat (first
        | with_reducible refine pwp_seqW ?_
        | with_reducible refine pwp_block ?_
        | ((first | with_reducible refine pwp_skip ?_ | with_reducible refine pwp_exit ?_); try refine wkI ?_)
        | (with_reducible refine pwp_ct ?_ ?_; · simp only [pz, ↓reduceIte, Nat.reduceEqDiff, tmz, hk2, hf])
        | (with_reducible refine pwp_cf ?_ ?_; · simp only [pz, ↓reduceIte, Nat.reduceEqDiff, tmz, hk2, hf])
        | (((first
          | with_reducible refine region_0k ?_
          | (with_reducible refine region_Dk (id := 8) 13 ?_ ?_; · kernel_rfl)
          ); intro ds hds; simp only [List.map] at hds; subst hds); refine reT (by simp only [pz, ↓reduceIte, Nat.reduceEqDiff, Nat.reduceAdd, Nat.reduceSub, Nat.reduceMul, Nat.reduceLeDiff, Nat.reduceBEq, Bool.false_eq_true, decide_true, decide_false, Int.reduceLE, Int.reduceToNat, Int.reduceLT, Int.reduceEq, eq_self, Nat.reduceShiftRight, Nat.reduceAnd, Nat.reduceBneDiff, tmz, hk2, hf]; exact rfl) ?_; try refine wkI ?_)))
       refine pwp_ret (ret_ok ?_)
       simp [resOk, resA, resSlots, gs, tmz, hk2, hf])
  have hk2 : (k : Int) < (ts.length : Int) := by omega
  obtain ⟨t, ht⟩ : ∃ a, ts[k]? = some a := ⟨_, List.getElem?_eq_getElem hk'⟩
  have hwk := wrap1 (k := k) (by omega)
  have hat := any_take (P := M p) ht
  (repeat (first
    | with_reducible refine pwp_seqW ?_
    | with_reducible refine pwp_block ?_
    | ((first | with_reducible refine pwp_skip ?_ | with_reducible refine pwp_exit ?_); try refine wkI ?_)
    | (with_reducible refine pwp_ct ?_ ?_; · simp only [pz, ↓reduceIte, Nat.reduceEqDiff, tmz, hk2])
    | (with_reducible refine pwp_cf ?_ ?_; · simp only [pz, ↓reduceIte, Nat.reduceEqDiff, tmz, hk2])
    | (((first
      | with_reducible refine region_0k ?_
      | (with_reducible refine region_Dk (id := 8) 13 ?_ ?_; · kernel_rfl)
      ); intro ds hds; simp only [List.map] at hds; subst hds); refine reT (by simp only [pz, ↓reduceIte, Nat.reduceEqDiff, Nat.reduceAdd, Nat.reduceSub, Nat.reduceMul, Nat.reduceLeDiff, Nat.reduceBEq, Bool.false_eq_true, decide_true, decide_false, Int.reduceLE, Int.reduceToNat, Int.reduceLT, Int.reduceEq, eq_self, Nat.reduceShiftRight, Nat.reduceAnd, Nat.reduceBneDiff, tmz, hk2]; exact rfl) ?_; try refine wkI ?_)))
  cases hM : (decide (p.op = -1) || (ts.take k).any (M p)) with
  | true =>
    have hq : (decide (p.op = -1) || (ts.take (k + 1)).any (M p)) = true := by rw [hat, ← Bool.or_assoc, hM]; rfl
    ((repeat (first
      | with_reducible refine pwp_seqW ?_
      | with_reducible refine pwp_block ?_
      | ((first | with_reducible refine pwp_skip ?_ | with_reducible refine pwp_exit ?_); try refine wkI ?_)
      | (with_reducible refine pwp_ct ?_ ?_; · simp only [pz, ↓reduceIte, Nat.reduceEqDiff, hwk, tmz, hq])
      | (with_reducible refine pwp_cf ?_ ?_; · simp only [pz, ↓reduceIte, Nat.reduceEqDiff, hwk, tmz, hq])
      | (((first
        | with_reducible refine region_0k ?_
        | (with_reducible refine region_Dk (id := 8) 13 ?_ ?_; · kernel_rfl)
        ); intro ds hds; simp only [List.map] at hds; subst hds); refine reT (by simp only [pz, ↓reduceIte, Nat.reduceEqDiff, Nat.reduceAdd, Nat.reduceSub, Nat.reduceMul, Nat.reduceLeDiff, Nat.reduceBEq, Bool.false_eq_true, decide_true, decide_false, Int.reduceLE, Int.reduceToNat, Int.reduceLT, Int.reduceEq, eq_self, Nat.reduceShiftRight, Nat.reduceAnd, Nat.reduceBneDiff, hwk, tmz, hq]; exact rfl) ?_; try refine wkI ?_)))
     exact ⟨k + 1, by omega, by simp [weakS, gs, hwk, tmz, hq], by simp [weakM, gm, hwk, tmz, hq], by omega⟩)
  | false =>
    have hq : (decide (p.op = -1) || (ts.take (k + 1)).any (M p)) = M p t := by rw [hat, ← Bool.or_assoc, hM]; rfl
    ((first
      | with_reducible refine region_0k ?_
      | (with_reducible refine region_Dk (id := 8) 13 ?_ ?_; · kernel_rfl)
      ); intro ds hds; simp only [List.map] at hds; subst hds)
    (refine rcT (by simp only [pz, ↓reduceIte, Nat.reduceEqDiff, Nat.reduceAdd, Nat.reduceSub, Nat.reduceMul, Nat.reduceLeDiff, Nat.reduceBEq, Bool.false_eq_true, decide_true, decide_false, Int.reduceLE, Int.reduceToNat, Int.reduceLT, Int.reduceEq, eq_self, Nat.reduceShiftRight, Nat.reduceAnd, Nat.reduceBneDiff, tmz, hp, ht]; exact rfl) (h p hpm t (List.mem_of_getElem? ht)) (by simp only [setA, retA]; exact rfl) ?_)
    (refine reT (by simp only [pz, ↓reduceIte, Nat.reduceEqDiff, Nat.reduceAdd, Nat.reduceSub, Nat.reduceMul, Nat.reduceLeDiff, Nat.reduceBEq, Bool.false_eq_true, decide_true, decide_false, Int.reduceLE, Int.reduceToNat, Int.reduceLT, Int.reduceEq, eq_self, Nat.reduceShiftRight, Nat.reduceAnd, Nat.reduceBneDiff, tmz]; exact rfl) ?_; first | (change pwp _ _ _ _ _) | refine wkI ?_ | skip)
    ((repeat (first
      | with_reducible refine pwp_seqW ?_
      | with_reducible refine pwp_block ?_
      | ((first | with_reducible refine pwp_skip ?_ | with_reducible refine pwp_exit ?_); try refine wkI ?_)
      | (with_reducible refine pwp_ct ?_ ?_; · simp only [pz, ↓reduceIte, Nat.reduceEqDiff, hwk, tmz, hq])
      | (with_reducible refine pwp_cf ?_ ?_; · simp only [pz, ↓reduceIte, Nat.reduceEqDiff, hwk, tmz, hq])
      | (((first
        | with_reducible refine region_0k ?_
        | (with_reducible refine region_Dk (id := 8) 13 ?_ ?_; · kernel_rfl)
        ); intro ds hds; simp only [List.map] at hds; subst hds); refine reT (by simp only [pz, ↓reduceIte, Nat.reduceEqDiff, Nat.reduceAdd, Nat.reduceSub, Nat.reduceMul, Nat.reduceLeDiff, Nat.reduceBEq, Bool.false_eq_true, decide_true, decide_false, Int.reduceLE, Int.reduceToNat, Int.reduceLT, Int.reduceEq, eq_self, Nat.reduceShiftRight, Nat.reduceAnd, Nat.reduceBneDiff, hwk, tmz, hq]; exact rfl) ?_; try refine wkI ?_)))
     exact ⟨k + 1, by omega, by simp [weakS, gs, hwk, tmz, hq], by simp [weakM, gm, hwk, tmz, hq], by omega⟩)
set_option maxHeartbeats 40000000 in
set_option maxRecDepth 100000 in
theorem con_l19May (hok : okSgn g) (hg : SgnOk g) : ∀ (n : Nat) (p t : Tm), sizeTm p < n → FormOk g p → FormOk g t → sizeTm p ≤ big → sizeTm t ≤ big → mayS g (may g n) p t := by
  intro n
  induction n with
  | zero => intro p t h; omega
  | succ n ih =>
    intro p t hn hfp hft hbp hbt
    have hsp := sizeTm_eq p
    have hst := sizeTm_eq t
    have hlp := sizeTms_len p.args
    have hlt := sizeTms_len t.args
    have IH : ∀ p' ∈ p.args, ∀ t' ∈ t.args, mayS g (may g n) p' t' := fun p' hp' t' ht' => by
      have h1 := sizeTms_mem hp'
      have h2 := sizeTms_mem ht'
      exact ih p' t' (by omega) (hfp.arg hp') (hft.arg ht') (by omega) (by omega)
    show Con e0 _ _ [.one (.lit (.bool (mayB g (may g n) p t)))]
    generalize may g n = M at IH ⊢
    have hbp' := hbp
    have hbt' := hbt
    unfold big at hbp' hbt'
    have cK1 := con_l6Kind hok hg hfp.node
    have cK2 := con_l6Kind hok hg hft.node
    rw [encSgn] at cK1 cK2
    refine con_of_pwp e0_ok 151116303912719496512767 Try.func65 rfl (by kernel_rfl) (by kernel_rfl) rfl rfl ?_
    rcases hfp.node with hv | ⟨o, d, hA⟩
    · have h1 := hv.1
      have e : mayB g M p t = decide (kindTm g p = kindTm g t) := by simp [mayB, h1]
      rw [e]
      (repeat (first
        | with_reducible refine pwp_seqW ?_
        | with_reducible refine pwp_block ?_
        | ((first | with_reducible refine pwp_skip ?_ | with_reducible refine pwp_exit ?_); try refine wkI ?_)
        | (with_reducible refine pwp_ct ?_ ?_; · simp only [pz, ↓reduceIte, Nat.reduceEqDiff, tmz, h1, encSgn])
        | (with_reducible refine pwp_cf ?_ ?_; · simp only [pz, ↓reduceIte, Nat.reduceEqDiff, tmz, h1, encSgn])
        | (((first
          | with_reducible refine region_0k ?_
          | (with_reducible refine region_Dk (id := 13) 21 ?_ ?_; · kernel_rfl)
          | (with_reducible refine region_Dk (id := 2) 7 ?_ ?_; · kernel_rfl)
          ); intro ds hds; simp only [List.map] at hds; subst hds); refine reT (by simp only [pz, ↓reduceIte, Nat.reduceEqDiff, Nat.reduceAdd, Nat.reduceSub, Nat.reduceMul, Nat.reduceLeDiff, Nat.reduceBEq, Bool.false_eq_true, decide_true, decide_false, Int.reduceLE, Int.reduceToNat, Int.reduceLT, Int.reduceEq, eq_self, Nat.reduceShiftRight, Nat.reduceAnd, Nat.reduceBneDiff, tmz, h1, encSgn]; exact rfl) ?_; try refine wkI ?_)))
      ((first
        | with_reducible refine region_0k ?_
        | (with_reducible refine region_Dk (id := 13) 21 ?_ ?_; · kernel_rfl)
        | (with_reducible refine region_Dk (id := 2) 7 ?_ ?_; · kernel_rfl)
        ); intro ds hds; simp only [List.map] at hds; subst hds)
      (refine rcT (by simp only [pz, ↓reduceIte, Nat.reduceEqDiff, Nat.reduceAdd, Nat.reduceSub, Nat.reduceMul, Nat.reduceLeDiff, Nat.reduceBEq, Bool.false_eq_true, decide_true, decide_false, Int.reduceLE, Int.reduceToNat, Int.reduceLT, Int.reduceEq, eq_self, Nat.reduceShiftRight, Nat.reduceAnd, Nat.reduceBneDiff, tmz]; exact rfl) (cK1) (by simp only [setA, retA]; exact rfl) ?_)
      (refine rcT (by simp only [pz, ↓reduceIte, Nat.reduceEqDiff, Nat.reduceAdd, Nat.reduceSub, Nat.reduceMul, Nat.reduceLeDiff, Nat.reduceBEq, Bool.false_eq_true, decide_true, decide_false, Int.reduceLE, Int.reduceToNat, Int.reduceLT, Int.reduceEq, eq_self, Nat.reduceShiftRight, Nat.reduceAnd, Nat.reduceBneDiff, tmz]; exact rfl) (cK2) (by simp only [setA, retA]; exact rfl) ?_)
      (refine reT (by simp only [pz, ↓reduceIte, Nat.reduceEqDiff, Nat.reduceAdd, Nat.reduceSub, Nat.reduceMul, Nat.reduceLeDiff, Nat.reduceBEq, Bool.false_eq_true, decide_true, decide_false, Int.reduceLE, Int.reduceToNat, Int.reduceLT, Int.reduceEq, eq_self, Nat.reduceShiftRight, Nat.reduceAnd, Nat.reduceBneDiff, tmz]; exact rfl) ?_; first | (change pwp _ _ _ _ _) | refine wkI ?_ | skip)
      ((repeat (first
        | with_reducible refine pwp_seqW ?_
        | with_reducible refine pwp_block ?_
        | ((first | with_reducible refine pwp_skip ?_ | with_reducible refine pwp_exit ?_); try refine wkI ?_)
        | (with_reducible refine pwp_ct ?_ ?_; · simp only [pz, ↓reduceIte, Nat.reduceEqDiff, tmz])
        | (with_reducible refine pwp_cf ?_ ?_; · simp only [pz, ↓reduceIte, Nat.reduceEqDiff, tmz])
        | (((first
          | with_reducible refine region_0k ?_
          | (with_reducible refine region_Dk (id := 13) 21 ?_ ?_; · kernel_rfl)
          | (with_reducible refine region_Dk (id := 2) 7 ?_ ?_; · kernel_rfl)
          ); intro ds hds; simp only [List.map] at hds; subst hds); refine reT (by simp only [pz, ↓reduceIte, Nat.reduceEqDiff, Nat.reduceAdd, Nat.reduceSub, Nat.reduceMul, Nat.reduceLeDiff, Nat.reduceBEq, Bool.false_eq_true, decide_true, decide_false, Int.reduceLE, Int.reduceToNat, Int.reduceLT, Int.reduceEq, eq_self, Nat.reduceShiftRight, Nat.reduceAnd, Nat.reduceBneDiff, tmz]; exact rfl) ?_; try refine wkI ?_)))
       refine pwp_ret (ret_ok ?_)
       simp [resOk, resA, resSlots, gs, tmz])
    have h0 := hA.lo
    have h1 := hA.op
    have ho := hA.at'
    have hd := hA.fst
    have hax := hg.axs o (List.mem_of_getElem? ho)
    have hlo := hax.lo
    by_cases hu : o.unit = 0
    rotate_left
    · have e : mayB g M p t = true := by simp [mayB, h1, ho, hu]
      have hu' : 0 < o.unit := by omega
      ((repeat (first
        | with_reducible refine pwp_seqW ?_
        | with_reducible refine pwp_block ?_
        | ((first | with_reducible refine pwp_skip ?_ | with_reducible refine pwp_exit ?_); try refine wkI ?_)
        | (with_reducible refine pwp_ct ?_ ?_; · simp only [pz, ↓reduceIte, Nat.reduceEqDiff, tmz, h1, encSgn, h0, ho, encOpr, hu', e])
        | (with_reducible refine pwp_cf ?_ ?_; · simp only [pz, ↓reduceIte, Nat.reduceEqDiff, tmz, h1, encSgn, h0, ho, encOpr, hu', e])
        | (((first
          | with_reducible refine region_0k ?_
          | (with_reducible refine region_Dk (id := 13) 21 ?_ ?_; · kernel_rfl)
          | (with_reducible refine region_Dk (id := 2) 7 ?_ ?_; · kernel_rfl)
          ); intro ds hds; simp only [List.map] at hds; subst hds); refine reT (by simp only [pz, ↓reduceIte, Nat.reduceEqDiff, Nat.reduceAdd, Nat.reduceSub, Nat.reduceMul, Nat.reduceLeDiff, Nat.reduceBEq, Bool.false_eq_true, decide_true, decide_false, Int.reduceLE, Int.reduceToNat, Int.reduceLT, Int.reduceEq, eq_self, Nat.reduceShiftRight, Nat.reduceAnd, Nat.reduceBneDiff, tmz, h1, encSgn, h0, ho, encOpr, hu', e]; exact rfl) ?_; try refine wkI ?_)))
       refine pwp_ret (ret_ok ?_)
       simp [resOk, resA, resSlots, gs, tmz, h1, encSgn, h0, ho, encOpr, hu', e])
    have hu' : ¬ (0 < o.unit) := by omega
    by_cases hop : p.op = t.op
    rotate_left
    · have e : mayB g M p t = false := by simp [mayB, h1, ho, hu, hop]
      ((repeat (first
        | with_reducible refine pwp_seqW ?_
        | with_reducible refine pwp_block ?_
        | ((first | with_reducible refine pwp_skip ?_ | with_reducible refine pwp_exit ?_); try refine wkI ?_)
        | (with_reducible refine pwp_ct ?_ ?_; · simp only [pz, ↓reduceIte, Nat.reduceEqDiff, tmz, h1, encSgn, h0, ho, encOpr, hu', hop, e])
        | (with_reducible refine pwp_cf ?_ ?_; · simp only [pz, ↓reduceIte, Nat.reduceEqDiff, tmz, h1, encSgn, h0, ho, encOpr, hu', hop, e])
        | (((first
          | with_reducible refine region_0k ?_
          | (with_reducible refine region_Dk (id := 13) 21 ?_ ?_; · kernel_rfl)
          | (with_reducible refine region_Dk (id := 2) 7 ?_ ?_; · kernel_rfl)
          ); intro ds hds; simp only [List.map] at hds; subst hds); refine reT (by simp only [pz, ↓reduceIte, Nat.reduceEqDiff, Nat.reduceAdd, Nat.reduceSub, Nat.reduceMul, Nat.reduceLeDiff, Nat.reduceBEq, Bool.false_eq_true, decide_true, decide_false, Int.reduceLE, Int.reduceToNat, Int.reduceLT, Int.reduceEq, eq_self, Nat.reduceShiftRight, Nat.reduceAnd, Nat.reduceBneDiff, tmz, h1, encSgn, h0, ho, encOpr, hu', hop, e]; exact rfl) ?_; try refine wkI ?_)))
       refine pwp_ret (ret_ok ?_)
       simp [resOk, resA, resSlots, gs, tmz, h1, encSgn, h0, ho, encOpr, hu', hop, e])
    have hopT : (p.op = t.op) = True := eq_true hop
    have hAt : AppOk g t o d := by
      obtain ⟨o', d', h⟩ := hft.node.app (by rw [← hop]; exact h1)
      have e1 := h.at'
      rw [← hop, ho] at e1
      injection e1 with e1
      subst e1
      have e2 := h.fst
      rw [hd] at e2
      injection e2 with e2
      subst e2
      exact h
    cases ha : o.assoc with
    | true =>
      by_cases hle : p.args.length ≤ t.args.length
      rotate_left
      · have e : mayB g M p t = false := by simp [mayB, h1, ho, hu, hopT, ha, hle]
        have hle' : ¬ ((p.args.length : Int) ≤ (t.args.length : Int)) := by omega
        rw [e]
        cases hc : o.comm with
        | true =>
          ((repeat (first
            | with_reducible refine pwp_seqW ?_
            | with_reducible refine pwp_block ?_
            | ((first | with_reducible refine pwp_skip ?_ | with_reducible refine pwp_exit ?_); try refine wkI ?_)
            | (with_reducible refine pwp_ct ?_ ?_; · simp only [pz, ↓reduceIte, Nat.reduceEqDiff, tmz, h1, encSgn, h0, ho, encOpr, hu', hopT, ha, hle', hc])
            | (with_reducible refine pwp_cf ?_ ?_; · simp only [pz, ↓reduceIte, Nat.reduceEqDiff, tmz, h1, encSgn, h0, ho, encOpr, hu', hopT, ha, hle', hc])
            | (((first
              | with_reducible refine region_0k ?_
              | (with_reducible refine region_Dk (id := 13) 21 ?_ ?_; · kernel_rfl)
              | (with_reducible refine region_Dk (id := 2) 7 ?_ ?_; · kernel_rfl)
              ); intro ds hds; simp only [List.map] at hds; subst hds); refine reT (by simp only [pz, ↓reduceIte, Nat.reduceEqDiff, Nat.reduceAdd, Nat.reduceSub, Nat.reduceMul, Nat.reduceLeDiff, Nat.reduceBEq, Bool.false_eq_true, decide_true, decide_false, Int.reduceLE, Int.reduceToNat, Int.reduceLT, Int.reduceEq, eq_self, Nat.reduceShiftRight, Nat.reduceAnd, Nat.reduceBneDiff, tmz, h1, encSgn, h0, ho, encOpr, hu', hopT, ha, hle', hc]; exact rfl) ?_; try refine wkI ?_)))
           refine pwp_ret (ret_ok ?_)
           simp [resOk, resA, resSlots, gs, tmz, h1, encSgn, h0, ho, encOpr, hu', hopT, ha, hle', hc])
        | false =>
          ((repeat (first
            | with_reducible refine pwp_seqW ?_
            | with_reducible refine pwp_block ?_
            | ((first | with_reducible refine pwp_skip ?_ | with_reducible refine pwp_exit ?_); try refine wkI ?_)
            | (with_reducible refine pwp_ct ?_ ?_; · simp only [pz, ↓reduceIte, Nat.reduceEqDiff, tmz, h1, encSgn, h0, ho, encOpr, hu', hopT, ha, hle', hc])
            | (with_reducible refine pwp_cf ?_ ?_; · simp only [pz, ↓reduceIte, Nat.reduceEqDiff, tmz, h1, encSgn, h0, ho, encOpr, hu', hopT, ha, hle', hc])
            | (((first
              | with_reducible refine region_0k ?_
              | (with_reducible refine region_Dk (id := 13) 21 ?_ ?_; · kernel_rfl)
              | (with_reducible refine region_Dk (id := 2) 7 ?_ ?_; · kernel_rfl)
              ); intro ds hds; simp only [List.map] at hds; subst hds); refine reT (by simp only [pz, ↓reduceIte, Nat.reduceEqDiff, Nat.reduceAdd, Nat.reduceSub, Nat.reduceMul, Nat.reduceLeDiff, Nat.reduceBEq, Bool.false_eq_true, decide_true, decide_false, Int.reduceLE, Int.reduceToNat, Int.reduceLT, Int.reduceEq, eq_self, Nat.reduceShiftRight, Nat.reduceAnd, Nat.reduceBneDiff, tmz, h1, encSgn, h0, ho, encOpr, hu', hopT, ha, hle', hc]; exact rfl) ?_; try refine wkI ?_)))
           refine pwp_ret (ret_ok ?_)
           simp [resOk, resA, resSlots, gs, tmz, h1, encSgn, h0, ho, encOpr, hu', hopT, ha, hle', hc])
      have hle' : ((p.args.length : Int) ≤ (t.args.length : Int)) := by omega
      cases hc : o.comm with
      | false =>
        have e : mayB g M p t = followB M p.args t.args := by simp [mayB, h1, ho, hu, hopT, ha, hle, hc]
        rw [e]
        have c := con_l19Order (by omega) (by omega) IH
        rw [encSgn] at c
        (repeat (first
          | with_reducible refine pwp_seqW ?_
          | with_reducible refine pwp_block ?_
          | ((first | with_reducible refine pwp_skip ?_ | with_reducible refine pwp_exit ?_); try refine wkI ?_)
          | (with_reducible refine pwp_ct ?_ ?_; · simp only [pz, ↓reduceIte, Nat.reduceEqDiff, tmz, h1, encSgn, h0, ho, encOpr, hu', hopT, ha, hc])
          | (with_reducible refine pwp_cf ?_ ?_; · simp only [pz, ↓reduceIte, Nat.reduceEqDiff, tmz, h1, encSgn, h0, ho, encOpr, hu', hopT, ha, hc])
          | (((first
            | with_reducible refine region_0k ?_
            | (with_reducible refine region_Dk (id := 13) 21 ?_ ?_; · kernel_rfl)
            | (with_reducible refine region_Dk (id := 2) 7 ?_ ?_; · kernel_rfl)
            ); intro ds hds; simp only [List.map] at hds; subst hds); refine reT (by simp only [pz, ↓reduceIte, Nat.reduceEqDiff, Nat.reduceAdd, Nat.reduceSub, Nat.reduceMul, Nat.reduceLeDiff, Nat.reduceBEq, Bool.false_eq_true, decide_true, decide_false, Int.reduceLE, Int.reduceToNat, Int.reduceLT, Int.reduceEq, eq_self, Nat.reduceShiftRight, Nat.reduceAnd, Nat.reduceBneDiff, tmz, h1, encSgn, h0, ho, encOpr, hu', hopT, ha, hc]; exact rfl) ?_; try refine wkI ?_)))
        ((first
          | with_reducible refine region_0k ?_
          | (with_reducible refine region_Dk (id := 13) 21 ?_ ?_; · kernel_rfl)
          | (with_reducible refine region_Dk (id := 2) 7 ?_ ?_; · kernel_rfl)
          ); intro ds hds; simp only [List.map] at hds; subst hds)
        (refine rcT (by simp only [pz, ↓reduceIte, Nat.reduceEqDiff, Nat.reduceAdd, Nat.reduceSub, Nat.reduceMul, Nat.reduceLeDiff, Nat.reduceBEq, Bool.false_eq_true, decide_true, decide_false, Int.reduceLE, Int.reduceToNat, Int.reduceLT, Int.reduceEq, eq_self, Nat.reduceShiftRight, Nat.reduceAnd, Nat.reduceBneDiff, tmz, hle']; exact rfl) (c) (by simp only [setA, retA]; exact rfl) ?_)
        (refine reT (by simp only [pz, ↓reduceIte, Nat.reduceEqDiff, Nat.reduceAdd, Nat.reduceSub, Nat.reduceMul, Nat.reduceLeDiff, Nat.reduceBEq, Bool.false_eq_true, decide_true, decide_false, Int.reduceLE, Int.reduceToNat, Int.reduceLT, Int.reduceEq, eq_self, Nat.reduceShiftRight, Nat.reduceAnd, Nat.reduceBneDiff, tmz]; exact rfl) ?_; first | (change pwp _ _ _ _ _) | refine wkI ?_ | skip)
        ((repeat (first
          | with_reducible refine pwp_seqW ?_
          | with_reducible refine pwp_block ?_
          | ((first | with_reducible refine pwp_skip ?_ | with_reducible refine pwp_exit ?_); try refine wkI ?_)
          | (with_reducible refine pwp_ct ?_ ?_; · simp only [pz, ↓reduceIte, Nat.reduceEqDiff, tmz])
          | (with_reducible refine pwp_cf ?_ ?_; · simp only [pz, ↓reduceIte, Nat.reduceEqDiff, tmz])
          | (((first
            | with_reducible refine region_0k ?_
            | (with_reducible refine region_Dk (id := 13) 21 ?_ ?_; · kernel_rfl)
            | (with_reducible refine region_Dk (id := 2) 7 ?_ ?_; · kernel_rfl)
            ); intro ds hds; simp only [List.map] at hds; subst hds); refine reT (by simp only [pz, ↓reduceIte, Nat.reduceEqDiff, Nat.reduceAdd, Nat.reduceSub, Nat.reduceMul, Nat.reduceLeDiff, Nat.reduceBEq, Bool.false_eq_true, decide_true, decide_false, Int.reduceLE, Int.reduceToNat, Int.reduceLT, Int.reduceEq, eq_self, Nat.reduceShiftRight, Nat.reduceAnd, Nat.reduceBneDiff, tmz]; exact rfl) ?_; try refine wkI ?_)))
         refine pwp_ret (ret_ok ?_)
         simp [resOk, resA, resSlots, gs, tmz])
      | true =>
        have e : mayB g M p t = eachB M p.args t.args := by simp [mayB, h1, ho, hu, hopT, ha, hle, hc]
        rw [e]
        have c := con_l19Each (by omega) (by omega) IH
        rw [encSgn] at c
        (repeat (first
          | with_reducible refine pwp_seqW ?_
          | with_reducible refine pwp_block ?_
          | ((first | with_reducible refine pwp_skip ?_ | with_reducible refine pwp_exit ?_); try refine wkI ?_)
          | (with_reducible refine pwp_ct ?_ ?_; · simp only [pz, ↓reduceIte, Nat.reduceEqDiff, tmz, h1, encSgn, h0, ho, encOpr, hu', hopT, ha, hc])
          | (with_reducible refine pwp_cf ?_ ?_; · simp only [pz, ↓reduceIte, Nat.reduceEqDiff, tmz, h1, encSgn, h0, ho, encOpr, hu', hopT, ha, hc])
          | (((first
            | with_reducible refine region_0k ?_
            | (with_reducible refine region_Dk (id := 13) 21 ?_ ?_; · kernel_rfl)
            | (with_reducible refine region_Dk (id := 2) 7 ?_ ?_; · kernel_rfl)
            ); intro ds hds; simp only [List.map] at hds; subst hds); refine reT (by simp only [pz, ↓reduceIte, Nat.reduceEqDiff, Nat.reduceAdd, Nat.reduceSub, Nat.reduceMul, Nat.reduceLeDiff, Nat.reduceBEq, Bool.false_eq_true, decide_true, decide_false, Int.reduceLE, Int.reduceToNat, Int.reduceLT, Int.reduceEq, eq_self, Nat.reduceShiftRight, Nat.reduceAnd, Nat.reduceBneDiff, tmz, h1, encSgn, h0, ho, encOpr, hu', hopT, ha, hc]; exact rfl) ?_; try refine wkI ?_)))
        ((first
          | with_reducible refine region_0k ?_
          | (with_reducible refine region_Dk (id := 13) 21 ?_ ?_; · kernel_rfl)
          | (with_reducible refine region_Dk (id := 2) 7 ?_ ?_; · kernel_rfl)
          ); intro ds hds; simp only [List.map] at hds; subst hds)
        (refine rcT (by simp only [pz, ↓reduceIte, Nat.reduceEqDiff, Nat.reduceAdd, Nat.reduceSub, Nat.reduceMul, Nat.reduceLeDiff, Nat.reduceBEq, Bool.false_eq_true, decide_true, decide_false, Int.reduceLE, Int.reduceToNat, Int.reduceLT, Int.reduceEq, eq_self, Nat.reduceShiftRight, Nat.reduceAnd, Nat.reduceBneDiff, tmz, hle']; exact rfl) (c) (by simp only [setA, retA]; exact rfl) ?_)
        (refine reT (by simp only [pz, ↓reduceIte, Nat.reduceEqDiff, Nat.reduceAdd, Nat.reduceSub, Nat.reduceMul, Nat.reduceLeDiff, Nat.reduceBEq, Bool.false_eq_true, decide_true, decide_false, Int.reduceLE, Int.reduceToNat, Int.reduceLT, Int.reduceEq, eq_self, Nat.reduceShiftRight, Nat.reduceAnd, Nat.reduceBneDiff, tmz]; exact rfl) ?_; first | (change pwp _ _ _ _ _) | refine wkI ?_ | skip)
        ((repeat (first
          | with_reducible refine pwp_seqW ?_
          | with_reducible refine pwp_block ?_
          | ((first | with_reducible refine pwp_skip ?_ | with_reducible refine pwp_exit ?_); try refine wkI ?_)
          | (with_reducible refine pwp_ct ?_ ?_; · simp only [pz, ↓reduceIte, Nat.reduceEqDiff, tmz])
          | (with_reducible refine pwp_cf ?_ ?_; · simp only [pz, ↓reduceIte, Nat.reduceEqDiff, tmz])
          | (((first
            | with_reducible refine region_0k ?_
            | (with_reducible refine region_Dk (id := 13) 21 ?_ ?_; · kernel_rfl)
            | (with_reducible refine region_Dk (id := 2) 7 ?_ ?_; · kernel_rfl)
            ); intro ds hds; simp only [List.map] at hds; subst hds); refine reT (by simp only [pz, ↓reduceIte, Nat.reduceEqDiff, Nat.reduceAdd, Nat.reduceSub, Nat.reduceMul, Nat.reduceLeDiff, Nat.reduceBEq, Bool.false_eq_true, decide_true, decide_false, Int.reduceLE, Int.reduceToNat, Int.reduceLT, Int.reduceEq, eq_self, Nat.reduceShiftRight, Nat.reduceAnd, Nat.reduceBneDiff, tmz]; exact rfl) ?_; try refine wkI ?_)))
         refine pwp_ret (ret_ok ?_)
         simp [resOk, resA, resSlots, gs, tmz])
    | false =>
      have hln : p.args.length = t.args.length := by rw [hA.nas ha, hAt.nas ha]
      have c := con_l19All (g := g) (M := M) (ps := p.args) (ts := t.args) (by omega) (by omega) IH
      rw [encSgn] at c
      cases hc : o.comm with
      | false =>
        have e : mayB g M p t = allB M p.args t.args := by simp [mayB, h1, ho, hu, hopT, ha, hc]
        rw [e]
        (repeat (first
          | with_reducible refine pwp_seqW ?_
          | with_reducible refine pwp_block ?_
          | ((first | with_reducible refine pwp_skip ?_ | with_reducible refine pwp_exit ?_); try refine wkI ?_)
          | (with_reducible refine pwp_ct ?_ ?_; · simp only [pz, ↓reduceIte, Nat.reduceEqDiff, tmz, h1, encSgn, h0, ho, encOpr, hu', hopT, ha, hc])
          | (with_reducible refine pwp_cf ?_ ?_; · simp only [pz, ↓reduceIte, Nat.reduceEqDiff, tmz, h1, encSgn, h0, ho, encOpr, hu', hopT, ha, hc])
          | (((first
            | with_reducible refine region_0k ?_
            | (with_reducible refine region_Dk (id := 13) 21 ?_ ?_; · kernel_rfl)
            | (with_reducible refine region_Dk (id := 2) 7 ?_ ?_; · kernel_rfl)
            ); intro ds hds; simp only [List.map] at hds; subst hds); refine reT (by simp only [pz, ↓reduceIte, Nat.reduceEqDiff, Nat.reduceAdd, Nat.reduceSub, Nat.reduceMul, Nat.reduceLeDiff, Nat.reduceBEq, Bool.false_eq_true, decide_true, decide_false, Int.reduceLE, Int.reduceToNat, Int.reduceLT, Int.reduceEq, eq_self, Nat.reduceShiftRight, Nat.reduceAnd, Nat.reduceBneDiff, tmz, h1, encSgn, h0, ho, encOpr, hu', hopT, ha, hc]; exact rfl) ?_; try refine wkI ?_)))
        ((first
          | with_reducible refine region_0k ?_
          | (with_reducible refine region_Dk (id := 13) 21 ?_ ?_; · kernel_rfl)
          | (with_reducible refine region_Dk (id := 2) 7 ?_ ?_; · kernel_rfl)
          ); intro ds hds; simp only [List.map] at hds; subst hds)
        (refine rcT (by simp only [pz, ↓reduceIte, Nat.reduceEqDiff, Nat.reduceAdd, Nat.reduceSub, Nat.reduceMul, Nat.reduceLeDiff, Nat.reduceBEq, Bool.false_eq_true, decide_true, decide_false, Int.reduceLE, Int.reduceToNat, Int.reduceLT, Int.reduceEq, eq_self, Nat.reduceShiftRight, Nat.reduceAnd, Nat.reduceBneDiff, tmz]; exact rfl) (c) (by simp only [setA, retA]; exact rfl) ?_)
        (refine reT (by simp only [pz, ↓reduceIte, Nat.reduceEqDiff, Nat.reduceAdd, Nat.reduceSub, Nat.reduceMul, Nat.reduceLeDiff, Nat.reduceBEq, Bool.false_eq_true, decide_true, decide_false, Int.reduceLE, Int.reduceToNat, Int.reduceLT, Int.reduceEq, eq_self, Nat.reduceShiftRight, Nat.reduceAnd, Nat.reduceBneDiff, tmz]; exact rfl) ?_; first | (change pwp _ _ _ _ _) | refine wkI ?_ | skip)
        ((repeat (first
          | with_reducible refine pwp_seqW ?_
          | with_reducible refine pwp_block ?_
          | ((first | with_reducible refine pwp_skip ?_ | with_reducible refine pwp_exit ?_); try refine wkI ?_)
          | (with_reducible refine pwp_ct ?_ ?_; · simp only [pz, ↓reduceIte, Nat.reduceEqDiff, tmz])
          | (with_reducible refine pwp_cf ?_ ?_; · simp only [pz, ↓reduceIte, Nat.reduceEqDiff, tmz])
          | (((first
            | with_reducible refine region_0k ?_
            | (with_reducible refine region_Dk (id := 13) 21 ?_ ?_; · kernel_rfl)
            | (with_reducible refine region_Dk (id := 2) 7 ?_ ?_; · kernel_rfl)
            ); intro ds hds; simp only [List.map] at hds; subst hds); refine reT (by simp only [pz, ↓reduceIte, Nat.reduceEqDiff, Nat.reduceAdd, Nat.reduceSub, Nat.reduceMul, Nat.reduceLeDiff, Nat.reduceBEq, Bool.false_eq_true, decide_true, decide_false, Int.reduceLE, Int.reduceToNat, Int.reduceLT, Int.reduceEq, eq_self, Nat.reduceShiftRight, Nat.reduceAnd, Nat.reduceBneDiff, tmz]; exact rfl) ?_; try refine wkI ?_)))
         refine pwp_ret (ret_ok ?_)
         simp [resOk, resA, resSlots, gs, tmz])
      | true =>
        have h2 : d.args.length = 2 := (hax.two (.inr (.inl hc)) d hd).1
        have hl2 : t.args.length = 2 := by rw [hAt.nas ha, h2]
        obtain ⟨a0, ha0⟩ : ∃ a, t.args[0]? = some a := ⟨_, List.getElem?_eq_getElem (by omega)⟩
        obtain ⟨a1, ha1⟩ : ∃ a, t.args[1]? = some a := ⟨_, List.getElem?_eq_getElem (by omega)⟩
        have e : mayB g M p t = (allB M p.args t.args || allB M p.args [a1, a0]) := by simp [mayB, h1, ho, hu, hopT, ha, hc, swap2_eq hl2 ha0 ha1]
        rw [e]
        have c2 := con_clip3 (con_l19All (g := g) (M := M) (ps := p.args) (ts := [a1, a0]) (by simp; omega) (by simp [big]) (fun p' hp' t' ht' => IH p' hp' t' (by
          simp only [List.mem_cons, List.not_mem_nil, or_false] at ht'
          rcases ht' with rfl | rfl
          · exact List.mem_of_getElem? ha1
          · exact List.mem_of_getElem? ha0)))
        rw [encSgn] at c2
        simp only [encTms] at c2
        (repeat (first
          | with_reducible refine pwp_seqW ?_
          | with_reducible refine pwp_block ?_
          | ((first | with_reducible refine pwp_skip ?_ | with_reducible refine pwp_exit ?_); try refine wkI ?_)
          | (with_reducible refine pwp_ct ?_ ?_; · simp only [pz, ↓reduceIte, Nat.reduceEqDiff, tmz, h1, encSgn, h0, ho, encOpr, hu', hopT, ha, hc])
          | (with_reducible refine pwp_cf ?_ ?_; · simp only [pz, ↓reduceIte, Nat.reduceEqDiff, tmz, h1, encSgn, h0, ho, encOpr, hu', hopT, ha, hc])
          | (((first
            | with_reducible refine region_0k ?_
            | (with_reducible refine region_Dk (id := 13) 21 ?_ ?_; · kernel_rfl)
            | (with_reducible refine region_Dk (id := 2) 7 ?_ ?_; · kernel_rfl)
            ); intro ds hds; simp only [List.map] at hds; subst hds); refine reT (by simp only [pz, ↓reduceIte, Nat.reduceEqDiff, Nat.reduceAdd, Nat.reduceSub, Nat.reduceMul, Nat.reduceLeDiff, Nat.reduceBEq, Bool.false_eq_true, decide_true, decide_false, Int.reduceLE, Int.reduceToNat, Int.reduceLT, Int.reduceEq, eq_self, Nat.reduceShiftRight, Nat.reduceAnd, Nat.reduceBneDiff, tmz, h1, encSgn, h0, ho, encOpr, hu', hopT, ha, hc]; exact rfl) ?_; try refine wkI ?_)))
        ((first
          | with_reducible refine region_0k ?_
          | (with_reducible refine region_Dk (id := 13) 21 ?_ ?_; · kernel_rfl)
          | (with_reducible refine region_Dk (id := 2) 7 ?_ ?_; · kernel_rfl)
          ); intro ds hds; simp only [List.map] at hds; subst hds)
        (refine rcT (by simp only [pz, ↓reduceIte, Nat.reduceEqDiff, Nat.reduceAdd, Nat.reduceSub, Nat.reduceMul, Nat.reduceLeDiff, Nat.reduceBEq, Bool.false_eq_true, decide_true, decide_false, Int.reduceLE, Int.reduceToNat, Int.reduceLT, Int.reduceEq, eq_self, Nat.reduceShiftRight, Nat.reduceAnd, Nat.reduceBneDiff, tmz]; exact rfl) (c) (by simp only [setA, retA]; exact rfl) ?_)
        cases hal : allB M p.args t.args with
        | true =>
          (refine reT (by simp only [pz, ↓reduceIte, Nat.reduceEqDiff, Nat.reduceAdd, Nat.reduceSub, Nat.reduceMul, Nat.reduceLeDiff, Nat.reduceBEq, Bool.false_eq_true, decide_true, decide_false, Int.reduceLE, Int.reduceToNat, Int.reduceLT, Int.reduceEq, eq_self, Nat.reduceShiftRight, Nat.reduceAnd, Nat.reduceBneDiff, tmz]; exact rfl) ?_; first | (change pwp _ _ _ _ _) | refine wkI ?_ | skip)
          ((repeat (first
            | with_reducible refine pwp_seqW ?_
            | with_reducible refine pwp_block ?_
            | ((first | with_reducible refine pwp_skip ?_ | with_reducible refine pwp_exit ?_); try refine wkI ?_)
            | (with_reducible refine pwp_ct ?_ ?_; · simp only [pz, ↓reduceIte, Nat.reduceEqDiff, tmz])
            | (with_reducible refine pwp_cf ?_ ?_; · simp only [pz, ↓reduceIte, Nat.reduceEqDiff, tmz])
            | (((first
              | with_reducible refine region_0k ?_
              | (with_reducible refine region_Dk (id := 13) 21 ?_ ?_; · kernel_rfl)
              | (with_reducible refine region_Dk (id := 2) 7 ?_ ?_; · kernel_rfl)
              ); intro ds hds; simp only [List.map] at hds; subst hds); refine reT (by simp only [pz, ↓reduceIte, Nat.reduceEqDiff, Nat.reduceAdd, Nat.reduceSub, Nat.reduceMul, Nat.reduceLeDiff, Nat.reduceBEq, Bool.false_eq_true, decide_true, decide_false, Int.reduceLE, Int.reduceToNat, Int.reduceLT, Int.reduceEq, eq_self, Nat.reduceShiftRight, Nat.reduceAnd, Nat.reduceBneDiff, tmz]; exact rfl) ?_; try refine wkI ?_)))
           refine pwp_ret (ret_ok ?_)
           simp [resOk, resA, resSlots, gs, tmz])
        | false =>
          (refine rcT (by simp only [pz, ↓reduceIte, Nat.reduceEqDiff, Nat.reduceAdd, Nat.reduceSub, Nat.reduceMul, Nat.reduceLeDiff, Nat.reduceBEq, Bool.false_eq_true, decide_true, decide_false, Int.reduceLE, Int.reduceToNat, Int.reduceLT, Int.reduceEq, eq_self, Nat.reduceShiftRight, Nat.reduceAnd, Nat.reduceBneDiff, tmz, ha0, ha1]; exact rfl) (c2) (by simp only [setA, retA]; exact rfl) ?_)
          (refine reT (by simp only [pz, ↓reduceIte, Nat.reduceEqDiff, Nat.reduceAdd, Nat.reduceSub, Nat.reduceMul, Nat.reduceLeDiff, Nat.reduceBEq, Bool.false_eq_true, decide_true, decide_false, Int.reduceLE, Int.reduceToNat, Int.reduceLT, Int.reduceEq, eq_self, Nat.reduceShiftRight, Nat.reduceAnd, Nat.reduceBneDiff, tmz]; exact rfl) ?_; first | (change pwp _ _ _ _ _) | refine wkI ?_ | skip)
          ((repeat (first
            | with_reducible refine pwp_seqW ?_
            | with_reducible refine pwp_block ?_
            | ((first | with_reducible refine pwp_skip ?_ | with_reducible refine pwp_exit ?_); try refine wkI ?_)
            | (with_reducible refine pwp_ct ?_ ?_; · simp only [pz, ↓reduceIte, Nat.reduceEqDiff, tmz])
            | (with_reducible refine pwp_cf ?_ ?_; · simp only [pz, ↓reduceIte, Nat.reduceEqDiff, tmz])
            | (((first
              | with_reducible refine region_0k ?_
              | (with_reducible refine region_Dk (id := 13) 21 ?_ ?_; · kernel_rfl)
              | (with_reducible refine region_Dk (id := 2) 7 ?_ ?_; · kernel_rfl)
              ); intro ds hds; simp only [List.map] at hds; subst hds); refine reT (by simp only [pz, ↓reduceIte, Nat.reduceEqDiff, Nat.reduceAdd, Nat.reduceSub, Nat.reduceMul, Nat.reduceLeDiff, Nat.reduceBEq, Bool.false_eq_true, decide_true, decide_false, Int.reduceLE, Int.reduceToNat, Int.reduceLT, Int.reduceEq, eq_self, Nat.reduceShiftRight, Nat.reduceAnd, Nat.reduceBneDiff, tmz]; exact rfl) ?_; try refine wkI ?_)))
           refine pwp_ret (ret_ok ?_)
           simp [resOk, resA, resSlots, gs, tmz])
set_option maxHeartbeats 40000000 in
set_option maxRecDepth 100000 in
theorem con_specMay (hok : okSgn g) {p t : Tm} (hp : okTm p) (ht : okTm t) (hbp : sizeTm p ≤ big) (hbt : sizeTm t ≤ big) : Con e0 32 [.agg (encSgn g), .agg (encTm p), .agg (encTm t)] [.one (.lit (.bool (mayT g p t)))] := by
  have c1 := con_specIsTerm hok hp hbp
  have c2 := con_specIsTerm hok ht hbt
  rw [encSgn] at c1 c2
  refine con_of_pwp e0_ok 127 Try.func32 rfl (by kernel_rfl) (by kernel_rfl) rfl rfl ?_
  (repeat (first
    | with_reducible refine pwp_seqW ?_
    | with_reducible refine pwp_block ?_
    | ((first | with_reducible refine pwp_skip ?_ | with_reducible refine pwp_exit ?_); try refine wkI ?_)
    | (with_reducible refine pwp_ct ?_ ?_; · simp only [pz, ↓reduceIte, Nat.reduceEqDiff, tmz, encSgn])
    | (with_reducible refine pwp_cf ?_ ?_; · simp only [pz, ↓reduceIte, Nat.reduceEqDiff, tmz, encSgn])
    | (((first
      | with_reducible refine region_0k ?_
      ); intro ds hds; simp only [List.map] at hds; subst hds); refine reT (by simp only [pz, ↓reduceIte, Nat.reduceEqDiff, Nat.reduceAdd, Nat.reduceSub, Nat.reduceMul, Nat.reduceLeDiff, Nat.reduceBEq, Bool.false_eq_true, decide_true, decide_false, Int.reduceLE, Int.reduceToNat, Int.reduceLT, Int.reduceEq, eq_self, Nat.reduceShiftRight, Nat.reduceAnd, Nat.reduceBneDiff, tmz, encSgn]; exact rfl) ?_; try refine wkI ?_)))
  ((first
    | with_reducible refine region_0k ?_
    ); intro ds hds; simp only [List.map] at hds; subst hds)
  (refine rcT (by simp only [pz, ↓reduceIte, Nat.reduceEqDiff, Nat.reduceAdd, Nat.reduceSub, Nat.reduceMul, Nat.reduceLeDiff, Nat.reduceBEq, Bool.false_eq_true, decide_true, decide_false, Int.reduceLE, Int.reduceToNat, Int.reduceLT, Int.reduceEq, eq_self, Nat.reduceShiftRight, Nat.reduceAnd, Nat.reduceBneDiff, tmz]; exact rfl) (c1) (by simp only [setA, retA]; exact rfl) ?_)
  cases h1 : (isSgn g && isTerm g p) with
  | false =>
    have e : mayT g p t = false := by simp only [mayT, h1, Bool.false_and]
    (refine reT (by simp only [pz, ↓reduceIte, Nat.reduceEqDiff, Nat.reduceAdd, Nat.reduceSub, Nat.reduceMul, Nat.reduceLeDiff, Nat.reduceBEq, Bool.false_eq_true, decide_true, decide_false, Int.reduceLE, Int.reduceToNat, Int.reduceLT, Int.reduceEq, eq_self, Nat.reduceShiftRight, Nat.reduceAnd, Nat.reduceBneDiff, tmz]; exact rfl) ?_; first | (change pwp _ _ _ _ _) | refine wkI ?_ | skip)
    ((repeat (first
      | with_reducible refine pwp_seqW ?_
      | with_reducible refine pwp_block ?_
      | ((first | with_reducible refine pwp_skip ?_ | with_reducible refine pwp_exit ?_); try refine wkI ?_)
      | (with_reducible refine pwp_ct ?_ ?_; · simp only [pz, ↓reduceIte, Nat.reduceEqDiff, e])
      | (with_reducible refine pwp_cf ?_ ?_; · simp only [pz, ↓reduceIte, Nat.reduceEqDiff, e])
      | (((first
        | with_reducible refine region_0k ?_
        ); intro ds hds; simp only [List.map] at hds; subst hds); refine reT (by simp only [pz, ↓reduceIte, Nat.reduceEqDiff, Nat.reduceAdd, Nat.reduceSub, Nat.reduceMul, Nat.reduceLeDiff, Nat.reduceBEq, Bool.false_eq_true, decide_true, decide_false, Int.reduceLE, Int.reduceToNat, Int.reduceLT, Int.reduceEq, eq_self, Nat.reduceShiftRight, Nat.reduceAnd, Nat.reduceBneDiff, e]; exact rfl) ?_; try refine wkI ?_)))
     refine pwp_ret (ret_ok ?_)
     simp [resOk, resA, resSlots, gs, e])
  | true =>
    have hs : isSgn g = true := by simp only [Bool.and_eq_true] at h1; exact h1.1
    have hp1 : isTerm g p = true := by simp only [Bool.and_eq_true] at h1; exact h1.2
    have hg := isSgn_iff.1 hs
    (refine rcT (by simp only [pz, ↓reduceIte, Nat.reduceEqDiff, Nat.reduceAdd, Nat.reduceSub, Nat.reduceMul, Nat.reduceLeDiff, Nat.reduceBEq, Bool.false_eq_true, decide_true, decide_false, Int.reduceLE, Int.reduceToNat, Int.reduceLT, Int.reduceEq, eq_self, Nat.reduceShiftRight, Nat.reduceAnd, Nat.reduceBneDiff, tmz]; exact rfl) (c2) (by simp only [setA, retA]; exact rfl) ?_)
    rw [hs, Bool.true_and]
    cases h2 : isTerm g t with
    | false =>
      have e : mayT g p t = false := by simp [mayT, h2]
      (refine reT (by simp only [pz, ↓reduceIte, Nat.reduceEqDiff, Nat.reduceAdd, Nat.reduceSub, Nat.reduceMul, Nat.reduceLeDiff, Nat.reduceBEq, Bool.false_eq_true, decide_true, decide_false, Int.reduceLE, Int.reduceToNat, Int.reduceLT, Int.reduceEq, eq_self, Nat.reduceShiftRight, Nat.reduceAnd, Nat.reduceBneDiff, tmz]; exact rfl) ?_; first | (change pwp _ _ _ _ _) | refine wkI ?_ | skip)
      ((repeat (first
        | with_reducible refine pwp_seqW ?_
        | with_reducible refine pwp_block ?_
        | ((first | with_reducible refine pwp_skip ?_ | with_reducible refine pwp_exit ?_); try refine wkI ?_)
        | (with_reducible refine pwp_ct ?_ ?_; · simp only [pz, ↓reduceIte, Nat.reduceEqDiff, e])
        | (with_reducible refine pwp_cf ?_ ?_; · simp only [pz, ↓reduceIte, Nat.reduceEqDiff, e])
        | (((first
          | with_reducible refine region_0k ?_
          ); intro ds hds; simp only [List.map] at hds; subst hds); refine reT (by simp only [pz, ↓reduceIte, Nat.reduceEqDiff, Nat.reduceAdd, Nat.reduceSub, Nat.reduceMul, Nat.reduceLeDiff, Nat.reduceBEq, Bool.false_eq_true, decide_true, decide_false, Int.reduceLE, Int.reduceToNat, Int.reduceLT, Int.reduceEq, eq_self, Nat.reduceShiftRight, Nat.reduceAnd, Nat.reduceBneDiff, e]; exact rfl) ?_; try refine wkI ?_)))
       refine pwp_ret (ret_ok ?_)
       simp [resOk, resA, resSlots, gs, e])
    | true =>
      have c3 : Con e0 _ _ _ := con_l19May hok hg _ p t (Nat.lt_succ_self _) (isTerm_iff.1 hp1).form (isTerm_iff.1 h2).form hbp hbt
      rw [encSgn] at c3
      have e : mayT g p t = may g (sizeTm p + 1) p t := by simp [mayT, hs, hp1, h2]
      (refine rcT (by simp only [pz, ↓reduceIte, Nat.reduceEqDiff, Nat.reduceAdd, Nat.reduceSub, Nat.reduceMul, Nat.reduceLeDiff, Nat.reduceBEq, Bool.false_eq_true, decide_true, decide_false, Int.reduceLE, Int.reduceToNat, Int.reduceLT, Int.reduceEq, eq_self, Nat.reduceShiftRight, Nat.reduceAnd, Nat.reduceBneDiff, tmz]; exact rfl) (c3) (by simp only [setA, retA]; exact rfl) ?_)
      (refine reT (by simp only [pz, ↓reduceIte, Nat.reduceEqDiff, Nat.reduceAdd, Nat.reduceSub, Nat.reduceMul, Nat.reduceLeDiff, Nat.reduceBEq, Bool.false_eq_true, decide_true, decide_false, Int.reduceLE, Int.reduceToNat, Int.reduceLT, Int.reduceEq, eq_self, Nat.reduceShiftRight, Nat.reduceAnd, Nat.reduceBneDiff, tmz]; exact rfl) ?_; first | (change pwp _ _ _ _ _) | refine wkI ?_ | skip)
      ((repeat (first
        | with_reducible refine pwp_seqW ?_
        | with_reducible refine pwp_block ?_
        | ((first | with_reducible refine pwp_skip ?_ | with_reducible refine pwp_exit ?_); try refine wkI ?_)
        | (with_reducible refine pwp_ct ?_ ?_; · simp only [pz, ↓reduceIte, Nat.reduceEqDiff, e])
        | (with_reducible refine pwp_cf ?_ ?_; · simp only [pz, ↓reduceIte, Nat.reduceEqDiff, e])
        | (((first
          | with_reducible refine region_0k ?_
          ); intro ds hds; simp only [List.map] at hds; subst hds); refine reT (by simp only [pz, ↓reduceIte, Nat.reduceEqDiff, Nat.reduceAdd, Nat.reduceSub, Nat.reduceMul, Nat.reduceLeDiff, Nat.reduceBEq, Bool.false_eq_true, decide_true, decide_false, Int.reduceLE, Int.reduceToNat, Int.reduceLT, Int.reduceEq, eq_self, Nat.reduceShiftRight, Nat.reduceAnd, Nat.reduceBneDiff, e]; exact rfl) ?_; try refine wkI ?_)))
       refine pwp_ret (ret_ok ?_)
       simp [resOk, resA, resSlots, gs, e])
mutual
theorem bulk_size : ∀ t : Tm, sizeTm t ≤ bulkRow (encTm t) + 1
  | .mk _ _ _ args => by
    have := bulk_sizes args
    simp only [sizeTm, encTm, bulkRow, bulkC]
    omega
theorem bulk_sizes : ∀ ts : List Tm, sizeTms ts ≤ (encTms ts).length + bulkRows (encTms ts)
  | [] => by simp [sizeTms]
  | t :: ts => by
    have h1 := bulk_size t
    have h2 := bulk_sizes ts
    simp only [sizeTms, encTms, List.length_cons, bulkRows]
    omega
end
theorem big_of_bulk {t : Tm} (h : bulkRow (encTm t) ≤ 1048576) : sizeTm t ≤ big := by
  have := bulk_size t
  unfold big
  omega
end
end Go.Proofs.Ytmpcbijkbgmjkaa

namespace Go.Proofs.Ytmpcbijkbgmjkaa
open Go.RowKit

theorem con_szSignature {row : List C} (hok : okRow (sigF) row) {left : Int} (h0 : 0 ≤ left) (h1 : left ≤ 1048576) : Con e0 17 [.agg row, .one (.lit (.int .i64 left))] [.one (.lit (.int .i64 (sub left (bulkRow row))))] := by
  refine con_below e0_ok (by kernel_rfl) fun w S vs h => ?_
  match vs, h with
  | [v, u], h =>
    obtain ⟨⟨us, rfl, hu⟩, h2, _⟩ := h
    have h2 : u = .int .i64 left := by simpa [DRel, Rep] using h2
    subst h2
    exact (szSignature_any row S us left w hok hu h0 h1).mono fun e w' ⟨h1, h2⟩ => ⟨_, h1, h2, by simp [retA, ARel, DRel, Rep]⟩
theorem con_toSignature {row : List C} (hok : okRow (sigF) row) (hb : bulkRow row ≤ 1048576) : Con e0 20 [.agg row] [.agg row] := by
  refine con_below e0_ok (by kernel_rfl) fun w S vs h => ?_
  match vs, h with
  | [v], h =>
    obtain ⟨⟨us, rfl, hu⟩, _⟩ := h
    exact (toSignature_any row S us w hok hu hb).mono fun e w' ⟨us', h1, h2, h3⟩ => ⟨_, h1, h3, us', rfl, OwnVals.rep row _ _ us' (fun x hx => .inr hx) h2⟩
theorem con_eqSignature {row : List C} (hok : okRow (sigF) row) : Con e0 23 [.agg row, .agg row] [.one (.lit (.bool true))] := by
  refine con_below e0_ok (by kernel_rfl) fun w S vs h => ?_
  match vs, h with
  | [v, u], h =>
    obtain ⟨⟨us, rfl, hu⟩, ⟨us', rfl, hu'⟩, _⟩ := h
    exact (eqSignature_any row S S us us' w hok hu hu').mono fun e w' ⟨h1, h2⟩ => ⟨_, h1, h2, by simp [retA, ARel, DRel, Rep]⟩
end Go.Proofs.Ytmpcbijkbgmjkaa

namespace Go.Proofs.Ytmpcbijkbgmjkaa
open Go.RowKit

theorem con_szTerm {row : List C} (hok : okRow (fieldsOf .term) row) {left : Int} (h0 : 0 ≤ left) (h1 : left ≤ 1048576) : Con e0 7 [.agg row, .one (.lit (.int .i64 left))] [.one (.lit (.int .i64 (sub left (bulkRow row))))] := by
  refine con_below e0_ok (by kernel_rfl) fun w S vs h => ?_
  match vs, h with
  | [v, u], h =>
    obtain ⟨⟨us, rfl, hu⟩, h2, _⟩ := h
    have h2 : u = .int .i64 left := by simpa [DRel, Rep] using h2
    subst h2
    exact (szTerm_any row S us left w hok hu h0 h1).mono fun e w' ⟨h1, h2⟩ => ⟨_, h1, h2, by simp [retA, ARel, DRel, Rep]⟩
theorem con_toTerm {row : List C} (hok : okRow (fieldsOf .term) row) (hb : bulkRow row ≤ 1048576) : Con e0 9 [.agg row] [.agg row] := by
  refine con_below e0_ok (by kernel_rfl) fun w S vs h => ?_
  match vs, h with
  | [v], h =>
    obtain ⟨⟨us, rfl, hu⟩, _⟩ := h
    exact (toTerm_any row S us w hok hu hb).mono fun e w' ⟨us', h1, h2, h3⟩ => ⟨_, h1, h3, us', rfl, OwnVals.rep row _ _ us' (fun x hx => .inr hx) h2⟩
theorem con_eqTerm {row : List C} (hok : okRow (fieldsOf .term) row) : Con e0 12 [.agg row, .agg row] [.one (.lit (.bool true))] := by
  refine con_below e0_ok (by kernel_rfl) fun w S vs h => ?_
  match vs, h with
  | [v, u], h =>
    obtain ⟨⟨us, rfl, hu⟩, ⟨us', rfl, hu'⟩, _⟩ := h
    exact (eqTerm_any row S S us us' w hok hu hu').mono fun e w' ⟨h1, h2⟩ => ⟨_, h1, h2, by simp [retA, ARel, DRel, Rep]⟩
end Go.Proofs.Ytmpcbijkbgmjkaa

namespace Go.Proofs.Ytmpcbijkbgmjkaa
open Go.RowKit
set_option maxHeartbeats 40000000 in
set_option maxRecDepth 100000 in
theorem con_lawMayMatch {row0 : List C} (hok0 : okRow (sigF) row0) {row1 : List C} (hok1 : okRow (fieldsOf .term) row1) {row2 : List C} (hok2 : okRow (fieldsOf .term) row2) {R0 : Bool} (hsp0 : bulkRow row0 ≤ 1048576 → bulkRow row1 ≤ 1048576 → bulkRow row2 ≤ 1048576 → Con e0 32 [.agg row0, .agg row1, .agg row2] [.one (.lit (.bool R0))]) (him0 : bulkRow row0 ≤ 1048576 → bulkRow row1 ≤ 1048576 → bulkRow row2 ≤ 1048576 → Con e0 33 [.agg row0, .agg row1, .agg row2] [.one (.lit (.bool R0))]) : Con e0 6 [.agg row0, .agg row1, .agg row2] [.one (.lit (.bool true))] := by
  have okc0 := hok0.cells
  obtain ⟨len0, tk0, dr0⟩ := hok0.take (n := 3) rfl
  have okc1 := hok1.cells
  obtain ⟨len1, tk1, dr1⟩ := hok1.take (n := 4) rfl
  have okc2 := hok2.cells
  obtain ⟨len2, tk2, dr2⟩ := hok2.take (n := 4) rfl
  refine con_of_pwp e0_ok 4760445543757520895 Try.func6 rfl (by kernel_rfl) (by kernel_rfl) rfl rfl ?_
  (repeat (first
    | with_reducible refine pwp_seqW ?_
    | with_reducible refine pwp_block ?_
    | ((first | with_reducible refine pwp_skip ?_ | with_reducible refine pwp_exit ?_); try refine wkI ?_)
    | (with_reducible refine pwp_ct ?_ ?_; · simp only [pz, ↓reduceIte, Nat.reduceEqDiff, okc0, len0, tk0, dr0, okc1, len1, tk1, dr1, okc2, len2, tk2, dr2, drop0])
    | (with_reducible refine pwp_cf ?_ ?_; · simp only [pz, ↓reduceIte, Nat.reduceEqDiff, okc0, len0, tk0, dr0, okc1, len1, tk1, dr1, okc2, len2, tk2, dr2, drop0])
    | (((first
      | with_reducible refine region_0k ?_
      | (with_reducible refine region_Dk (id := 11) 7 ?_ ?_; · kernel_rfl)
      | (with_reducible refine region_Dk (id := 18) 5 ?_ ?_; · kernel_rfl)
      | (with_reducible refine region_Dk (id := 20) 5 ?_ ?_; · kernel_rfl)
      | (with_reducible refine region_Dk (id := 22) 5 ?_ ?_; · kernel_rfl)
      ); intro ds hds; simp only [List.map] at hds; subst hds); refine reT (by simp only [pz, ↓reduceIte, Nat.reduceEqDiff, Nat.reduceAdd, Nat.reduceSub, Nat.reduceMul, Nat.reduceLeDiff, Nat.reduceBEq, Bool.false_eq_true, decide_true, decide_false, Int.reduceLE, Int.reduceToNat, Int.reduceLT, Int.reduceEq, eq_self, Nat.reduceShiftRight, Nat.reduceAnd, Nat.reduceBneDiff, okc0, len0, tk0, dr0, okc1, len1, tk1, dr1, okc2, len2, tk2, dr2, drop0]; exact rfl) ?_; try refine wkI ?_)))
  have hL0_0 : (0 : Int) ≤ 1048576 := by omega
  have hL0_1 : (1048576 : Int) ≤ 1048576 := by omega
  ((first
    | with_reducible refine region_0k ?_
    | (with_reducible refine region_Dk (id := 11) 7 ?_ ?_; · kernel_rfl)
    | (with_reducible refine region_Dk (id := 18) 5 ?_ ?_; · kernel_rfl)
    | (with_reducible refine region_Dk (id := 20) 5 ?_ ?_; · kernel_rfl)
    | (with_reducible refine region_Dk (id := 22) 5 ?_ ?_; · kernel_rfl)
    ); intro ds hds; simp only [List.map] at hds; subst hds)
  (refine rcT (by simp only [pz, ↓reduceIte, Nat.reduceEqDiff, Nat.reduceAdd, Nat.reduceSub, Nat.reduceMul, Nat.reduceLeDiff, Nat.reduceBEq, Bool.false_eq_true, decide_true, decide_false, Int.reduceLE, Int.reduceToNat, Int.reduceLT, Int.reduceEq, eq_self, Nat.reduceShiftRight, Nat.reduceAnd, Nat.reduceBneDiff, okc0, len0, tk0, dr0, okc1, len1, tk1, dr1, okc2, len2, tk2, dr2, drop0]; exact rfl) (con_szSignature hok0 hL0_0 hL0_1) (by simp only [setA, retA]; exact rfl) ?_)
  (refine reT (by simp only [pz, ↓reduceIte, Nat.reduceEqDiff, Nat.reduceAdd, Nat.reduceSub, Nat.reduceMul, Nat.reduceLeDiff, Nat.reduceBEq, Bool.false_eq_true, decide_true, decide_false, Int.reduceLE, Int.reduceToNat, Int.reduceLT, Int.reduceEq, eq_self, Nat.reduceShiftRight, Nat.reduceAnd, Nat.reduceBneDiff, okc0, len0, tk0, dr0, okc1, len1, tk1, dr1, okc2, len2, tk2, dr2, drop0]; exact rfl) ?_; first | (change pwp _ _ _ _ _) | refine wkI ?_ | skip)
  by_cases hb0 : ((bulkRow row0) : Int) ≤ 1048576
  rotate_left
  · have n1 : sub 1048576 (bulkRow row0) = -1 := sub_neg (by omega)
    have n2 : (-1 : Int) < 0 := by omega
    ((repeat (first
      | with_reducible refine pwp_seqW ?_
      | with_reducible refine pwp_block ?_
      | ((first | with_reducible refine pwp_skip ?_ | with_reducible refine pwp_exit ?_); try refine wkI ?_)
      | (with_reducible refine pwp_ct ?_ ?_; · simp only [pz, ↓reduceIte, Nat.reduceEqDiff, n1, n2])
      | (with_reducible refine pwp_cf ?_ ?_; · simp only [pz, ↓reduceIte, Nat.reduceEqDiff, n1, n2])
      | (((first
        | with_reducible refine region_0k ?_
        | (with_reducible refine region_Dk (id := 11) 7 ?_ ?_; · kernel_rfl)
        | (with_reducible refine region_Dk (id := 18) 5 ?_ ?_; · kernel_rfl)
        | (with_reducible refine region_Dk (id := 20) 5 ?_ ?_; · kernel_rfl)
        | (with_reducible refine region_Dk (id := 22) 5 ?_ ?_; · kernel_rfl)
        ); intro ds hds; simp only [List.map] at hds; subst hds); refine reT (by simp only [pz, ↓reduceIte, Nat.reduceEqDiff, Nat.reduceAdd, Nat.reduceSub, Nat.reduceMul, Nat.reduceLeDiff, Nat.reduceBEq, Bool.false_eq_true, decide_true, decide_false, Int.reduceLE, Int.reduceToNat, Int.reduceLT, Int.reduceEq, eq_self, Nat.reduceShiftRight, Nat.reduceAnd, Nat.reduceBneDiff, n1, n2]; exact rfl) ?_; try refine wkI ?_)))
     refine pwp_ret (ret_ok ?_)
     simp [resOk, resA, resSlots, gs, n1, n2])
  have n0 : sub 1048576 (bulkRow row0) = 1048576 - ((bulkRow row0) : Nat) := sub_pos (by omega)
  rw [n0]
  clear n0
  have hB0 : bulkRow row0 ≤ 1048576 := by omega
  have hL1_0 : (0 : Int) ≤ 1048576 - ((bulkRow row0) : Nat) := by omega
  have hL1_1 : (1048576 : Int) - ((bulkRow row0) : Nat) ≤ 1048576 := by omega
  generalize hgl0 : (1048576 : Int) - ((bulkRow row0) : Nat) = L1 at *
  clear hgl0
  have n2 : ¬ (L1 < 0) := by omega
  (repeat (first
    | with_reducible refine pwp_seqW ?_
    | with_reducible refine pwp_block ?_
    | ((first | with_reducible refine pwp_skip ?_ | with_reducible refine pwp_exit ?_); try refine wkI ?_)
    | (with_reducible refine pwp_ct ?_ ?_; · simp only [pz, ↓reduceIte, Nat.reduceEqDiff, n2, okc0, len0, tk0, dr0, okc1, len1, tk1, dr1, okc2, len2, tk2, dr2, drop0])
    | (with_reducible refine pwp_cf ?_ ?_; · simp only [pz, ↓reduceIte, Nat.reduceEqDiff, n2, okc0, len0, tk0, dr0, okc1, len1, tk1, dr1, okc2, len2, tk2, dr2, drop0])
    | (((first
      | with_reducible refine region_0k ?_
      | (with_reducible refine region_Dk (id := 11) 7 ?_ ?_; · kernel_rfl)
      | (with_reducible refine region_Dk (id := 18) 5 ?_ ?_; · kernel_rfl)
      | (with_reducible refine region_Dk (id := 20) 5 ?_ ?_; · kernel_rfl)
      | (with_reducible refine region_Dk (id := 22) 5 ?_ ?_; · kernel_rfl)
      ); intro ds hds; simp only [List.map] at hds; subst hds); refine reT (by simp only [pz, ↓reduceIte, Nat.reduceEqDiff, Nat.reduceAdd, Nat.reduceSub, Nat.reduceMul, Nat.reduceLeDiff, Nat.reduceBEq, Bool.false_eq_true, decide_true, decide_false, Int.reduceLE, Int.reduceToNat, Int.reduceLT, Int.reduceEq, eq_self, Nat.reduceShiftRight, Nat.reduceAnd, Nat.reduceBneDiff, n2, okc0, len0, tk0, dr0, okc1, len1, tk1, dr1, okc2, len2, tk2, dr2, drop0]; exact rfl) ?_; try refine wkI ?_)))
  clear n2 hb0
  ((first
    | with_reducible refine region_0k ?_
    | (with_reducible refine region_Dk (id := 11) 7 ?_ ?_; · kernel_rfl)
    | (with_reducible refine region_Dk (id := 18) 5 ?_ ?_; · kernel_rfl)
    | (with_reducible refine region_Dk (id := 20) 5 ?_ ?_; · kernel_rfl)
    | (with_reducible refine region_Dk (id := 22) 5 ?_ ?_; · kernel_rfl)
    ); intro ds hds; simp only [List.map] at hds; subst hds)
  (refine rcT (by simp only [pz, ↓reduceIte, Nat.reduceEqDiff, Nat.reduceAdd, Nat.reduceSub, Nat.reduceMul, Nat.reduceLeDiff, Nat.reduceBEq, Bool.false_eq_true, decide_true, decide_false, Int.reduceLE, Int.reduceToNat, Int.reduceLT, Int.reduceEq, eq_self, Nat.reduceShiftRight, Nat.reduceAnd, Nat.reduceBneDiff, okc0, len0, tk0, dr0, okc1, len1, tk1, dr1, okc2, len2, tk2, dr2, drop0]; exact rfl) (con_szTerm hok1 hL1_0 hL1_1) (by simp only [setA, retA]; exact rfl) ?_)
  (refine reT (by simp only [pz, ↓reduceIte, Nat.reduceEqDiff, Nat.reduceAdd, Nat.reduceSub, Nat.reduceMul, Nat.reduceLeDiff, Nat.reduceBEq, Bool.false_eq_true, decide_true, decide_false, Int.reduceLE, Int.reduceToNat, Int.reduceLT, Int.reduceEq, eq_self, Nat.reduceShiftRight, Nat.reduceAnd, Nat.reduceBneDiff, okc0, len0, tk0, dr0, okc1, len1, tk1, dr1, okc2, len2, tk2, dr2, drop0]; exact rfl) ?_; first | (change pwp _ _ _ _ _) | refine wkI ?_ | skip)
  by_cases hb1 : ((bulkRow row1) : Int) ≤ L1
  rotate_left
  · have n1 : sub L1 (bulkRow row1) = -1 := sub_neg (by omega)
    have n2 : (-1 : Int) < 0 := by omega
    ((repeat (first
      | with_reducible refine pwp_seqW ?_
      | with_reducible refine pwp_block ?_
      | ((first | with_reducible refine pwp_skip ?_ | with_reducible refine pwp_exit ?_); try refine wkI ?_)
      | (with_reducible refine pwp_ct ?_ ?_; · simp only [pz, ↓reduceIte, Nat.reduceEqDiff, n1, n2])
      | (with_reducible refine pwp_cf ?_ ?_; · simp only [pz, ↓reduceIte, Nat.reduceEqDiff, n1, n2])
      | (((first
        | with_reducible refine region_0k ?_
        | (with_reducible refine region_Dk (id := 11) 7 ?_ ?_; · kernel_rfl)
        | (with_reducible refine region_Dk (id := 18) 5 ?_ ?_; · kernel_rfl)
        | (with_reducible refine region_Dk (id := 20) 5 ?_ ?_; · kernel_rfl)
        | (with_reducible refine region_Dk (id := 22) 5 ?_ ?_; · kernel_rfl)
        ); intro ds hds; simp only [List.map] at hds; subst hds); refine reT (by simp only [pz, ↓reduceIte, Nat.reduceEqDiff, Nat.reduceAdd, Nat.reduceSub, Nat.reduceMul, Nat.reduceLeDiff, Nat.reduceBEq, Bool.false_eq_true, decide_true, decide_false, Int.reduceLE, Int.reduceToNat, Int.reduceLT, Int.reduceEq, eq_self, Nat.reduceShiftRight, Nat.reduceAnd, Nat.reduceBneDiff, n1, n2]; exact rfl) ?_; try refine wkI ?_)))
     refine pwp_ret (ret_ok ?_)
     simp [resOk, resA, resSlots, gs, n1, n2])
  have n1 : sub L1 (bulkRow row1) = L1 - ((bulkRow row1) : Nat) := sub_pos (by omega)
  rw [n1]
  clear n1
  have hB1 : bulkRow row1 ≤ 1048576 := by omega
  have hL2_0 : (0 : Int) ≤ L1 - ((bulkRow row1) : Nat) := by omega
  have hL2_1 : (L1 : Int) - ((bulkRow row1) : Nat) ≤ 1048576 := by omega
  generalize hgl1 : (L1 : Int) - ((bulkRow row1) : Nat) = L2 at *
  clear hgl1
  have n2 : ¬ (L2 < 0) := by omega
  (repeat (first
    | with_reducible refine pwp_seqW ?_
    | with_reducible refine pwp_block ?_
    | ((first | with_reducible refine pwp_skip ?_ | with_reducible refine pwp_exit ?_); try refine wkI ?_)
    | (with_reducible refine pwp_ct ?_ ?_; · simp only [pz, ↓reduceIte, Nat.reduceEqDiff, n2, okc0, len0, tk0, dr0, okc1, len1, tk1, dr1, okc2, len2, tk2, dr2, drop0])
    | (with_reducible refine pwp_cf ?_ ?_; · simp only [pz, ↓reduceIte, Nat.reduceEqDiff, n2, okc0, len0, tk0, dr0, okc1, len1, tk1, dr1, okc2, len2, tk2, dr2, drop0])
    | (((first
      | with_reducible refine region_0k ?_
      | (with_reducible refine region_Dk (id := 11) 7 ?_ ?_; · kernel_rfl)
      | (with_reducible refine region_Dk (id := 18) 5 ?_ ?_; · kernel_rfl)
      | (with_reducible refine region_Dk (id := 20) 5 ?_ ?_; · kernel_rfl)
      | (with_reducible refine region_Dk (id := 22) 5 ?_ ?_; · kernel_rfl)
      ); intro ds hds; simp only [List.map] at hds; subst hds); refine reT (by simp only [pz, ↓reduceIte, Nat.reduceEqDiff, Nat.reduceAdd, Nat.reduceSub, Nat.reduceMul, Nat.reduceLeDiff, Nat.reduceBEq, Bool.false_eq_true, decide_true, decide_false, Int.reduceLE, Int.reduceToNat, Int.reduceLT, Int.reduceEq, eq_self, Nat.reduceShiftRight, Nat.reduceAnd, Nat.reduceBneDiff, n2, okc0, len0, tk0, dr0, okc1, len1, tk1, dr1, okc2, len2, tk2, dr2, drop0]; exact rfl) ?_; try refine wkI ?_)))
  clear n2 hb1
  ((first
    | with_reducible refine region_0k ?_
    | (with_reducible refine region_Dk (id := 11) 7 ?_ ?_; · kernel_rfl)
    | (with_reducible refine region_Dk (id := 18) 5 ?_ ?_; · kernel_rfl)
    | (with_reducible refine region_Dk (id := 20) 5 ?_ ?_; · kernel_rfl)
    | (with_reducible refine region_Dk (id := 22) 5 ?_ ?_; · kernel_rfl)
    ); intro ds hds; simp only [List.map] at hds; subst hds)
  (refine rcT (by simp only [pz, ↓reduceIte, Nat.reduceEqDiff, Nat.reduceAdd, Nat.reduceSub, Nat.reduceMul, Nat.reduceLeDiff, Nat.reduceBEq, Bool.false_eq_true, decide_true, decide_false, Int.reduceLE, Int.reduceToNat, Int.reduceLT, Int.reduceEq, eq_self, Nat.reduceShiftRight, Nat.reduceAnd, Nat.reduceBneDiff, okc0, len0, tk0, dr0, okc1, len1, tk1, dr1, okc2, len2, tk2, dr2, drop0]; exact rfl) (con_szTerm hok2 hL2_0 hL2_1) (by simp only [setA, retA]; exact rfl) ?_)
  (refine reT (by simp only [pz, ↓reduceIte, Nat.reduceEqDiff, Nat.reduceAdd, Nat.reduceSub, Nat.reduceMul, Nat.reduceLeDiff, Nat.reduceBEq, Bool.false_eq_true, decide_true, decide_false, Int.reduceLE, Int.reduceToNat, Int.reduceLT, Int.reduceEq, eq_self, Nat.reduceShiftRight, Nat.reduceAnd, Nat.reduceBneDiff, okc0, len0, tk0, dr0, okc1, len1, tk1, dr1, okc2, len2, tk2, dr2, drop0]; exact rfl) ?_; first | (change pwp _ _ _ _ _) | refine wkI ?_ | skip)
  by_cases hb2 : ((bulkRow row2) : Int) ≤ L2
  rotate_left
  · have n1 : sub L2 (bulkRow row2) = -1 := sub_neg (by omega)
    have n2 : (-1 : Int) < 0 := by omega
    ((repeat (first
      | with_reducible refine pwp_seqW ?_
      | with_reducible refine pwp_block ?_
      | ((first | with_reducible refine pwp_skip ?_ | with_reducible refine pwp_exit ?_); try refine wkI ?_)
      | (with_reducible refine pwp_ct ?_ ?_; · simp only [pz, ↓reduceIte, Nat.reduceEqDiff, n1, n2])
      | (with_reducible refine pwp_cf ?_ ?_; · simp only [pz, ↓reduceIte, Nat.reduceEqDiff, n1, n2])
      | (((first
        | with_reducible refine region_0k ?_
        | (with_reducible refine region_Dk (id := 11) 7 ?_ ?_; · kernel_rfl)
        | (with_reducible refine region_Dk (id := 18) 5 ?_ ?_; · kernel_rfl)
        | (with_reducible refine region_Dk (id := 20) 5 ?_ ?_; · kernel_rfl)
        | (with_reducible refine region_Dk (id := 22) 5 ?_ ?_; · kernel_rfl)
        ); intro ds hds; simp only [List.map] at hds; subst hds); refine reT (by simp only [pz, ↓reduceIte, Nat.reduceEqDiff, Nat.reduceAdd, Nat.reduceSub, Nat.reduceMul, Nat.reduceLeDiff, Nat.reduceBEq, Bool.false_eq_true, decide_true, decide_false, Int.reduceLE, Int.reduceToNat, Int.reduceLT, Int.reduceEq, eq_self, Nat.reduceShiftRight, Nat.reduceAnd, Nat.reduceBneDiff, n1, n2]; exact rfl) ?_; try refine wkI ?_)))
     refine pwp_ret (ret_ok ?_)
     simp [resOk, resA, resSlots, gs, n1, n2])
  have n2 : sub L2 (bulkRow row2) = L2 - ((bulkRow row2) : Nat) := sub_pos (by omega)
  rw [n2]
  clear n2
  have hB2 : bulkRow row2 ≤ 1048576 := by omega
  have hL3_0 : (0 : Int) ≤ L2 - ((bulkRow row2) : Nat) := by omega
  have hL3_1 : (L2 : Int) - ((bulkRow row2) : Nat) ≤ 1048576 := by omega
  generalize hgl2 : (L2 : Int) - ((bulkRow row2) : Nat) = L3 at *
  clear hgl2
  have n2 : ¬ (L3 < 0) := by omega
  (repeat (first
    | with_reducible refine pwp_seqW ?_
    | with_reducible refine pwp_block ?_
    | ((first | with_reducible refine pwp_skip ?_ | with_reducible refine pwp_exit ?_); try refine wkI ?_)
    | (with_reducible refine pwp_ct ?_ ?_; · simp only [pz, ↓reduceIte, Nat.reduceEqDiff, n2, okc0, len0, tk0, dr0, okc1, len1, tk1, dr1, okc2, len2, tk2, dr2, drop0])
    | (with_reducible refine pwp_cf ?_ ?_; · simp only [pz, ↓reduceIte, Nat.reduceEqDiff, n2, okc0, len0, tk0, dr0, okc1, len1, tk1, dr1, okc2, len2, tk2, dr2, drop0])
    | (((first
      | with_reducible refine region_0k ?_
      | (with_reducible refine region_Dk (id := 11) 7 ?_ ?_; · kernel_rfl)
      | (with_reducible refine region_Dk (id := 18) 5 ?_ ?_; · kernel_rfl)
      | (with_reducible refine region_Dk (id := 20) 5 ?_ ?_; · kernel_rfl)
      | (with_reducible refine region_Dk (id := 22) 5 ?_ ?_; · kernel_rfl)
      ); intro ds hds; simp only [List.map] at hds; subst hds); refine reT (by simp only [pz, ↓reduceIte, Nat.reduceEqDiff, Nat.reduceAdd, Nat.reduceSub, Nat.reduceMul, Nat.reduceLeDiff, Nat.reduceBEq, Bool.false_eq_true, decide_true, decide_false, Int.reduceLE, Int.reduceToNat, Int.reduceLT, Int.reduceEq, eq_self, Nat.reduceShiftRight, Nat.reduceAnd, Nat.reduceBneDiff, n2, okc0, len0, tk0, dr0, okc1, len1, tk1, dr1, okc2, len2, tk2, dr2, drop0]; exact rfl) ?_; try refine wkI ?_)))
  clear n2 hb2
  have hsp := hsp0 hB0 hB1 hB2
  have him := him0 hB0 hB1 hB2
  have cT0 := con_toSignature hok0 hB0
  have cT1 := con_toTerm hok1 hB1
  have cT2 := con_toTerm hok2 hB2
  ((first
    | with_reducible refine region_0k ?_
    | (with_reducible refine region_Dk (id := 11) 7 ?_ ?_; · kernel_rfl)
    | (with_reducible refine region_Dk (id := 18) 5 ?_ ?_; · kernel_rfl)
    | (with_reducible refine region_Dk (id := 20) 5 ?_ ?_; · kernel_rfl)
    | (with_reducible refine region_Dk (id := 22) 5 ?_ ?_; · kernel_rfl)
    ); intro ds hds; simp only [List.map] at hds; subst hds)
  (refine rcT (by simp only [pz, ↓reduceIte, Nat.reduceEqDiff, Nat.reduceAdd, Nat.reduceSub, Nat.reduceMul, Nat.reduceLeDiff, Nat.reduceBEq, Bool.false_eq_true, decide_true, decide_false, Int.reduceLE, Int.reduceToNat, Int.reduceLT, Int.reduceEq, eq_self, Nat.reduceShiftRight, Nat.reduceAnd, Nat.reduceBneDiff, okc0, len0, tk0, dr0, okc1, len1, tk1, dr1, okc2, len2, tk2, dr2, drop0]; exact rfl) (cT0) (by simp only [setA, retA]; exact rfl) ?_)
  (refine rcT (by simp only [pz, ↓reduceIte, Nat.reduceEqDiff, Nat.reduceAdd, Nat.reduceSub, Nat.reduceMul, Nat.reduceLeDiff, Nat.reduceBEq, Bool.false_eq_true, decide_true, decide_false, Int.reduceLE, Int.reduceToNat, Int.reduceLT, Int.reduceEq, eq_self, Nat.reduceShiftRight, Nat.reduceAnd, Nat.reduceBneDiff, okc0, len0, tk0, dr0, okc1, len1, tk1, dr1, okc2, len2, tk2, dr2, drop0]; exact rfl) (cT1) (by simp only [setA, retA]; exact rfl) ?_)
  (refine rcT (by simp only [pz, ↓reduceIte, Nat.reduceEqDiff, Nat.reduceAdd, Nat.reduceSub, Nat.reduceMul, Nat.reduceLeDiff, Nat.reduceBEq, Bool.false_eq_true, decide_true, decide_false, Int.reduceLE, Int.reduceToNat, Int.reduceLT, Int.reduceEq, eq_self, Nat.reduceShiftRight, Nat.reduceAnd, Nat.reduceBneDiff, okc0, len0, tk0, dr0, okc1, len1, tk1, dr1, okc2, len2, tk2, dr2, drop0]; exact rfl) (cT2) (by simp only [setA, retA]; exact rfl) ?_)
  (refine rcT (by simp only [pz, ↓reduceIte, Nat.reduceEqDiff, Nat.reduceAdd, Nat.reduceSub, Nat.reduceMul, Nat.reduceLeDiff, Nat.reduceBEq, Bool.false_eq_true, decide_true, decide_false, Int.reduceLE, Int.reduceToNat, Int.reduceLT, Int.reduceEq, eq_self, Nat.reduceShiftRight, Nat.reduceAnd, Nat.reduceBneDiff, okc0, len0, tk0, dr0, okc1, len1, tk1, dr1, okc2, len2, tk2, dr2, drop0]; exact rfl) (hsp) (by simp only [setA, retA]; exact rfl) ?_)
  (refine reT (by simp only [pz, ↓reduceIte, Nat.reduceEqDiff, Nat.reduceAdd, Nat.reduceSub, Nat.reduceMul, Nat.reduceLeDiff, Nat.reduceBEq, Bool.false_eq_true, decide_true, decide_false, Int.reduceLE, Int.reduceToNat, Int.reduceLT, Int.reduceEq, eq_self, Nat.reduceShiftRight, Nat.reduceAnd, Nat.reduceBneDiff, okc0, len0, tk0, dr0, okc1, len1, tk1, dr1, okc2, len2, tk2, dr2, drop0]; exact rfl) ?_; first | (change pwp _ _ _ _ _) | refine wkI ?_ | skip)
  (repeat (first
    | with_reducible refine pwp_seqW ?_
    | with_reducible refine pwp_block ?_
    | ((first | with_reducible refine pwp_skip ?_ | with_reducible refine pwp_exit ?_); try refine wkI ?_)
    | (with_reducible refine pwp_ct ?_ ?_; · simp only [pz, ↓reduceIte, Nat.reduceEqDiff, okc0, len0, tk0, dr0, okc1, len1, tk1, dr1, okc2, len2, tk2, dr2, drop0])
    | (with_reducible refine pwp_cf ?_ ?_; · simp only [pz, ↓reduceIte, Nat.reduceEqDiff, okc0, len0, tk0, dr0, okc1, len1, tk1, dr1, okc2, len2, tk2, dr2, drop0])
    | (((first
      | with_reducible refine region_0k ?_
      | (with_reducible refine region_Dk (id := 11) 7 ?_ ?_; · kernel_rfl)
      | (with_reducible refine region_Dk (id := 18) 5 ?_ ?_; · kernel_rfl)
      | (with_reducible refine region_Dk (id := 20) 5 ?_ ?_; · kernel_rfl)
      | (with_reducible refine region_Dk (id := 22) 5 ?_ ?_; · kernel_rfl)
      ); intro ds hds; simp only [List.map] at hds; subst hds); refine reT (by simp only [pz, ↓reduceIte, Nat.reduceEqDiff, Nat.reduceAdd, Nat.reduceSub, Nat.reduceMul, Nat.reduceLeDiff, Nat.reduceBEq, Bool.false_eq_true, decide_true, decide_false, Int.reduceLE, Int.reduceToNat, Int.reduceLT, Int.reduceEq, eq_self, Nat.reduceShiftRight, Nat.reduceAnd, Nat.reduceBneDiff, okc0, len0, tk0, dr0, okc1, len1, tk1, dr1, okc2, len2, tk2, dr2, drop0]; exact rfl) ?_; try refine wkI ?_)))
  ((first
    | with_reducible refine region_0k ?_
    | (with_reducible refine region_Dk (id := 11) 7 ?_ ?_; · kernel_rfl)
    | (with_reducible refine region_Dk (id := 18) 5 ?_ ?_; · kernel_rfl)
    | (with_reducible refine region_Dk (id := 20) 5 ?_ ?_; · kernel_rfl)
    | (with_reducible refine region_Dk (id := 22) 5 ?_ ?_; · kernel_rfl)
    ); intro ds hds; simp only [List.map] at hds; subst hds)
  (refine rcT (by simp only [pz, ↓reduceIte, Nat.reduceEqDiff, Nat.reduceAdd, Nat.reduceSub, Nat.reduceMul, Nat.reduceLeDiff, Nat.reduceBEq, Bool.false_eq_true, decide_true, decide_false, Int.reduceLE, Int.reduceToNat, Int.reduceLT, Int.reduceEq, eq_self, Nat.reduceShiftRight, Nat.reduceAnd, Nat.reduceBneDiff, okc0, len0, tk0, dr0, okc1, len1, tk1, dr1, okc2, len2, tk2, dr2, drop0]; exact rfl) (cT0) (by simp only [setA, retA]; exact rfl) ?_)
  (refine reT (by simp only [pz, ↓reduceIte, Nat.reduceEqDiff, Nat.reduceAdd, Nat.reduceSub, Nat.reduceMul, Nat.reduceLeDiff, Nat.reduceBEq, Bool.false_eq_true, decide_true, decide_false, Int.reduceLE, Int.reduceToNat, Int.reduceLT, Int.reduceEq, eq_self, Nat.reduceShiftRight, Nat.reduceAnd, Nat.reduceBneDiff, okc0, len0, tk0, dr0, okc1, len1, tk1, dr1, okc2, len2, tk2, dr2, drop0]; exact rfl) ?_; first | (change pwp _ _ _ _ _) | refine wkI ?_ | skip)
  (repeat (first
    | with_reducible refine pwp_seqW ?_
    | with_reducible refine pwp_block ?_
    | ((first | with_reducible refine pwp_skip ?_ | with_reducible refine pwp_exit ?_); try refine wkI ?_)
    | (with_reducible refine pwp_ct ?_ ?_; · simp only [pz, ↓reduceIte, Nat.reduceEqDiff, okc0, len0, tk0, dr0, okc1, len1, tk1, dr1, okc2, len2, tk2, dr2, drop0])
    | (with_reducible refine pwp_cf ?_ ?_; · simp only [pz, ↓reduceIte, Nat.reduceEqDiff, okc0, len0, tk0, dr0, okc1, len1, tk1, dr1, okc2, len2, tk2, dr2, drop0])
    | (((first
      | with_reducible refine region_0k ?_
      | (with_reducible refine region_Dk (id := 11) 7 ?_ ?_; · kernel_rfl)
      | (with_reducible refine region_Dk (id := 18) 5 ?_ ?_; · kernel_rfl)
      | (with_reducible refine region_Dk (id := 20) 5 ?_ ?_; · kernel_rfl)
      | (with_reducible refine region_Dk (id := 22) 5 ?_ ?_; · kernel_rfl)
      ); intro ds hds; simp only [List.map] at hds; subst hds); refine reT (by simp only [pz, ↓reduceIte, Nat.reduceEqDiff, Nat.reduceAdd, Nat.reduceSub, Nat.reduceMul, Nat.reduceLeDiff, Nat.reduceBEq, Bool.false_eq_true, decide_true, decide_false, Int.reduceLE, Int.reduceToNat, Int.reduceLT, Int.reduceEq, eq_self, Nat.reduceShiftRight, Nat.reduceAnd, Nat.reduceBneDiff, okc0, len0, tk0, dr0, okc1, len1, tk1, dr1, okc2, len2, tk2, dr2, drop0]; exact rfl) ?_; try refine wkI ?_)))
  ((first
    | with_reducible refine region_0k ?_
    | (with_reducible refine region_Dk (id := 11) 7 ?_ ?_; · kernel_rfl)
    | (with_reducible refine region_Dk (id := 18) 5 ?_ ?_; · kernel_rfl)
    | (with_reducible refine region_Dk (id := 20) 5 ?_ ?_; · kernel_rfl)
    | (with_reducible refine region_Dk (id := 22) 5 ?_ ?_; · kernel_rfl)
    ); intro ds hds; simp only [List.map] at hds; subst hds)
  (refine rcT (by simp only [pz, ↓reduceIte, Nat.reduceEqDiff, Nat.reduceAdd, Nat.reduceSub, Nat.reduceMul, Nat.reduceLeDiff, Nat.reduceBEq, Bool.false_eq_true, decide_true, decide_false, Int.reduceLE, Int.reduceToNat, Int.reduceLT, Int.reduceEq, eq_self, Nat.reduceShiftRight, Nat.reduceAnd, Nat.reduceBneDiff, okc0, len0, tk0, dr0, okc1, len1, tk1, dr1, okc2, len2, tk2, dr2, drop0]; exact rfl) (cT1) (by simp only [setA, retA]; exact rfl) ?_)
  (refine reT (by simp only [pz, ↓reduceIte, Nat.reduceEqDiff, Nat.reduceAdd, Nat.reduceSub, Nat.reduceMul, Nat.reduceLeDiff, Nat.reduceBEq, Bool.false_eq_true, decide_true, decide_false, Int.reduceLE, Int.reduceToNat, Int.reduceLT, Int.reduceEq, eq_self, Nat.reduceShiftRight, Nat.reduceAnd, Nat.reduceBneDiff, okc0, len0, tk0, dr0, okc1, len1, tk1, dr1, okc2, len2, tk2, dr2, drop0]; exact rfl) ?_; first | (change pwp _ _ _ _ _) | refine wkI ?_ | skip)
  (repeat (first
    | with_reducible refine pwp_seqW ?_
    | with_reducible refine pwp_block ?_
    | ((first | with_reducible refine pwp_skip ?_ | with_reducible refine pwp_exit ?_); try refine wkI ?_)
    | (with_reducible refine pwp_ct ?_ ?_; · simp only [pz, ↓reduceIte, Nat.reduceEqDiff, okc0, len0, tk0, dr0, okc1, len1, tk1, dr1, okc2, len2, tk2, dr2, drop0])
    | (with_reducible refine pwp_cf ?_ ?_; · simp only [pz, ↓reduceIte, Nat.reduceEqDiff, okc0, len0, tk0, dr0, okc1, len1, tk1, dr1, okc2, len2, tk2, dr2, drop0])
    | (((first
      | with_reducible refine region_0k ?_
      | (with_reducible refine region_Dk (id := 11) 7 ?_ ?_; · kernel_rfl)
      | (with_reducible refine region_Dk (id := 18) 5 ?_ ?_; · kernel_rfl)
      | (with_reducible refine region_Dk (id := 20) 5 ?_ ?_; · kernel_rfl)
      | (with_reducible refine region_Dk (id := 22) 5 ?_ ?_; · kernel_rfl)
      ); intro ds hds; simp only [List.map] at hds; subst hds); refine reT (by simp only [pz, ↓reduceIte, Nat.reduceEqDiff, Nat.reduceAdd, Nat.reduceSub, Nat.reduceMul, Nat.reduceLeDiff, Nat.reduceBEq, Bool.false_eq_true, decide_true, decide_false, Int.reduceLE, Int.reduceToNat, Int.reduceLT, Int.reduceEq, eq_self, Nat.reduceShiftRight, Nat.reduceAnd, Nat.reduceBneDiff, okc0, len0, tk0, dr0, okc1, len1, tk1, dr1, okc2, len2, tk2, dr2, drop0]; exact rfl) ?_; try refine wkI ?_)))
  ((first
    | with_reducible refine region_0k ?_
    | (with_reducible refine region_Dk (id := 11) 7 ?_ ?_; · kernel_rfl)
    | (with_reducible refine region_Dk (id := 18) 5 ?_ ?_; · kernel_rfl)
    | (with_reducible refine region_Dk (id := 20) 5 ?_ ?_; · kernel_rfl)
    | (with_reducible refine region_Dk (id := 22) 5 ?_ ?_; · kernel_rfl)
    ); intro ds hds; simp only [List.map] at hds; subst hds)
  (refine rcT (by simp only [pz, ↓reduceIte, Nat.reduceEqDiff, Nat.reduceAdd, Nat.reduceSub, Nat.reduceMul, Nat.reduceLeDiff, Nat.reduceBEq, Bool.false_eq_true, decide_true, decide_false, Int.reduceLE, Int.reduceToNat, Int.reduceLT, Int.reduceEq, eq_self, Nat.reduceShiftRight, Nat.reduceAnd, Nat.reduceBneDiff, okc0, len0, tk0, dr0, okc1, len1, tk1, dr1, okc2, len2, tk2, dr2, drop0]; exact rfl) (cT2) (by simp only [setA, retA]; exact rfl) ?_)
  (refine reT (by simp only [pz, ↓reduceIte, Nat.reduceEqDiff, Nat.reduceAdd, Nat.reduceSub, Nat.reduceMul, Nat.reduceLeDiff, Nat.reduceBEq, Bool.false_eq_true, decide_true, decide_false, Int.reduceLE, Int.reduceToNat, Int.reduceLT, Int.reduceEq, eq_self, Nat.reduceShiftRight, Nat.reduceAnd, Nat.reduceBneDiff, okc0, len0, tk0, dr0, okc1, len1, tk1, dr1, okc2, len2, tk2, dr2, drop0]; exact rfl) ?_; first | (change pwp _ _ _ _ _) | refine wkI ?_ | skip)
  (repeat (first
    | with_reducible refine pwp_seqW ?_
    | with_reducible refine pwp_block ?_
    | ((first | with_reducible refine pwp_skip ?_ | with_reducible refine pwp_exit ?_); try refine wkI ?_)
    | (with_reducible refine pwp_ct ?_ ?_; · simp only [pz, ↓reduceIte, Nat.reduceEqDiff, okc0, len0, tk0, dr0, okc1, len1, tk1, dr1, okc2, len2, tk2, dr2, drop0])
    | (with_reducible refine pwp_cf ?_ ?_; · simp only [pz, ↓reduceIte, Nat.reduceEqDiff, okc0, len0, tk0, dr0, okc1, len1, tk1, dr1, okc2, len2, tk2, dr2, drop0])
    | (((first
      | with_reducible refine region_0k ?_
      | (with_reducible refine region_Dk (id := 11) 7 ?_ ?_; · kernel_rfl)
      | (with_reducible refine region_Dk (id := 18) 5 ?_ ?_; · kernel_rfl)
      | (with_reducible refine region_Dk (id := 20) 5 ?_ ?_; · kernel_rfl)
      | (with_reducible refine region_Dk (id := 22) 5 ?_ ?_; · kernel_rfl)
      ); intro ds hds; simp only [List.map] at hds; subst hds); refine reT (by simp only [pz, ↓reduceIte, Nat.reduceEqDiff, Nat.reduceAdd, Nat.reduceSub, Nat.reduceMul, Nat.reduceLeDiff, Nat.reduceBEq, Bool.false_eq_true, decide_true, decide_false, Int.reduceLE, Int.reduceToNat, Int.reduceLT, Int.reduceEq, eq_self, Nat.reduceShiftRight, Nat.reduceAnd, Nat.reduceBneDiff, okc0, len0, tk0, dr0, okc1, len1, tk1, dr1, okc2, len2, tk2, dr2, drop0]; exact rfl) ?_; try refine wkI ?_)))
  ((first
    | with_reducible refine region_0k ?_
    | (with_reducible refine region_Dk (id := 11) 7 ?_ ?_; · kernel_rfl)
    | (with_reducible refine region_Dk (id := 18) 5 ?_ ?_; · kernel_rfl)
    | (with_reducible refine region_Dk (id := 20) 5 ?_ ?_; · kernel_rfl)
    | (with_reducible refine region_Dk (id := 22) 5 ?_ ?_; · kernel_rfl)
    ); intro ds hds; simp only [List.map] at hds; subst hds)
  (refine rcT (by simp only [pz, ↓reduceIte, Nat.reduceEqDiff, Nat.reduceAdd, Nat.reduceSub, Nat.reduceMul, Nat.reduceLeDiff, Nat.reduceBEq, Bool.false_eq_true, decide_true, decide_false, Int.reduceLE, Int.reduceToNat, Int.reduceLT, Int.reduceEq, eq_self, Nat.reduceShiftRight, Nat.reduceAnd, Nat.reduceBneDiff, okc0, len0, tk0, dr0, okc1, len1, tk1, dr1, okc2, len2, tk2, dr2, drop0]; exact rfl) (him) (by simp only [setA, retA]; exact rfl) ?_)
  (refine reT (by simp only [pz, ↓reduceIte, Nat.reduceEqDiff, Nat.reduceAdd, Nat.reduceSub, Nat.reduceMul, Nat.reduceLeDiff, Nat.reduceBEq, Bool.false_eq_true, decide_true, decide_false, Int.reduceLE, Int.reduceToNat, Int.reduceLT, Int.reduceEq, eq_self, Nat.reduceShiftRight, Nat.reduceAnd, Nat.reduceBneDiff, okc0, len0, tk0, dr0, okc1, len1, tk1, dr1, okc2, len2, tk2, dr2, drop0]; exact rfl) ?_; first | (change pwp _ _ _ _ _) | refine wkI ?_ | skip)
  (repeat (first
    | with_reducible refine pwp_seqW ?_
    | with_reducible refine pwp_block ?_
    | ((first | with_reducible refine pwp_skip ?_ | with_reducible refine pwp_exit ?_); try refine wkI ?_)
    | (with_reducible refine pwp_ct ?_ ?_; · simp only [pz, ↓reduceIte, Nat.reduceEqDiff, okc0, len0, tk0, dr0, okc1, len1, tk1, dr1, okc2, len2, tk2, dr2, drop0, beq_self_eq_true, decide_true])
    | (with_reducible refine pwp_cf ?_ ?_; · simp only [pz, ↓reduceIte, Nat.reduceEqDiff, okc0, len0, tk0, dr0, okc1, len1, tk1, dr1, okc2, len2, tk2, dr2, drop0, beq_self_eq_true, decide_true])
    | (((first
      | with_reducible refine region_0k ?_
      | (with_reducible refine region_Dk (id := 11) 7 ?_ ?_; · kernel_rfl)
      | (with_reducible refine region_Dk (id := 18) 5 ?_ ?_; · kernel_rfl)
      | (with_reducible refine region_Dk (id := 20) 5 ?_ ?_; · kernel_rfl)
      | (with_reducible refine region_Dk (id := 22) 5 ?_ ?_; · kernel_rfl)
      ); intro ds hds; simp only [List.map] at hds; subst hds); refine reT (by simp only [pz, ↓reduceIte, Nat.reduceEqDiff, Nat.reduceAdd, Nat.reduceSub, Nat.reduceMul, Nat.reduceLeDiff, Nat.reduceBEq, Bool.false_eq_true, decide_true, decide_false, Int.reduceLE, Int.reduceToNat, Int.reduceLT, Int.reduceEq, eq_self, Nat.reduceShiftRight, Nat.reduceAnd, Nat.reduceBneDiff, okc0, len0, tk0, dr0, okc1, len1, tk1, dr1, okc2, len2, tk2, dr2, drop0, beq_self_eq_true, decide_true]; exact rfl) ?_; try refine wkI ?_)))
  ((first
    | with_reducible refine region_0k ?_
    | (with_reducible refine region_Dk (id := 11) 7 ?_ ?_; · kernel_rfl)
    | (with_reducible refine region_Dk (id := 18) 5 ?_ ?_; · kernel_rfl)
    | (with_reducible refine region_Dk (id := 20) 5 ?_ ?_; · kernel_rfl)
    | (with_reducible refine region_Dk (id := 22) 5 ?_ ?_; · kernel_rfl)
    ); intro ds hds; simp only [List.map] at hds; subst hds)
  (refine rcT (by simp only [pz, ↓reduceIte, Nat.reduceEqDiff, Nat.reduceAdd, Nat.reduceSub, Nat.reduceMul, Nat.reduceLeDiff, Nat.reduceBEq, Bool.false_eq_true, decide_true, decide_false, Int.reduceLE, Int.reduceToNat, Int.reduceLT, Int.reduceEq, eq_self, Nat.reduceShiftRight, Nat.reduceAnd, Nat.reduceBneDiff, okc0, len0, tk0, dr0, okc1, len1, tk1, dr1, okc2, len2, tk2, dr2, drop0]; exact rfl) (cT0) (by simp only [setA, retA]; exact rfl) ?_)
  (refine rcT (by simp only [pz, ↓reduceIte, Nat.reduceEqDiff, Nat.reduceAdd, Nat.reduceSub, Nat.reduceMul, Nat.reduceLeDiff, Nat.reduceBEq, Bool.false_eq_true, decide_true, decide_false, Int.reduceLE, Int.reduceToNat, Int.reduceLT, Int.reduceEq, eq_self, Nat.reduceShiftRight, Nat.reduceAnd, Nat.reduceBneDiff, okc0, len0, tk0, dr0, okc1, len1, tk1, dr1, okc2, len2, tk2, dr2, drop0]; exact rfl) (con_eqSignature hok0) (by simp only [setA, retA]; exact rfl) ?_)
  (refine reT (by simp only [pz, ↓reduceIte, Nat.reduceEqDiff, Nat.reduceAdd, Nat.reduceSub, Nat.reduceMul, Nat.reduceLeDiff, Nat.reduceBEq, Bool.false_eq_true, decide_true, decide_false, Int.reduceLE, Int.reduceToNat, Int.reduceLT, Int.reduceEq, eq_self, Nat.reduceShiftRight, Nat.reduceAnd, Nat.reduceBneDiff, okc0, len0, tk0, dr0, okc1, len1, tk1, dr1, okc2, len2, tk2, dr2, drop0]; exact rfl) ?_; first | (change pwp _ _ _ _ _) | refine wkI ?_ | skip)
  (repeat (first
    | with_reducible refine pwp_seqW ?_
    | with_reducible refine pwp_block ?_
    | ((first | with_reducible refine pwp_skip ?_ | with_reducible refine pwp_exit ?_); try refine wkI ?_)
    | (with_reducible refine pwp_ct ?_ ?_; · simp only [pz, ↓reduceIte, Nat.reduceEqDiff, okc0, len0, tk0, dr0, okc1, len1, tk1, dr1, okc2, len2, tk2, dr2, drop0])
    | (with_reducible refine pwp_cf ?_ ?_; · simp only [pz, ↓reduceIte, Nat.reduceEqDiff, okc0, len0, tk0, dr0, okc1, len1, tk1, dr1, okc2, len2, tk2, dr2, drop0])
    | (((first
      | with_reducible refine region_0k ?_
      | (with_reducible refine region_Dk (id := 11) 7 ?_ ?_; · kernel_rfl)
      | (with_reducible refine region_Dk (id := 18) 5 ?_ ?_; · kernel_rfl)
      | (with_reducible refine region_Dk (id := 20) 5 ?_ ?_; · kernel_rfl)
      | (with_reducible refine region_Dk (id := 22) 5 ?_ ?_; · kernel_rfl)
      ); intro ds hds; simp only [List.map] at hds; subst hds); refine reT (by simp only [pz, ↓reduceIte, Nat.reduceEqDiff, Nat.reduceAdd, Nat.reduceSub, Nat.reduceMul, Nat.reduceLeDiff, Nat.reduceBEq, Bool.false_eq_true, decide_true, decide_false, Int.reduceLE, Int.reduceToNat, Int.reduceLT, Int.reduceEq, eq_self, Nat.reduceShiftRight, Nat.reduceAnd, Nat.reduceBneDiff, okc0, len0, tk0, dr0, okc1, len1, tk1, dr1, okc2, len2, tk2, dr2, drop0]; exact rfl) ?_; try refine wkI ?_)))
  ((first
    | with_reducible refine region_0k ?_
    | (with_reducible refine region_Dk (id := 11) 7 ?_ ?_; · kernel_rfl)
    | (with_reducible refine region_Dk (id := 18) 5 ?_ ?_; · kernel_rfl)
    | (with_reducible refine region_Dk (id := 20) 5 ?_ ?_; · kernel_rfl)
    | (with_reducible refine region_Dk (id := 22) 5 ?_ ?_; · kernel_rfl)
    ); intro ds hds; simp only [List.map] at hds; subst hds)
  (refine rcT (by simp only [pz, ↓reduceIte, Nat.reduceEqDiff, Nat.reduceAdd, Nat.reduceSub, Nat.reduceMul, Nat.reduceLeDiff, Nat.reduceBEq, Bool.false_eq_true, decide_true, decide_false, Int.reduceLE, Int.reduceToNat, Int.reduceLT, Int.reduceEq, eq_self, Nat.reduceShiftRight, Nat.reduceAnd, Nat.reduceBneDiff, okc0, len0, tk0, dr0, okc1, len1, tk1, dr1, okc2, len2, tk2, dr2, drop0]; exact rfl) (cT1) (by simp only [setA, retA]; exact rfl) ?_)
  (refine rcT (by simp only [pz, ↓reduceIte, Nat.reduceEqDiff, Nat.reduceAdd, Nat.reduceSub, Nat.reduceMul, Nat.reduceLeDiff, Nat.reduceBEq, Bool.false_eq_true, decide_true, decide_false, Int.reduceLE, Int.reduceToNat, Int.reduceLT, Int.reduceEq, eq_self, Nat.reduceShiftRight, Nat.reduceAnd, Nat.reduceBneDiff, okc0, len0, tk0, dr0, okc1, len1, tk1, dr1, okc2, len2, tk2, dr2, drop0]; exact rfl) (con_eqTerm hok1) (by simp only [setA, retA]; exact rfl) ?_)
  (refine reT (by simp only [pz, ↓reduceIte, Nat.reduceEqDiff, Nat.reduceAdd, Nat.reduceSub, Nat.reduceMul, Nat.reduceLeDiff, Nat.reduceBEq, Bool.false_eq_true, decide_true, decide_false, Int.reduceLE, Int.reduceToNat, Int.reduceLT, Int.reduceEq, eq_self, Nat.reduceShiftRight, Nat.reduceAnd, Nat.reduceBneDiff, okc0, len0, tk0, dr0, okc1, len1, tk1, dr1, okc2, len2, tk2, dr2, drop0]; exact rfl) ?_; first | (change pwp _ _ _ _ _) | refine wkI ?_ | skip)
  (repeat (first
    | with_reducible refine pwp_seqW ?_
    | with_reducible refine pwp_block ?_
    | ((first | with_reducible refine pwp_skip ?_ | with_reducible refine pwp_exit ?_); try refine wkI ?_)
    | (with_reducible refine pwp_ct ?_ ?_; · simp only [pz, ↓reduceIte, Nat.reduceEqDiff, okc0, len0, tk0, dr0, okc1, len1, tk1, dr1, okc2, len2, tk2, dr2, drop0])
    | (with_reducible refine pwp_cf ?_ ?_; · simp only [pz, ↓reduceIte, Nat.reduceEqDiff, okc0, len0, tk0, dr0, okc1, len1, tk1, dr1, okc2, len2, tk2, dr2, drop0])
    | (((first
      | with_reducible refine region_0k ?_
      | (with_reducible refine region_Dk (id := 11) 7 ?_ ?_; · kernel_rfl)
      | (with_reducible refine region_Dk (id := 18) 5 ?_ ?_; · kernel_rfl)
      | (with_reducible refine region_Dk (id := 20) 5 ?_ ?_; · kernel_rfl)
      | (with_reducible refine region_Dk (id := 22) 5 ?_ ?_; · kernel_rfl)
      ); intro ds hds; simp only [List.map] at hds; subst hds); refine reT (by simp only [pz, ↓reduceIte, Nat.reduceEqDiff, Nat.reduceAdd, Nat.reduceSub, Nat.reduceMul, Nat.reduceLeDiff, Nat.reduceBEq, Bool.false_eq_true, decide_true, decide_false, Int.reduceLE, Int.reduceToNat, Int.reduceLT, Int.reduceEq, eq_self, Nat.reduceShiftRight, Nat.reduceAnd, Nat.reduceBneDiff, okc0, len0, tk0, dr0, okc1, len1, tk1, dr1, okc2, len2, tk2, dr2, drop0]; exact rfl) ?_; try refine wkI ?_)))
  ((first
    | with_reducible refine region_0k ?_
    | (with_reducible refine region_Dk (id := 11) 7 ?_ ?_; · kernel_rfl)
    | (with_reducible refine region_Dk (id := 18) 5 ?_ ?_; · kernel_rfl)
    | (with_reducible refine region_Dk (id := 20) 5 ?_ ?_; · kernel_rfl)
    | (with_reducible refine region_Dk (id := 22) 5 ?_ ?_; · kernel_rfl)
    ); intro ds hds; simp only [List.map] at hds; subst hds)
  (refine rcT (by simp only [pz, ↓reduceIte, Nat.reduceEqDiff, Nat.reduceAdd, Nat.reduceSub, Nat.reduceMul, Nat.reduceLeDiff, Nat.reduceBEq, Bool.false_eq_true, decide_true, decide_false, Int.reduceLE, Int.reduceToNat, Int.reduceLT, Int.reduceEq, eq_self, Nat.reduceShiftRight, Nat.reduceAnd, Nat.reduceBneDiff, okc0, len0, tk0, dr0, okc1, len1, tk1, dr1, okc2, len2, tk2, dr2, drop0]; exact rfl) (cT2) (by simp only [setA, retA]; exact rfl) ?_)
  (refine rcT (by simp only [pz, ↓reduceIte, Nat.reduceEqDiff, Nat.reduceAdd, Nat.reduceSub, Nat.reduceMul, Nat.reduceLeDiff, Nat.reduceBEq, Bool.false_eq_true, decide_true, decide_false, Int.reduceLE, Int.reduceToNat, Int.reduceLT, Int.reduceEq, eq_self, Nat.reduceShiftRight, Nat.reduceAnd, Nat.reduceBneDiff, okc0, len0, tk0, dr0, okc1, len1, tk1, dr1, okc2, len2, tk2, dr2, drop0]; exact rfl) (con_eqTerm hok2) (by simp only [setA, retA]; exact rfl) ?_)
  (refine reT (by simp only [pz, ↓reduceIte, Nat.reduceEqDiff, Nat.reduceAdd, Nat.reduceSub, Nat.reduceMul, Nat.reduceLeDiff, Nat.reduceBEq, Bool.false_eq_true, decide_true, decide_false, Int.reduceLE, Int.reduceToNat, Int.reduceLT, Int.reduceEq, eq_self, Nat.reduceShiftRight, Nat.reduceAnd, Nat.reduceBneDiff, okc0, len0, tk0, dr0, okc1, len1, tk1, dr1, okc2, len2, tk2, dr2, drop0]; exact rfl) ?_; first | (change pwp _ _ _ _ _) | refine wkI ?_ | skip)
  ((repeat (first
    | with_reducible refine pwp_seqW ?_
    | with_reducible refine pwp_block ?_
    | ((first | with_reducible refine pwp_skip ?_ | with_reducible refine pwp_exit ?_); try refine wkI ?_)
    | (with_reducible refine pwp_ct ?_ ?_; · simp only [pz, ↓reduceIte, Nat.reduceEqDiff, okc0, len0, tk0, dr0, okc1, len1, tk1, dr1, okc2, len2, tk2, dr2, drop0])
    | (with_reducible refine pwp_cf ?_ ?_; · simp only [pz, ↓reduceIte, Nat.reduceEqDiff, okc0, len0, tk0, dr0, okc1, len1, tk1, dr1, okc2, len2, tk2, dr2, drop0])
    | (((first
      | with_reducible refine region_0k ?_
      | (with_reducible refine region_Dk (id := 11) 7 ?_ ?_; · kernel_rfl)
      | (with_reducible refine region_Dk (id := 18) 5 ?_ ?_; · kernel_rfl)
      | (with_reducible refine region_Dk (id := 20) 5 ?_ ?_; · kernel_rfl)
      | (with_reducible refine region_Dk (id := 22) 5 ?_ ?_; · kernel_rfl)
      ); intro ds hds; simp only [List.map] at hds; subst hds); refine reT (by simp only [pz, ↓reduceIte, Nat.reduceEqDiff, Nat.reduceAdd, Nat.reduceSub, Nat.reduceMul, Nat.reduceLeDiff, Nat.reduceBEq, Bool.false_eq_true, decide_true, decide_false, Int.reduceLE, Int.reduceToNat, Int.reduceLT, Int.reduceEq, eq_self, Nat.reduceShiftRight, Nat.reduceAnd, Nat.reduceBneDiff, okc0, len0, tk0, dr0, okc1, len1, tk1, dr1, okc2, len2, tk2, dr2, drop0]; exact rfl) ?_; try refine wkI ?_)))
   refine pwp_ret (ret_ok ?_)
   simp [resOk, resA, resSlots, gs, okc0, len0, tk0, dr0, okc1, len1, tk1, dr1, okc2, len2, tk2, dr2, drop0])
theorem lawExactMayMatch (w : World) (row0 : List C) (S0 : Nat → Prop) (us0 : List Value) (hok0 : okRow (sigF) row0) (hv0 : RepVals w S0 row0 us0) (row1 : List C) (S1 : Nat → Prop) (us1 : List Value) (hok1 : okRow (fieldsOf .term) row1) (hv1 : RepVals w S1 row1 us1) (row2 : List C) (S2 : Nat → Prop) (us2 : List Value) (hok2 : okRow (fieldsOf .term) row2) (hv2 : RepVals w S2 row2 us2) :
    Calls Try.prog 6 #[.agg us0.toArray, .agg us1.toArray, .agg us2.toArray] w fun e w' => e = .returned (.bool true) ∧ Below w.heap.size w w' := by
  obtain ⟨g, rfl, k0⟩ := decSgn hok0
  obtain ⟨p, rfl, k1⟩ := decTm hok1
  obtain ⟨t, rfl, k2⟩ := decTm hok2
  have hc := (con_lawMayMatch hok0 hok1 hok2 (fun b0 b1 b2 => con_specMay k0 k1 k2 (big_of_bulk b1) (big_of_bulk b2)) (fun b0 b1 b2 => con_implMay k0 k1 k2 (big_of_bulk b1) (big_of_bulk b2))).2 w (fun b => b < w.heap.size) [.agg us0.toArray, .agg us1.toArray, .agg us2.toArray] (fun b hb => ⟨hb, id⟩) (fun b hb => hb.elim) trivial
    ⟨⟨us0, rfl, hv0.inside'⟩, ⟨us1, rfl, hv1.inside'⟩, ⟨us2, rfl, hv2.inside'⟩, trivial⟩
  refine hc.mono fun e w' ⟨v, h1, h2, _, h4⟩ => ⟨?_, h2.below⟩
  have h4 : v = .bool true := by simpa [retA, ARel, DRel, Rep] using h4
  rw [h1, h4]
end Go.Proofs.Ytmpcbijkbgmjkaa

namespace Go.Proofs.Ytmpcbijkbgmjkaa
open Go.ChangeShapes Go.WideShapes Go.ChangeAt Go.RowKit Go.Deep

set_option maxRecDepth 100000 in
theorem mayMatch_holds_lifted (os : Os) (started : os.Started) (H : Type) (enc : TypeId × Value → H) :
    ReturnsInHanded {} Try.checked os 6 .any (Rows.fnExactMayMatchSpec.pre6 enc Try.prog Try.f6 Rows.fnExactMayMatchRow.domain false) (Rows.fnExactMayMatchSpec.post enc Try.prog Try.f6 false true false false) := by
  refine returnsInHanded_of_change (C := Try.checked) own started (by kernel_rfl) Try.func6
    (ChangeSpec.witness6 (enc := enc) (C := Try.checked) false ⟨#[], #[.agg #[.slice none 0 0, .slice none 0 0, .slice none 0 0], .agg #[.int .i64 0, .string .empty, .int .i64 0, .slice none 0 0], .agg #[.int .i64 0, .string .empty, .int .i64 0, .slice none 0 0]], []⟩ 8 (by kernel_rfl) (by kernel_rfl) (by kernel_rfl) (by kernel_rfl)) ?_
  intro W base args ds gs before hval0 hW _ _
  have hval : ∀ (j : Nat) t v, Try.f6.params[j]? = some t → args[j]? = some v → Value.okWide Try.prog W .any base t v := hval0
  have hW' := hW
  obtain ⟨p, q, hA0, hV, rfl, _, _⟩ := hW
  have hA : DataW.TrodAll enc Try.prog W 0 (fun _ => true) true Try.f6.params.toList args.toList ds p := hA0
  rw [Try.params6] at hA hval
  obtain ⟨v0, vs0, d0, ds0, p0, q0, hargs0, hd0, hp0, h0, r0⟩ := trodAll_cons hA
  obtain ⟨v1, vs1, d1, ds1, p1, q1, hargs1, hd1, hp1, h1, r1⟩ := trodAll_cons r0
  obtain ⟨v2, vs2, d2, ds2, p2, q2, hargs2, hd2, hp2, h2, r2⟩ := trodAll_cons r1
  obtain ⟨e3, e3d, _⟩ := trodAll_nil r2
  rw [e3] at hargs2
  rw [hargs2] at hargs1
  rw [hargs1] at hargs0
  obtain rfl : args = #[v0, v1, v2] := by cases args; simp_all
  rw [e3d] at hd2
  rw [hd2] at hd1
  rw [hd1] at hd0
  subst hd0
  obtain ⟨rfl, rfl⟩ := trodVars_none hV
  obtain ⟨cs0, rfl, _⟩ := okWide_struct Try.underlying45 (hval 0 45 v0 rfl rfl)
  obtain ⟨fuel0, hf0⟩ := h0
  obtain ⟨row0, hok0, hrep0⟩ := open_row seatTR fuel0 _ _ _ _ ty_Signature hf0
  have e0c : (Value.agg cs0).cells.toList.toArray = cs0 := by simp [Value.cells]
  obtain ⟨cs1, rfl, _⟩ := okWide_struct Try.underlying24 (hval 1 24 v1 rfl rfl)
  obtain ⟨fuel1, hf1⟩ := h1
  obtain ⟨row1, hok1, hrep1⟩ := open_row seatTR fuel1 _ _ _ _ ty_Term hf1
  have e1c : (Value.agg cs1).cells.toList.toArray = cs1 := by simp [Value.cells]
  obtain ⟨cs2, rfl, _⟩ := okWide_struct Try.underlying24 (hval 2 24 v2 rfl rfl)
  obtain ⟨fuel2, hf2⟩ := h2
  obtain ⟨row2, hok2, hrep2⟩ := open_row seatTR fuel2 _ _ _ _ ty_Term hf2
  have e2c : (Value.agg cs2).cells.toList.toArray = cs2 := by simp [Value.cells]
  have hlaw := lawExactMayMatch W row0 _ _ hok0 hrep0 row1 _ _ hok1 hrep1 row2 _ _ hok2 hrep2
  rw [e0c, e1c, e2c] at hlaw
  refine hlaw.mono fun e W' ⟨he, hb⟩ => ?_
  subst he
  exact ⟨_, rfl, law_post laidOut rfl rfl Try.underlying4 (by rw [Try.params6]; decide +kernel) hW' rfl hb⟩

theorem mayMatch_holds : Rows.FnExactMayMatchSaid :=
  OpenClaim.holds_of_wide 6 Try.f6 rfl rfl rfl rfl rfl rfl rfl ⟨rfl, rfl, rfl, rfl, rfl⟩ rfl rfl rfl rfl rfl (by kernel_rfl) Try.func6 (by kernel_rfl)
    (of_decide_eq_true (by kernel_rfl)) (by unfold Func.isWrapper; rw [if_neg (of_decide_eq_false (by kernel_rfl))]; exact ⟨rfl, rfl⟩)
    (fun os started H enc _ => mayMatch_holds_lifted os started H enc)
#print axioms mayMatch_holds
end Go.Proofs.Ytmpcbijkbgmjkaa

