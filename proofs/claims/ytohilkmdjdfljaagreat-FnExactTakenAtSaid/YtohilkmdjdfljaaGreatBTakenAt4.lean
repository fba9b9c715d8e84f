/-
  Part of a proof: Tn, Sc, Ss, By, Mt, Om, Sl, Rd, Ti, Tj, Cf, To, Tq, Tp, Sb, Fi, As, Lc, Sy, Sf, Tr, Tz, Rl, Du, Mk, Hd, Os, Hb, Hu, KsString, KsSub, KtSorts, Mi, KsDecl, KsOp, KtSignature, KsBinding, KtOccurrence, Cn.
-/
import Derived.Test.YtohilkmdjdfljaaGreatBTakenAt0
import Derived.Test.YtohilkmdjdfljaaGreatBTakenAt1
import Derived.Test.YtohilkmdjdfljaaGreatBTakenAt2
import Derived.Test.YtohilkmdjdfljaaGreatBTakenAt3
set_option linter.unusedSimpArgs false
set_option linter.unusedVariables false
namespace Go.Proofs.YtohilkmdjdfljaaGreat
open Go.RowKit
def wo : List Tm -> List Tm -> List Tm × Bool
 | l, [] => (l, true)
 | [], _ :: _ => ([], false)
 | a :: l, o :: os => if cmpTm a o = 0 then wo l os else (a :: (wo l (o :: os)).1, (wo l (o :: os)).2)
theorem wo_nil (l : List Tm) : wo l [] = (l, true) := by cases l <;> rfl
def rmT (s : Tm) : List Tm -> Option (List Tm)
 | [] => none
 | a :: l => if cmpTm a s = 0 then some l else (rmT s l).map (a :: ·)
def takeL : List Tm -> List Tm -> Option (List Tm)
 | l, [] => some l
 | l, s :: ss => (rmT s l).bind fun l' => takeL l' ss
theorem rmT_none {s : Tm} {l : List Tm} (h : ∀ a ∈ l, cmpTm a s ≠ 0) : rmT s l = none := by
 induction l with
 | nil => rfl
 | cons a l ih =>
  simp only [rmT, if_neg (h a List.mem_cons_self), ih fun x hx => h x (List.mem_cons_of_mem _ hx), Option.map_none]
theorem rmT_at {s : Tm} : ∀ {l : List Tm} {i : Nat} {x : Tm}, l[i]? = some x -> cmpTm x s = 0 -> (∀ (j : Nat) a, j < i -> l[j]? = some a -> cmpTm a s ≠ 0) -> rmT s l = some (l.take i ++ l.drop (i + 1))
 | [], i, x, h, _, _ => by simp at h
 | a :: l, 0, x, h, hx, _ => by
  simp at h; subst h
  simp [rmT, hx]
 | a :: l, i + 1, x, h, hx, hb => by
  have h0 := hb 0 a (by omega) (by simp)
  have := rmT_at (l := l) (i := i) (by simpa using h) hx fun j b hj hjb => hb (j + 1) b (by omega) (by simpa using hjb)
  simp [rmT, h0, this]
theorem rmT_len {s : Tm} : ∀ {l l' : List Tm}, rmT s l = some l' -> l'.length + 1 = l.length
 | [], l', h => by simp [rmT] at h
 | a :: l, l', h => by
  simp only [rmT] at h
  split at h
  ·injection h with h; subst h; simp
  ·cases hr : rmT s l with
   | none => rw [hr] at h; cases h
   | some r =>
    rw [hr] at h
    injection h with h
    subst h
    have := rmT_len hr
    simp; omega
theorem takeL_len : ∀ {ss l l' : List Tm}, takeL l ss = some l' -> l'.length + ss.length = l.length
 | [], l, l', h => by simp only [takeL] at h; injection h with h; subst h; simp
 | s :: ss, l, l', h => by
  simp only [takeL] at h
  cases hr : rmT s l with
  | none => rw [hr] at h; cases h
  | some r =>
   rw [hr] at h
   have h1 := takeL_len (ss := ss) h
   have h2 := rmT_len hr
   simp only [List.length_cons]; omega
def AscE (l : List Tm) : Prop := l.Pairwise fun a b => cmpTm a b <= 0
theorem rmT_cons {a s : Tm} {l : List Tm} (h : cmpTm a s ≠ 0) : rmT s (a :: l) = (rmT s l).map (a :: ·) := by simp [rmT, h]
theorem takeL_cons {a : Tm} : ∀ {ss l : List Tm}, (∀ s ∈ ss, cmpTm a s ≠ 0) -> takeL (a :: l) ss = (takeL l ss).map (a :: ·)
 | [], l, _ => rfl
 | s :: ss, l, h => by
  simp only [takeL, rmT_cons (h s List.mem_cons_self)]
  cases hr : rmT s l with
  | none => rfl
  | some r =>
   simp only [Option.map_some, Option.bind_some]
   exact takeL_cons fun x hx => h x (List.mem_cons_of_mem _ hx)
theorem wo_take : ∀ {l os : List Tm}, AscE l -> AscE os -> ((wo l os).2 = true ↔ (takeL l os).isSome = true) ∧ ((wo l os).2 = true -> takeL l os = some (wo l os).1)
 | l, [], _, _ => by rw [wo_nil]; simp [takeL]
 | [], o :: os, _, _ => by simp [wo, takeL, rmT]
 | a :: l, o :: os, hl, ho => by
  have hl' := List.pairwise_cons.1 hl
  have ho' := List.pairwise_cons.1 ho
  by_cases h : cmpTm a o = 0
  ·have ih := wo_take (l := l) (os := os) hl'.2 ho'.2
   simp only [wo, if_pos h, takeL, rmT, Option.bind_some]
   exact ih
  ·have ih := wo_take (l := l) (os := o :: os) hl'.2 ho
   simp only [wo, if_neg h]
   by_cases hlt : cmpTm a o < 0
   ·have hne : ∀ s ∈ o :: os, cmpTm a s ≠ 0 := fun s hs e => by
     rcases List.mem_cons.1 hs with rfl | hs
     ·omega
     ·have h1 := ho'.1 s hs
      have h2 := (cmpTm_tri a o s).1.2.1 hlt h1
      omega
    rw [takeL_cons hne]
    refine ⟨by rw [ih.1]; cases takeL l (o :: os) <;> simp, fun hw => ?_⟩
    rw [ih.2 hw]; rfl
   ·have hgt : ∀ x ∈ a :: l, cmpTm x o ≠ 0 := fun x hx e => by
     rcases List.mem_cons.1 hx with rfl | hx
     ·exact h e
     ·have h1 := hl'.1 x hx
      have h2 := cmpTm_zero e
      subst h2
      omega
    have hn : takeL (a :: l) (o :: os) = none := by simp only [takeL, rmT_none hgt, Option.bind_none]
    have hn2 : takeL l (o :: os) = none := by simp only [takeL, rmT_none fun x hx => hgt x (List.mem_cons_of_mem _ hx), Option.bind_none]
    rw [hn2] at ih
    rw [hn]
    refine ⟨by rw [ih.1], fun hw => ?_⟩
    have := ih.1.1 hw
    cases this
theorem wo_asc : ∀ {l os : List Tm}, AscE l -> (wo l os).2 = true -> AscE os
 | l, [], _, _ => List.Pairwise.nil
 | [], o :: os, _, h => by simp [wo] at h
 | a :: l, o :: os, hl, h => by
  have hl' := List.pairwise_cons.1 hl
  by_cases hc : cmpTm a o = 0
  ·simp only [wo, if_pos hc] at h
   have := wo_asc hl'.2 h
   have e := cmpTm_zero hc
   subst e
   refine List.pairwise_cons.2 ⟨fun s hs => ?_, this⟩
   exact hl'.1 s (wo_mem h s hs)
  ·simp only [wo, if_neg hc] at h
   exact wo_asc hl'.2 h
where wo_mem : ∀ {l os : List Tm}, (wo l os).2 = true -> ∀ s ∈ os, s ∈ l
 | l, [], _, s, hs => by cases hs
 | [], o :: os, h, s, hs => by simp [wo] at h
 | a :: l, o :: os, h, s, hs => by
  by_cases hc : cmpTm a o = 0
  ·simp only [wo, if_pos hc] at h
   have e := cmpTm_zero hc
   subst e
   rcases List.mem_cons.1 hs with rfl | hs
   ·exact List.mem_cons_self
   ·exact List.mem_cons_of_mem _ (wo_mem h s hs)
  ·simp only [wo, if_neg hc] at h
   exact List.mem_cons_of_mem _ (wo_mem h s hs)
theorem drop_getT {α : Type} {l : List α} {i : Nat} {x : α} (h : l[i]? = some x) : l.drop i = x :: l.drop (i + 1) := by
 obtain ⟨hl, hx⟩ := List.getElem?_eq_some_iff.1 h
 rw [<- hx]; exact List.drop_eq_getElem_cons hl
set_option maxHeartbeats 8000000 in
set_option maxRecDepth 100000 in
theorem con_without (l os : List Tm) (hll : l.length <= 1048576) (hol : os.length <= 1048576) : Con e0 95 [.one (.sl (encTms l)), .one (.sl (encTms os))] [.one (.sl (encTms (wo l os).1)), .one (.lit (.bool (wo l os).2))] := by
 refine gI (ts := [.slot 4, .slot 5]) 268466931 Tryz.func95 ?_
 (have F := @tmz; refine gG ?_; clear F)
 (have F := @encTms_nil; refine gL (ι := Nat × Nat × List Tm) [6, 7, 9, 13, 14, 28] [6] (fun x => [(13, A.d (.one (.lit (.int .i64 x.1)))), (7, A.d (.one (.lit (.int .i64 x.2.1)))), (6, .buf 6)]) (fun x => [(6, .buf none 41 4 (encTms x.2.2))]) (fun x => x.1 <= l.length ∧ x.2.1 <= os.length ∧ x.2.2.length <= x.1 ∧ (wo l os) = (x.2.2 ++ (wo (l.drop x.1) (os.drop x.2.1)).1, (wo (l.drop x.1) (os.drop x.2.1)).2)) (fun x => l.length - x.1) ((0, 0, [])) (⟨Nat.zero_le _, Nat.zero_le _, Nat.le_refl _, rfl⟩) (fun x hx => ?_); clear F)
 obtain ⟨i, k, out⟩ := x
 obtain ⟨hi, hk, hol2, hw⟩ := hx
 simp only at hi hk hol2 hw
 by_cases hlt : i < l.length
 rotate_left
 ·obtain rfl : i = l.length := by omega
  have q1 : ((l.length : Int) < (l.length : Int)) = False := eq_false (by omega)
  rw [hw]
  dsimp only
  rw [List.drop_length] at hw ⊢
  by_cases hke : k = os.length
  ·subst hke
   have q2 : ((os.length : Int) = (os.length : Int)) = True := eq_true rfl
   rw [List.drop_length, wo_nil, List.append_nil]
   (have F := ai @q1 (ai @q2 @tmz); refine gG ?_; clear F)
   (have F := ai @q1 (ai @q2 @tmz); refine gG ?_; exact gTz [4])
  ·have q2 : ((k : Int) = (os.length : Int)) = False := eq_false (by omega)
   obtain ⟨o, ho⟩ : ∃ o, os[k]? = some o := ⟨_, List.getElem?_eq_getElem (by omega)⟩
   have e : wo [] (os.drop k) = ([], false) := by rw [drop_getT ho]; rfl
   rw [e, List.append_nil]
   (have F := ai @q1 (ai @q2 @tmz); refine gG ?_; clear F)
   (have F := ai @q1 (ai @q2 @tmz); refine gG ?_; exact gTz [4])
 obtain ⟨a, ha⟩ : ∃ a, l[i]? = some a := ⟨_, List.getElem?_eq_getElem hlt⟩
 have q1 : ((i : Int) < (l.length : Int)) = True := eq_true (by omega)
 have hwi := wrap1 (k := i) (by omega)
 have l1 : rowsB 4 (encTms out) = true := rb_tm _
 have l3 : (out.length + 1 <= maxApp) = True := eq_true (by unfold maxApp; omega)
 have l4 : encTms out ++ [encTm a] = encTms (out ++ [a]) := by rw [encTms_app, encTms_one]
 have hla : (out ++ [a]).length <= i + 1 := by simp; omega
 by_cases hko : k < os.length
 rotate_left
 ·have q2 : ((k : Int) < (os.length : Int)) = False := eq_false (by omega)
  have hst : wo l os = (out ++ [a] ++ (wo (l.drop (i + 1)) (os.drop k)).1, (wo (l.drop (i + 1)) (os.drop k)).2) := by
   have hd : os.drop k = [] := List.drop_eq_nil_of_le (by omega)
   rw [hw, drop_getT ha, hd, wo_nil, wo_nil]; simp
  (have F := ai @q1 (ai @q2 (ai @ha (ai @tmz (ai @l1 (ai @l3 (ai @l4 @hwi)))))); refine gG ?_; exact ⟨(i + 1, k, out ++ [a]), ⟨hlt, hk, hla, hst⟩, gw, gw, by omega⟩)
 obtain ⟨o, ho⟩ : ∃ o, os[k]? = some o := ⟨_, List.getElem?_eq_getElem hko⟩
 have q2 : ((k : Int) < (os.length : Int)) = True := eq_true (by omega)
 have hwk := wrap1 (k := k) (by omega)
 (have F := ai @q1 (ai @ha @tmz); refine gG ?_; clear F)
 refine gB ?_
 (have F := ai @q1 (ai @q2 (ai @ha (ai @ho (ai @natInt @tmz)))); refine gC (con_implSame a o) ?_; clear F)
 by_cases hc : cmpTm a o = 0
 ·have z := decide_eq_true hc
  have hst : wo l os = (out ++ (wo (l.drop (i + 1)) (os.drop (k + 1))).1, (wo (l.drop (i + 1)) (os.drop (k + 1))).2) := by
   rw [hw, drop_getT ha, drop_getT ho, wo, if_pos hc]
  (have F := @z; refine gR ?_; clear F)
  (have F := ai @z (ai @hwk @hwi); refine gG ?_; exact ⟨(i + 1, k + 1, out), ⟨hlt, hko, Nat.le_succ_of_le hol2, hst⟩, gw, gw, by omega⟩)
 ·have z := decide_eq_false hc
  have hst : wo l os = (out ++ [a] ++ (wo (l.drop (i + 1)) (os.drop k)).1, (wo (l.drop (i + 1)) (os.drop k)).2) := by
   rw [hw, drop_getT ha, drop_getT ho, wo, if_neg hc, <- drop_getT ho]; simp
  (have F := @z; refine gR ?_; clear F)
  (have F := ai @z (ai @tmz (ai @l1 (ai @l3 (ai @l4 @hwi)))); refine gG ?_; exact ⟨(i + 1, k, out ++ [a]), ⟨hlt, hk, hla, hst⟩, gw, gw, by omega⟩)
open Classical in
noncomputable def sameL (a b : List Tm) : Bool := decide (a = b)
set_option maxHeartbeats 8000000 in
set_option maxRecDepth 100000 in
theorem con_equalFunc (a b : List Tm) (ha : a.length <= 1048576) (hb : b.length <= 1048576) : Con e0 96 [.one (.sl (encTms a)), .one (.sl (encTms b)), .one (.fn 97 [])] [.one (.lit (.bool (sameL a b)))] := by
 refine gI 1074250695 Tryz.func96 ?_
 by_cases hl : a.length = b.length
 rotate_left
 ·have q1 : ((a.length : Int) = (b.length : Int)) = False := eq_false (by omega)
  have e : sameL a b = false := by simp only [sameL, decide_eq_false_iff_not]; intro h; rw [h] at hl; exact hl rfl
  (have F := ai @q1 (ai @tmz @e); refine gG ?_; exact gT)
 have q1 : ((a.length : Int) = (b.length : Int)) = True := eq_true (by omega)
 (have F := ai @q1 @tmz; refine gG ?_; clear F)
 (have F := @e0P; refine gL (ι := Nat) [6, 7, 8, 9, 17, 18, 30] [] (fun i => [(17, A.d (.one (.lit (.int .i64 i))))]) (fun i => []) (fun i => i <= a.length ∧ ∀ (j : Nat) x y, j < i -> a[j]? = some x -> b[j]? = some y -> x = y) (fun i => a.length - i) (0) (⟨Nat.zero_le _, fun j x y h => absurd h (by omega)⟩) (fun i hi => ?_); clear F)
 obtain ⟨hi, hall⟩ := hi
 by_cases hlt : i < a.length
 rotate_left
 ·have q2 : ((i : Int) < (a.length : Int)) = False := eq_false (by omega)
  have e : sameL a b = true := by
   simp only [sameL, decide_eq_true_eq]
   refine List.ext_getElem hl fun j h1 h2 => hall j _ _ (by omega) (List.getElem?_eq_getElem h1) (List.getElem?_eq_getElem h2)
  (have F := ai @q2 (ai @tmz @e); refine gG ?_; exact gT)
 obtain ⟨x, hx⟩ : ∃ x, a[i]? = some x := ⟨_, List.getElem?_eq_getElem hlt⟩
 obtain ⟨y, hy⟩ : ∃ y, b[i]? = some y := ⟨_, List.getElem?_eq_getElem (by omega)⟩
 have q2 : ((i : Int) < (a.length : Int)) = True := eq_true (by omega)
 have hwi := wrap1 (k := i) (by omega)
 (have F := ai @q2 (ai @hx (ai @hy (ai @natInt @tmz))); refine gG ?_; clear F)
 refine gB ?_
 (have F := @tmz; refine gC (con_implSame x y) ?_; clear F)
 by_cases hc : cmpTm x y = 0
 ·have z := decide_eq_true hc
  have hst : ∀ (j : Nat) x y, j < i + 1 -> a[j]? = some x -> b[j]? = some y -> x = y := fun j u v hj hu hv => by
   by_cases e : j = i
   ·subst e
    rw [hx] at hu; rw [hy] at hv
    injection hu with hu; injection hv with hv
    subst hu hv
    exact cmpTm_zero hc
   ·exact hall j u v (by omega) hu hv
  (have F := @z; refine gR ?_; clear F)
  (have F := ai @z @hwi; refine gG ?_; exact ⟨i + 1, ⟨hlt, hst⟩, gw, gw, by omega⟩)
 ·have z := decide_eq_false hc
  have e : sameL a b = false := by
   simp only [sameL, decide_eq_false_iff_not]
   intro h
   subst h
   rw [hx] at hy
   injection hy with hy
   subst hy
   exact hc (cmpTm_self x)
  (have F := @z; refine gR ?_; clear F)
  (have F := ai @z @e; refine gG ?_; exact gT)
end Go.Proofs.YtohilkmdjdfljaaGreat
namespace Go.Proofs.YtohilkmdjdfljaaGreat
open Go.RowKit
theorem re_refl (pm : List Bk) : Retold pm pm := fun w S h1 h2 => ⟨h1, h2, fun _ h => h⟩
theorem len_take {ts : List Tm} {i : Nat} (h : i <= ts.length) : (encTms (ts.take i)).length = i := by rw [encTms_len, List.length_take]; omega
set_option maxHeartbeats 4000000 in
theorem con_l5Copy_of (t : Tm) (hB : tmsB t.args) (h : ∀ a ∈ t.args, Con e0 40 [.agg (encTm a)] [.agg (encTm a)]) : Con e0 40 [.agg (encTm t)] [.agg (encTm t)] := by
 obtain ⟨op, nm, so, args⟩ := t
 have hc : encTm (.mk op nm so args) = [.lit (.int .i64 op), .lit (.string nm), .lit (.int .i64 so), .sl (encTms args)] := by simp only [encTm]
 simp only [Tm.args] at h hB
 have hl : args.length <= 1048576 := Nat.le_trans (Nat.le_add_right _ _) hB
 refine gI (ts := [.cell 2 41]) 65567 Tryz.func40 ?_
 (have F := @hc; have NN : StopAt 1 := trivial; refine gGn ?_; clear F NN)
 refine gB ?_
 refine gP 6 ?_
 refine gX ?_
 (have F := @hc; refine gR ?_; clear F)
 refine pN 1000 41 4 ?_
 (have F := @hc; refine gG ?_; clear F)
 (have F := ai @hc @encTms_nil; refine gL (ι := Nat × Option Addr × Nat) [4, 16] [3, 1000] (fun x => [(4, .d (.one (.lit (.int .i64 (x.1 : Int)))))]) (fun x => [(1000, .buf (some (x.2.1, x.2.2)) 41 4 (encTms (args.take x.1))), (3, .var none [.lit (.int .i64 op), .lit (.string nm), .lit (.int .i64 so), .lit (.slice x.2.1 x.1 x.2.2)])]) (fun x => x.1 <= args.length) (fun x => args.length - x.1) ((0, none, 0)) (Nat.zero_le _) (fun x hx => ?_); clear F)
 obtain ⟨i, p, cap⟩ := x
 simp only at hx
 by_cases hlt : i < args.length
 ·have hg : args[i]? = some args[i] := List.getElem?_eq_getElem hlt
  have hcon := h args[i] (List.getElem_mem hlt)
  generalize args[i] = a at hg hcon
  have q1 : ((i : Int) < (args.length : Int)) = True := eq_true (by omega)
  have q4 : IntKind.i64.wrap ((i : Int) + 1) = (i : Int) + 1 := IntWalk.i64_in _ (by omega)
  have q2 : i + 1 <= maxApp := by unfold maxApp; omega
  have q3 := len_take hx
  have q5 : (args.take i).length = i := by rw [List.length_take]; omega
  (have F := ai @hc (ai @encTms_len (ai @encTms_get (ai @q1 (ai @hg @tmz)))); refine gG ?_; clear F)
  refine gB ?_
  (have F := ai @tmz (ai @encTms_get @hg); refine gC (hcon) ?_; clear F)
  (have F := ai @tmz (ai @q2 (ai @q3 @q5)); refine gP 3 ?_; clear F)
  refine gS 28 fun p2 cap2 => ?_
  (have F := ai @tmz (ai @q3 @q5); refine gR ?_; clear F)
  refine pE [28] [1000] (re_refl _) ?_
  rw [<- encTms_snoc args hg]
  (have F := ai @hc @q4; refine gG ?_; exact ⟨(i + 1, p2, cap2), hlt, gw, gw, by omega⟩)
 ·obtain rfl : i = args.length := by omega
  have q1 : ((args.length : Int) < (args.length : Int)) = False := eq_false (by omega)
  rw [List.take_length]
  (have F := ai @hc (ai @encTms_len @q1); refine gG ?_; clear F)
  refine pD 1000 [] [2] ?_ (hs := by simp only [pz, ↓reduceIte, Nat.reduceEqDiff, Nat.reduceAdd, Nat.reduceSub, Nat.reduceMul, Nat.reduceLeDiff, Nat.reduceBEq, Bool.false_eq_true, decide_true, decide_false, Int.reduceLE, Int.reduceToNat, Int.reduceLT, Int.reduceEq, eq_self, Nat.reduceShiftRight, Nat.reduceAnd, Nat.reduceBneDiff]; exact rfl)
  (have F := ai @hc @encTms_len; refine gG ?_; exact gTd)
theorem con_sCopy (n : Nat) : (∀ t : Tm, nodesRow (encTm t) < n -> bulkRow (encTm t) <= 1048576 -> Con e0 40 [.agg (encTm t)] [.agg (encTm t)]) := by
 induction n with
 | zero => exact fun _ h => by omega
 | succ n ih =>
  intro t hn hb
  obtain ⟨op, nm, so, args⟩ := t
  simp only [encTm, nodesRow, nodesC, bulkRow, bulkC] at hn hb
  refine con_l5Copy_of _ (by unfold tmsB; simp only [Tm.args]; have := encTms_len args; omega) fun a ha => ?_
  simp only [Tm.args] at ha
  obtain ⟨i, hi⟩ := List.getElem?_of_mem ha
  have hi' : (encTms args)[i]? = some (encTm a) := by rw [encTms_get, hi]; rfl
  have h1 := nodes_get hi'
  have h2 := bulk_get hi'
  exact ih a (by omega) (by omega)
theorem con_l5Copy (t : Tm) (hb : bulkRow (encTm t) <= 1048576) : Con e0 40 [.agg (encTm t)] [.agg (encTm t)] := con_sCopy _ t (Nat.lt_succ_self _) hb
end Go.Proofs.YtohilkmdjdfljaaGreat
namespace Go.Proofs.YtohilkmdjdfljaaGreat
open Go.RowKit
set_option maxHeartbeats 4000000 in
theorem con_l1InA (x lo hi : Int) : Con e0 85 [.one (.lit (.int .i64 x)), .one (.lit (.int .i64 lo)), .one (.lit (.int .i64 hi))] [.one (.lit (.bool (decide (lo <= x ∧ x <= hi))))] := by
 refine gI 71 Tryz.func85 ?_
 by_cases h1 : lo <= x
 ·by_cases h2 : x <= hi
  ·(have F := ai @h1 @h2; refine gG ?_; exact gT)
  ·(have F := ai @h1 @h2; refine gG ?_; exact gT)
 ·(have F := @h1; refine gG ?_; exact gT)
theorem subAt_bad {t : Tm} {ps : List Int} {i : Nat} {p : Int} (h : ps[i]? = some p) (hin : ¬ (0 <= p ∧ p <= (t.args.length : Int) - 1)) : subAt t (ps.drop i) = (zTm, false) := by
 rw [subAt_drop h]
 split
 ·rfl
 ·rw [List.getElem?_eq_none (by omega)]
theorem args_le {a : Tm} (ha : bulkRow (encTm a) <= 1048576) : a.args.length <= 1048576 := by
 obtain ⟨op, nm, so, args⟩ := a
 simp only [encTm, bulkRow, bulkC, encTms_len] at ha
 simp only [Tm.args]
 omega
set_option maxHeartbeats 4000000 in
theorem con_l12At (t : Tm) (ps : List Int) (hl : ps.length <= 1048576) (hb : bulkRow (encTm t) <= 1048576) : Con e0 39 [.agg (encTm t), .one (.sl (ps.map encInt))] [.agg (encTm (subAt t ps).1), .one (.lit (.bool (subAt t ps).2))] := by
 refine gI (ts := [.cell 4 41, .slot 5]) 4195447 Tryz.func39 ?_
 (have F := @tmz; refine gG ?_; clear F)
 (have F := @tmz; refine gL (ι := Nat × Tm) [5, 6, 10, 22] [2] (fun x => [(6, .d (.one (.lit (.int .i64 (x.1 : Int)))))]) (fun x => [(2, .var none (encTm x.2))]) (fun x => x.1 <= ps.length ∧ subAt t ps = subAt x.2 (ps.drop x.1) ∧ bulkRow (encTm x.2) <= 1048576) (fun x => ps.length - x.1) ((0, t)) (⟨Nat.zero_le _, rfl, hb⟩) (fun x hx => ?_); clear F)
 obtain ⟨i, a⟩ := x
 obtain ⟨hi, hs, ha⟩ := hx
 simp only at hi hs ha
 rw [hs]
 clear hs
 by_cases hlt : i < ps.length
 ·obtain ⟨p, hp⟩ : ∃ p, ps[i]? = some p := ⟨_, List.getElem?_eq_getElem hlt⟩
  have q1 : ((i : Int) < (ps.length : Int)) = True := eq_true (by omega)
  have hal := args_le ha
  have q2 : IntKind.i64.wrap ((a.args.length : Int) - 1) = (a.args.length : Int) - 1 := IntWalk.i64_in _ (by omega)
  have q4 : IntKind.i64.wrap ((i : Int) + 1) = (i : Int) + 1 := IntWalk.i64_in _ (by omega)
  by_cases hin : 0 <= p ∧ p <= (a.args.length : Int) - 1
  ·obtain ⟨b, hg⟩ : ∃ b, a.args[p.toNat]? = some b := ⟨_, List.getElem?_eq_getElem (by omega)⟩
   have q3 : decide (0 <= p ∧ p <= (a.args.length : Int) - 1) = true := decide_eq_true hin
   have q5 : (0 <= p) = True := eq_true hin.1
   rw [subAt_drop hp, if_neg (by omega), hg]
   (have F := ai @q1 (ai @hp (ai @encInt_u (ai @q2 @tmz))); refine gG ?_; clear F)
   refine gB ?_
   (have F := ai @q1 (ai @hp (ai @encInt_u (ai @q2 @tmz))); refine gC (con_l1InA p 0 _) ?_; clear F)
   (have F := @q3; refine gR ?_; clear F)
   (have F := ai @q1 (ai @hp (ai @encInt_u (ai @q2 (ai @tmz (ai @q3 (ai @q5 @hg)))))); refine gG ?_; clear F)
   have hbb : bulkRow (encTm b) <= 1048576 := Nat.le_trans (bulk_arg hg) ha
   (have F := @q4; refine gG ?_; exact ⟨(i + 1, b), ⟨hlt, rfl, hbb⟩, gw, gw, by omega⟩)
  ·have q3 : decide (0 <= p ∧ p <= (a.args.length : Int) - 1) = false := decide_eq_false hin
   rw [subAt_bad hp hin]
   (have F := ai @q1 (ai @hp (ai @encInt_u (ai @q2 @tmz))); refine gG ?_; clear F)
   refine gB ?_
   (have F := ai @q1 (ai @hp (ai @encInt_u (ai @q2 @tmz))); refine gC (con_l1InA p 0 _) ?_; clear F)
   (have F := @q3; refine gR ?_; clear F)
   (have F := ai @q1 (ai @hp (ai @encInt_u (ai @q2 (ai @tmz (ai @q3 @zTm_u))))); refine gG ?_; exact gTd)
 ·obtain rfl : i = ps.length := by omega
  have q1 : ((ps.length : Int) < (ps.length : Int)) = False := eq_false (by omega)
  rw [List.drop_length, subAt]
  (have F := ai @q1 @tmz; refine gG ?_; exact gTd)
end Go.Proofs.YtohilkmdjdfljaaGreat
namespace Go.Proofs.YtohilkmdjdfljaaGreat
open Go.RowKit
def bytesTy (P : Program) (s d : TypeId) : Bool := match P.underlying s, P.underlying d with
 | some (.slice e), some .string => match P.underlying e with
  | some (.int .u8) => true
  | _ => false
 | _, _ => false
def oneByte (b : Int) : ByteArray := ByteArray.empty.push (UInt8.ofNat b.toNat)
section
variable {e : Env} {σ : St} {o : Oper} {K : St -> Prop}
theorem step_byte {s d : TypeId} {x : Operand} {b : Int} (ho : o.op = .convert s d x) (hx : evA σ.s x = .d (.clip [[.lit (.int .u8 b)]])) (ht : bytesTy e.P s d = true) (hK : K ⟨setA σ.s o.dst (.d (.one (.lit (.string (oneByte b))))), σ.m⟩) : StepOk e o σ K := by
 intro he U w0 S0 nt a w Q hd ⟨S, L, h⟩
 refine Oper.wp_mono (fun a' w' hs => ⟨_, hK, hs⟩) (gives_then h hd (givesA_pure fun w S L ρv hC hr => ?_))
 have hx' := hr x (by simp [ho, Op.operands])
 rw [hx] at hx'
 obtain ⟨⟨A, n, cap, hv, hn, _, _, hb⟩, _⟩ := hx'
 simp only [List.length_cons, List.length_nil, Nat.zero_add] at hn
 subst hn
 obtain ⟨g, off, rfl, _, _, hrow⟩ := hb (by decide)
 simp only [RepRows, RepRow, Rep, and_true] at hrow
 obtain ⟨u, hc, rfl⟩ := hrow
 have hl := run_loadCells_list (P := e.P) w ⟨g, off, none⟩ [.int .u8 b] (fun j u hj => by
  cases j with
  | zero => simp at hj; subst hj; rw [Addr.add_at]; exact hc
  | succ j => simp at hj)
 unfold bytesTy at ht
 split at ht
 ·rename_i e1 h1 h2
  split at ht
  ·rename_i h3
   refine ⟨.string (oneByte b), ?_, by simp [ARel, DRel, Rep]⟩
   simp only [List.length_cons, List.length_nil, Nat.zero_add] at hl
   simp [execOp, ho, hv, convert, underlying, h1, h2, h3, Conv.bytesToString, hl, oneByte, Result.andThen]
  ·cases ht
 ·cases ht
end
theorem gY {e : Env} {K : St -> Prop} {ds : List (Option Nat)} {os : List Oper} {d t1 t2 ty : Nat} {p : String} {ed : Array Edge} {x : Operand} {s : List (Nat × A)} {m : List (Nat × Bk)} {b : Int} (hK : Runs e ds 0 os ⟨(d, .d (.one (.lit (.string (oneByte b))))) :: s, m⟩ K)
  (hx : evA s x = .d (.clip [[.lit (.int .u8 b)]]) := by first | (simp only [pz, ↓reduceIte, Nat.reduceEqDiff, Nat.reduceAdd, Nat.reduceSub, Nat.reduceMul, Nat.reduceLeDiff, Nat.reduceBEq, Bool.false_eq_true, decide_true, decide_false, Int.reduceLE, Int.reduceToNat, Int.reduceLT, Int.reduceEq, eq_self, Nat.reduceShiftRight, Nat.reduceAnd, Nat.reduceBneDiff]; done) | (simp only [pz, ↓reduceIte, Nat.reduceEqDiff, Nat.reduceAdd, Nat.reduceSub, Nat.reduceMul, Nat.reduceLeDiff, Nat.reduceBEq, Bool.false_eq_true, decide_true, decide_false, Int.reduceLE, Int.reduceToNat, Int.reduceLT, Int.reduceEq, eq_self, Nat.reduceShiftRight, Nat.reduceAnd, Nat.reduceBneDiff]; exact rfl)) (ht : bytesTy e.P t1 t2 = true := by kernel_rfl) : Runs e ds 0 (⟨some d, .convert t1 t2 x, ty, p, ed, none⟩ :: os) ⟨s, m⟩ K := by
 simp only [Runs] at hK ⊢
 exact runsS_step rfl (step_byte (o := ⟨some d, .convert t1 t2 x, ty, p, ed, none⟩) rfl hx ht hK)
end Go.Proofs.YtohilkmdjdfljaaGreat
namespace Go.Proofs.YtohilkmdjdfljaaGreat
open Go.RowKit
def dig (n : Nat) : ByteArray := oneByte (IntKind.u8.wrap (IntKind.i64.wrap (48 + (n : Int).tmod 10)))
def txtL (n : Nat) (acc : ByteArray) : ByteArray := if h : n = 0 then acc else txtL (n / 10) (dig n ++ acc)
termination_by n
decreasing_by omega
def txt (k : Int) : ByteArray := if k <= 0 then ⟨#[109, 48]⟩ else ⟨#[109]⟩ ++ txtL k.toNat ByteArray.empty
theorem txtL_z (acc : ByteArray) : txtL 0 acc = acc := by rw [txtL]; simp
theorem txtL_s {n : Nat} (h : n ≠ 0) (acc : ByteArray) : txtL n acc = txtL (n / 10) (dig n ++ acc) := by rw [txtL]; simp [h]
theorem dig_size (n : Nat) : (dig n).size = 1 := rfl
set_option maxHeartbeats 4000000 in
set_option maxRecDepth 100000 in
theorem con_markText (k : Int) (hk : k <= 1000000000) (hk0 : 0 <= k) : Con e0 75 [.one (.lit (.int .i64 k))] [.one (.lit (.string (txt k)))] := by
 by_cases h0 : k <= 0
 ·have h : txt k = ⟨#[109, 48]⟩ := by unfold txt; rw [if_pos h0]
  have q1 : (k <= 0) = True := eq_true h0
  rw [h]
  refine gI (ts := [.slot 2]) 173 Tryz.func75 ?_
  (have F := @q1; refine gG ?_; exact gTd)
 ·have h : txt k = ⟨#[109]⟩ ++ txtL k.toNat ByteArray.empty := by unfold txt; rw [if_neg h0]
  have q1 : (k <= 0) = False := eq_false h0
  rw [h]
  obtain ⟨n, rfl⟩ : ∃ n : Nat, k = n := ⟨k.toNat, by omega⟩
  rw [Int.toNat_natCast]
  refine gI (ts := [.slot 2]) 173 Tryz.func75 ?_
  (have F := @q1; refine gG ?_; clear F)
  (have F := @q1; refine gL (ι := Nat × ByteArray) [0, 3, 7] [] (fun x => [(0, .d (.one (.lit (.int .i64 (x.1 : Int))))), (3, .d (.one (.lit (.string x.2))))]) (fun x => []) (fun x => txtL n ByteArray.empty = txtL x.1 x.2 ∧ x.2.size + x.1 <= n) (fun x => x.1) ((n, ⟨#[]⟩)) (⟨rfl, by show 0 + n <= n; omega⟩) (fun x hx => ?_); clear F)
  obtain ⟨j, acc⟩ := x
  obtain ⟨h1, h2⟩ := hx
  simp only at h1 h2
  rw [h1]
  clear h1
  by_cases hj : j = 0
  ·subst hj
   have q2 : (((0 : Nat) : Int) > 0) = False := eq_false (by omega)
   rw [txtL_z]
   have q5 : ((ByteArray.mk #[109]).size + acc.size <= 9223372036854775807) = True := eq_true (by show 1 + acc.size <= _; omega)
   (have F := ai @q2 @q5; refine gG ?_; exact gTd)
  ·have q2 : ((j : Int) > 0) = True := eq_true (by omega)
   rw [txtL_s hj]
   have q3 : IntKind.i64.wrap ((j : Int).tdiv 10) = ((j / 10 : Nat) : Int) := by rw [show (j : Int).tdiv 10 = ((j / 10 : Nat) : Int) from by rw [Int.ofNat_tdiv]; rfl]; exact IntWalk.i64_in _ (by omega)
   (have F := @q2; have NN : StopAt 5 := trivial; refine gGn ?_; clear F NN)
   refine gB ?_
   (have F := @q2; refine gP 5 ?_; clear F)
   refine gY ?_
   have q5 : ((dig j).size + acc.size <= 9223372036854775807) = True := eq_true (by rw [dig_size]; omega)
   change Runs _ _ _ _ ⟨(13, .d (.one (.lit (.string (dig j))))) :: _, _⟩ _
   (have F := ai @q2 @q5; refine gR ?_; clear F)
   have hd := dig_size j
   (have F := ai @q2 @q3; refine gG ?_; exact ⟨(j / 10, dig j ++ acc), ⟨rfl, by rw [ByteArray.size_append, hd]; omega⟩, gw, gw, by omega⟩)
end Go.Proofs.YtohilkmdjdfljaaGreat
namespace Go.Proofs.YtohilkmdjdfljaaGreat
open Go.RowKit
def mkV (k : Int) : Value -> Value
 | .int i _ => .int i k
 | .string _ => .string (txt k)
 | .bool _ => .bool (k % 3 == 0)
 | v => v
mutual
def mkC : Int -> C -> C
 | k, .lit v => .lit (mkV k v)
 | k, .sl rows => .sl (mkRows k rows)
 | _, .ptr cs => .ptr cs
 | _, .fn f cs => .fn f cs
def mkRow : Int -> List C -> List C
 | _, [] => []
 | k, c :: cs => mkC k c :: mkRow (k + cntC c) cs
def mkRows : Int -> List (List C) -> List (List C)
 | _, [] => []
 | k, r :: rs => mkRow k r :: mkRows (k + cntRow r) rs
def cntC : C -> Nat
 | .lit _ => 1
 | .sl rows => cntRows rows
 | .ptr _ => 0
 | .fn _ _ => 0
def cntRow : List C -> Nat
 | [] => 0
 | c :: cs => cntC c + cntRow cs
def cntRows : List (List C) -> Nat
 | [] => 0
 | r :: rs => cntRow r + cntRows rs
end
theorem mkRow_len : ∀ (k : Int) (cs : List C), (mkRow k cs).length = cs.length
 | _, [] => by simp [mkRow]
 | k, c :: cs => by simp [mkRow, mkRow_len _ cs]
theorem mkRows_len : ∀ (k : Int) (rs : List (List C)), (mkRows k rs).length = rs.length
 | _, [] => by simp [mkRows]
 | k, c :: cs => by simp [mkRows, mkRows_len _ cs]
theorem cnt_snoc : ∀ (rs : List (List C)) (r : List C), cntRows (rs ++ [r]) = cntRows rs + cntRow r
 | [], r => by simp [cntRows]
 | q :: rs, r => by simp [cntRows, cnt_snoc rs r]; omega
theorem mkRows_snoc : ∀ (rs : List (List C)) (r : List C) (k : Int), mkRows k (rs ++ [r]) = mkRows k rs ++ [mkRow (k + cntRows rs) r]
 | [], r, k => by simp [mkRows, cntRows]
 | q :: rs, r, k => by simp [mkRows, cntRows, mkRows_snoc rs r, Int.add_assoc]
theorem tk_snoc {α : Type} {l : List α} {i : Nat} {x : α} (h : l[i]? = some x) : l.take (i + 1) = l.take i ++ [x] := by simp [List.take_add_one, h]
theorem drop_get {α : Type} {l : List α} {i : Nat} {x : α} (h : l[i]? = some x) : l.drop i = x :: l.drop (i + 1) := by
 obtain ⟨h1, rfl⟩ := List.getElem?_eq_some_iff.1 h
 exact List.drop_eq_getElem_cons h1
theorem cnt_take_le : ∀ (rs : List (List C)) (i : Nat), cntRows (rs.take i) <= cntRows rs
 | [], i => by simp [cntRows]
 | r :: rs, 0 => by simp [cntRows]
 | r :: rs, i + 1 => by have := cnt_take_le rs i; simp only [List.take_succ_cons, cntRows]; omega
theorem apart_2 {x y : Bk} (h : ∀ g, pblk x g -> ¬ pblk y g) : Apart [x, y] := ⟨fun z hz g hg => by simp at hz; subst hz; exact h g hg, apart_1 _⟩
theorem fd_nil {E : Nat -> Prop} {v : Value} : Found (ι := Option Addr × Nat) [.set E (fun w => Own w (.sl []) E v)] (fun i => v = .slice i.1 0 i.2) (fun _ => [.set E (fun w => Own w (.sl []) E v)]) := fun w S h ha => by
 obtain ⟨h1, h2, h3⟩ : _ ∧ Own w (.sl []) E v ∧ _ := h (.set E (fun w => Own w (.sl []) E v)) (by simp)
 simp only [Own] at h2
 obtain ⟨A, n, cap, hv, hn, _⟩ := h2
 simp at hn
 subst hn
 exact ⟨(A, cap), hv, h, ha, fun _ h => h⟩
theorem fd_open {E : Nat -> Prop} {v : Value} {rows : List (List C)} {sz : Nat} (hne : rows ≠ []) (hrl : rowsLen sz rows) : Found (ι := Option Addr × Nat × Nat × List (List Value) × (Nat -> Prop)) [.set E (fun w => Own w (.sl rows) E v)]
  (fun i => v = .slice i.1 i.2.2.2.1.length i.2.1 ∧ i.2.2.2.1.length = rows.length ∧ rows.length <= maxLen) (fun i => [.buf (some (i.1, i.2.1)) i.2.2.1 sz (i.2.2.2.1.map litRow), .set i.2.2.2.2 (fun w => OwnVs w rows i.2.2.2.2 i.2.2.2.1)]) := fun w S h ha => by
 obtain ⟨h1, h2, h3⟩ : (∀ b, E b -> b < w.heap.size ∧ ¬ S b) ∧ Own w (.sl rows) E v ∧ _ := h (.set E (fun w => Own w (.sl rows) E v)) (by simp)
 obtain ⟨A, n, cap, rfl, hn1, hn2, hn3⟩ := (Own.rep _ _ _ h2).form
 obtain ⟨uss, ety, E', rfl, k1, k2, k3, k4⟩ := Own.open (T := S) (fun b hb => (h1 b hb).2) hne hrl h2
 refine ⟨(A, cap, ety, uss, E'), ⟨rfl, k2.len, by omega⟩, fun x hx => ?_, apart_2 fun g hg hg2 => ?_, fun g ⟨x, hx, hg⟩ => ⟨_, List.mem_cons_self, ?_⟩⟩
 ·simp only [List.mem_cons, List.not_mem_nil, or_false] at hx
  rcases hx with rfl | rfl
  ·show BufRel w S ety sz (uss.map litRow) (.slice A (uss.map litRow).length cap)
   rw [List.length_map]; exact k1
  ·exact ⟨fun b hb => h1 b (k3 b hb).1, k2, OwnVs.stable _ _ _⟩
 ·simp only [pblk, List.length_map] at hg hg2
  exact (k3 g hg2).2 hg
 ·simp only [List.mem_cons, List.not_mem_nil, or_false] at hx
  rcases hx with rfl | rfl
  ·simp only [pblk, List.length_map] at hg; exact k4 g hg
  ·exact (k3 g hg).1
def cellSets : List C -> List Value -> (Nat -> Nat -> Prop) -> List Bk
 | .sl rows :: cs, u :: us, Es => .set (Es 0) (fun w => Own w (.sl rows) (Es 0) u) :: cellSets cs us (fun k => Es (k + 1))
 | .lit _ :: cs, _ :: us, Es => cellSets cs us Es
 | _, _, _ => []
def litsOk : List C -> List Value -> Prop
 | [], [] => True
 | .lit x :: cs, u :: us => u = x ∧ litsOk cs us
 | .sl _ :: cs, _ :: us => litsOk cs us
 | _, _ => False
def plainC : C -> Bool
 | .lit _ => true
 | .sl _ => true
 | _ => false
theorem cells_of {w : World} {S : Nat -> Prop} : ∀ {cs : List C} {us : List Value} {E : Nat -> Prop}, cs.all plainC = true -> OwnVals w cs E us -> (∀ b, E b -> b < w.heap.size ∧ ¬ S b) -> ∃ Es, litsOk cs us ∧ (∀ x ∈ cellSets cs us Es, PinRel w S x) ∧ Apart (cellSets cs us Es) ∧ ∀ g, pblks (cellSets cs us Es) g -> E g
 | [], [], E, _, _, _ => ⟨fun _ _ => False, trivial, by simp [cellSets], trivial, fun g ⟨x, hx, _⟩ => by simp [cellSets] at hx⟩
 | c :: cs, u :: us, E, hp, h, hE => by
  simp only [OwnVals] at h
  obtain ⟨S1, S2, i1, i2, hd, h1, h2⟩ := h
  simp only [List.all_cons, Bool.and_eq_true] at hp
  obtain ⟨Es, k1, k2, k3, k4⟩ := cells_of hp.2 h2 (fun b hb => hE b (i2 b hb))
  cases c with
  | lit x =>
   simp only [Own] at h1
   exact ⟨Es, ⟨h1, k1⟩, k2, k3, fun g hg => i2 g (k4 g hg)⟩
  | sl rows =>
   refine ⟨fun k => match k with | 0 => S1 | k + 1 => Es k, k1, fun x hx => ?_, ⟨fun y hy g hg hg2 => hd g hg (k4 g ⟨y, hy, hg2⟩), k3⟩, fun g ⟨x, hx, hg⟩ => ?_⟩
   ·simp only [cellSets, List.mem_cons] at hx
    rcases hx with rfl | hx
    ·exact ⟨fun b hb => hE b (i1 b hb), h1, Own.stable _ _ _⟩
    ·exact k2 x hx
   ·simp only [cellSets, List.mem_cons] at hx
    rcases hx with rfl | hx
    ·exact i1 g hg
    ·exact i2 g (k4 g ⟨x, hx, hg⟩)
  | ptr _ => simp [plainC] at hp
  | fn _ _ => simp [plainC] at hp
 | [], _ :: _, _, _, h, _ => by simp [OwnVals] at h
 | _ :: _, [], _, _, h, _ => by simp [OwnVals] at h
theorem OwnVals.of_cells {w : World} {S : Nat -> Prop} : ∀ {cs : List C} {us : List Value} {Es : Nat -> Nat -> Prop}, cs.all plainC = true -> litsOk cs us -> (∀ x ∈ cellSets cs us Es, PinRel w S x) -> Apart (cellSets cs us Es) -> OwnVals w cs (pblks (cellSets cs us Es)) us
 | [], [], Es, _, _, _, _ => OwnVals.nil
 | .lit x :: cs, u :: us, Es, hp, hl, h, ha => by
  obtain ⟨rfl, hl⟩ := hl
  simp only [List.all_cons, Bool.and_eq_true] at hp
  simp only [OwnVals]
  exact ⟨fun _ => False, _, fun _ h => h.elim, fun _ h => h, fun _ h _ => h, by simp [Own], OwnVals.of_cells (Es := Es) hp.2 hl h ha⟩
 | .sl rows :: cs, u :: us, Es, hp, hl, h, ha => by
  simp only [List.all_cons, Bool.and_eq_true] at hp
  simp only [OwnVals]
  obtain ⟨a1, a2⟩ := ha
  have hE := h (.set (Es 0) (fun w => Own w (.sl rows) (Es 0) u)) List.mem_cons_self
  refine ⟨Es 0, pblks (cellSets cs us (fun k => Es (k + 1))), fun b hb => ⟨_, List.mem_cons_self, hb⟩, fun b ⟨x, hx, hb⟩ => ⟨x, List.mem_cons_of_mem _ hx, hb⟩, fun b hb ⟨x, hx, hb2⟩ => a1 x hx b hb hb2, hE.2.1, OwnVals.of_cells hp.2 hl (fun x hx => h x (List.mem_cons_of_mem _ hx)) a2⟩
 | .ptr _ :: _, _ :: _, _, hp, _, _, _ => by simp [plainC] at hp
 | .fn _ _ :: _, _ :: _, _, hp, _, _, _ => by simp [plainC] at hp
 | [], _ :: _, _, _, hl, _, _ => by simp [litsOk] at hl
 | .lit _ :: _, [], _, _, hl, _, _ => by simp [litsOk] at hl
 | .sl _ :: _, [], _, _, hl, _, _ => by simp [litsOk] at hl
theorem cellSets_set : ∀ {cs : List C} {us : List Value} {Es : Nat -> Nat -> Prop} (y : Bk), y ∈ cellSets cs us Es -> ∃ E G, y = .set E G
 | .sl rows :: cs, u :: us, Es, y, h => by
  rcases List.mem_cons.1 h with rfl | h
  ·exact ⟨_, _, rfl⟩
  ·exact cellSets_set y h
 | .lit _ :: cs, _ :: us, Es, y, h => cellSets_set (cs := cs) (us := us) y h
 | .ptr _ :: _, _, _, y, h => by simp [cellSets] at h
 | .fn _ _ :: _, _, _, y, h => by simp [cellSets] at h
 | [], _, _, y, h => by simp [cellSets] at h
 | .lit _ :: _, [], _, y, h => by simp [cellSets] at h
 | .sl _ :: _, [], _, y, h => by simp [cellSets] at h
theorem fd_lits {E : Nat -> Prop} {r : List C} {rest : List (List C)} {us : List Value} {urest : List (List Value)} (hp : r.all plainC = true) : Found (ι := Unit) [.set E (fun w => OwnVs w (r :: rest) E (us :: urest))] (fun _ => litsOk r us) (fun _ => [.set E (fun w => OwnVs w (r :: rest) E (us :: urest))]) := fun w S h ha => by
 obtain ⟨h1, h2, h3⟩ : (∀ b, E b -> b < w.heap.size ∧ ¬ S b) ∧ OwnVs w (r :: rest) E (us :: urest) ∧ _ := h (.set E (fun w => OwnVs w (r :: rest) E (us :: urest))) (by simp)
 obtain ⟨S1, S2, i1, i2, hd, k1, k2⟩ := h2
 obtain ⟨Es, hl, _⟩ := cells_of (S := S) hp k1 (fun b hb => h1 b (i1 b hb))
 exact ⟨(), hl, h, ha, fun _ h => h⟩
theorem fd_row {E : Nat -> Prop} {r : List C} {rest : List (List C)} {us : List Value} {urest : List (List Value)} (hp : r.all plainC = true) : Found (ι := (Nat -> Prop) × (Nat -> Nat -> Prop)) [.set E (fun w => OwnVs w (r :: rest) E (us :: urest))] (fun _ => True) (fun i => .set i.1 (fun w => OwnVs w rest i.1 urest) :: cellSets r us i.2) := fun w S h ha => by
 obtain ⟨h1, h2, h3⟩ : (∀ b, E b -> b < w.heap.size ∧ ¬ S b) ∧ OwnVs w (r :: rest) E (us :: urest) ∧ _ := h (.set E (fun w => OwnVs w (r :: rest) E (us :: urest))) (by simp)
 obtain ⟨S1, S2, i1, i2, hd, k1, k2⟩ := h2
 obtain ⟨Es, hl, q1, q2, q3⟩ := cells_of (S := S) hp k1 (fun b hb => h1 b (i1 b hb))
 refine ⟨(S2, Es), trivial, fun x hx => ?_, ⟨fun y hy g hg hg2 => hd g (q3 g ⟨y, hy, hg2⟩) hg, q2⟩, fun g ⟨x, hx, hg⟩ => ⟨_, List.mem_cons_self, ?_⟩⟩
 ·rcases List.mem_cons.1 hx with rfl | hx
  ·exact ⟨fun b hb => h1 b (i2 b hb), k2, OwnVs.stable _ _ _⟩
  ·exact q1 x hx
 ·rcases List.mem_cons.1 hx with rfl | hx
  ·exact i2 g hg
  ·exact i1 g (q3 g ⟨x, hx, hg⟩)
theorem re_row {E : Nat -> Prop} {done : List (List C)} {ud : List (List Value)} {cs : List C} {us : List Value} {Es : Nat -> Nat -> Prop} (hp : cs.all plainC = true) (hl : litsOk cs us) : Retold (.set E (fun w => OwnVs w done E ud) :: cellSets cs us Es) [.set (fun b => E b ∨ pblks (cellSets cs us Es) b) (fun w => OwnVs w (done ++ [cs]) (fun b => E b ∨ pblks (cellSets cs us Es) b) (ud ++ [us]))] := fun w S h ha => by
 have hE := h (.set E (fun w => OwnVs w done E ud)) List.mem_cons_self
 have hv := OwnVals.of_cells (w := w) (S := S) hp hl (fun x hx => h x (List.mem_cons_of_mem _ hx)) ha.2
 refine ⟨fun x hx => ?_, apart_1 _, fun g ⟨x, hx, hg⟩ => ?_⟩
 ·simp only [List.mem_cons, List.not_mem_nil, or_false] at hx
  subst hx
  refine ⟨fun b hb => ?_, OwnVs.snoc hE.2.1 hv (fun _ h => .inl h) (fun _ h => .inr h) (fun b hb ⟨y, hy, hg⟩ => ha.1 y hy b hb hg), OwnVs.stable _ _ _⟩
  rcases hb with hb | ⟨y, hy, hg⟩
  ·exact hE.1 b hb
  ·obtain ⟨E', G', rfl⟩ := cellSets_set y hy
   exact (h _ (List.mem_cons_of_mem _ hy)).1 b hg
 ·simp only [List.mem_cons, List.not_mem_nil, or_false] at hx
  subst hx
  rcases hg with hg | ⟨y, hy, hg⟩
  ·exact ⟨_, List.mem_cons_self, hg⟩
  ·exact ⟨y, List.mem_cons_of_mem _ hy, hg⟩
end Go.Proofs.YtohilkmdjdfljaaGreat
namespace Go.Proofs.YtohilkmdjdfljaaGreat
open Go.RowKit
theorem subAt_bulk : ∀ (ps : List Int) (t : Tm), bulkRow (encTm (subAt t ps).1) <= bulkRow (encTm t)
 | [], t => Nat.le_refl _
 | p :: ps, t => by
  rw [subAt]
  split
  ·rw [zTm_u]; simp [bulkRow, bulkC, bulkRows]
  ·split
   ·rename_i a h
    exact Nat.le_trans (subAt_bulk ps a) (bulk_arg h)
   ·rw [zTm_u]; simp [bulkRow, bulkC, bulkRows]
theorem subAt_false : ∀ (ps : List Int) (t : Tm), (subAt t ps).2 = false -> (subAt t ps).1 = zTm
 | [], t, h => by simp [subAt] at h
 | p :: ps, t, h => by
  rw [subAt] at h ⊢
  split at h
  ·rename_i h1; rw [if_pos h1]
  ·rename_i h1
   rw [if_neg h1]
   split at h
   ·rename_i a h2; exact subAt_false ps a h
   ·rfl
end Go.Proofs.YtohilkmdjdfljaaGreat
namespace Go.Proofs.YtohilkmdjdfljaaGreat
open Go.RowKit
def Read1 (pm : List Bk) (l d : D) : Prop := l = d ∨ (∃ us row E, l = .agg (litRow us) ∧ d = .agg row ∧ .set E (fun w => OwnVals w row E us) ∈ pm) ∨ (∃ v rows E, l = .one (.lit v) ∧ d = .one (.sl rows) ∧ .set E (fun w => Own w (.sl rows) E v) ∈ pm)
def Reads (pm : List Bk) : List D -> List D -> Prop
 | [], [] => True
 | l :: ls, d :: ds => Read1 pm l d ∧ Reads pm ls ds
 | _, _ => False
theorem Read1.same {pm : List Bk} {d : D} : Read1 pm d d := .inl rfl
theorem Read1.tree {pm : List Bk} {us : List Value} {row : List C} {E : Nat -> Prop} (h : .set E (fun w => OwnVals w row E us) ∈ pm) : Read1 pm (.agg (litRow us)) (.agg row) := .inr (.inl ⟨us, row, E, rfl, rfl, h⟩)
theorem Reads.rel {pm : List Bk} : ∀ {lits data : List D}, Reads pm lits data -> ∀ (w : World) (S : Nat -> Prop) (vs : List Value), (∀ x ∈ pm, PinRel w S x) -> DsRel w S lits vs -> DsRel w (fun b => S b ∨ pblks pm b) data vs
 | [], [], _, w, S, [], _, _ => trivial
 | [], [], _, w, S, _ :: _, _, h => h.elim
 | l :: ls, d :: ds, hr, w, S, [], _, h => h.elim
 | l :: ls, d :: ds, ⟨h1, h2⟩, w, S, v :: vs, hp, ⟨hv, hvs⟩ => by
  refine ⟨?_, Reads.rel h2 w S vs hp hvs⟩
  rcases h1 with rfl | ⟨us, row, E, rfl, rfl, hm⟩ | ⟨u, rows, E, rfl, rfl, hm⟩
  ·exact DRel.keep (Nat.le_refl _) (fun _ _ _ => rfl) (fun b hb => .inl hb) hv
  ·obtain ⟨vs', rfl, hr⟩ := hv
   rw [RepVals_lit hr]
   obtain ⟨_, h3, _⟩ := hp _ hm
   exact ⟨us, rfl, OwnVals.rep row E _ us (fun b hb => .inr ⟨_, hm, hb⟩) h3⟩
  ·have hv : v = u := hv
   subst hv
   obtain ⟨_, h3, _⟩ := hp _ hm
   exact (Own.rep _ E v h3).mono fun b hb => .inr ⟨_, hm, hb⟩
 | [], _ :: _, h, _, _, _, _, _ => h.elim
 | _ :: _, [], h, _, _, _, _, _ => h.elim
theorem conP_rd {e : Env} {f : FuncId} {data lits : List D} {R : List D -> List Bk -> Prop} (pm : List Bk) (h : ConP e f data [] R) (hr : Reads pm lits data) (hset : pm.all isSet = true) (hR : ∀ r q, R r q -> r.all litD = true ∧ q.all isSet = true) : ConP e f lits pm (fun r q => ∃ q1, R r q1 ∧ q = q1 ++ pm) :=
 conP_read pm h hset hR hr.rel
theorem con_rd {e : Env} {f : FuncId} {data lits r : List D} (pm : List Bk) (h : Con e f data r) (hr : Reads pm lits data) (hset : pm.all isSet = true) (hl : r.all litD = true) : ConP e f lits pm (fun r' q => r' = r ∧ q = pm) := by
 have hc := conP_rd pm (con_P h) hr hset (fun r' q ⟨h1, h2⟩ => by rw [h1, h2]; exact ⟨hl, rfl⟩)
 refine ⟨hc.1, fun w S vs h1 h2 h3 h4 h5 h6 => (hc.2 w S vs h1 h2 h3 h4 h5 h6).mono ?_⟩
 rintro en w' ⟨v, r', q, k1, ⟨q1, ⟨rfl, rfl⟩, rfl⟩, k3⟩
 exact ⟨v, r', _, k1, ⟨rfl, rfl⟩, k3⟩
theorem litRow_lits (us : List Value) : (litRow us).all litC = true := by
 induction us with
 | nil => rfl
 | cons u us ih => simp only [litRow, List.map_cons, List.all_cons, litC, Bool.true_and]; exact ih
theorem RTree.lits {row : List C} {r : List D} {q : List Bk} (h : RTree row r q) : r.all litD = true ∧ q.all isSet = true := by
 obtain ⟨us, E, rfl, _, _, rfl⟩ := h
 exact ⟨by simp only [List.all_cons, List.all_nil, litD, litRow_lits]; rfl, rfl⟩
theorem RTreeS.lits {rows : List (List C)} {r : List D} {q : List Bk} (h : RTreeS rows r q) : r.all litD = true ∧ q.all isSet = true := by
 obtain ⟨v, E, rfl, _, rfl⟩ := h
 exact ⟨rfl, rfl⟩
def RTreeF (row : List C) (b : Bool) (r : List D) (pm : List Bk) : Prop := ∃ us E, r = [.agg (litRow us), .one (.lit (.bool b))] ∧ us.length = row.length ∧ (litRow us).all okCell = true ∧ pm = [.set E (fun w => OwnVals w row E us)]
theorem RTreeF.lits {row : List C} {b : Bool} {r : List D} {q : List Bk} (h : RTreeF row b r q) : r.all litD = true ∧ q.all isSet = true := by
 obtain ⟨us, E, rfl, _, _, rfl⟩ := h
 exact ⟨by simp only [List.all_cons, List.all_nil, litD, litRow_lits]; rfl, rfl⟩
def RTreeSF (rows : List (List C)) (b : Bool) (r : List D) (pm : List Bk) : Prop := ∃ v E, r = [.one (.lit v), .one (.lit (.bool b))] ∧ okCell (.lit v) = true ∧ pm = [.set E (fun w => Own w (.sl rows) E v)]
theorem RTreeSF.lits {rows : List (List C)} {b : Bool} {r : List D} {q : List Bk} (h : RTreeSF rows b r q) : r.all litD = true ∧ q.all isSet = true := by
 obtain ⟨v, E, rfl, _, rfl⟩ := h
 exact ⟨rfl, rfl⟩
end Go.Proofs.YtohilkmdjdfljaaGreat
namespace Go.Proofs.YtohilkmdjdfljaaGreat
open Go.RowKit
mutual
def leftTm : Tm -> Int -> Int
 | .mk _ _ _ args, l => leftTms args (l - 1)
def leftTms : List Tm -> Int -> Int
 | [], l => l
 | t :: ts, l => if 0 <= l then leftTms ts (leftTm t l) else l
end
theorem leftTms_u : ∀ l, leftTms [] l = l := fun _ => by rw [leftTms]
mutual
theorem leftTm_spec : ∀ (t : Tm) (l : Int), 0 <= l -> (-1 <= leftTm t l ∧ leftTm t l <= l ∧ ((sizeTm t : Int) <= l -> leftTm t l = l - sizeTm t) ∧ (l < sizeTm t -> leftTm t l < 0))
 | .mk _ _ _ args, l, hl => by
  have := leftTms_spec args (l - 1) (by omega)
  simp only [leftTm, sizeTm]
  refine ⟨this.1, by omega, fun h => ?_, fun h => ?_⟩
  ·have := this.2.2.1 (by omega); omega
  ·by_cases h1 : 0 <= l - 1
   ·exact this.2.2.2 (by omega)
   ·have h2 := this.2.1; omega
theorem leftTms_spec : ∀ (ts : List Tm) (l : Int), -1 <= l -> (-1 <= leftTms ts l ∧ leftTms ts l <= l ∧ ((sizeTms ts : Int) <= l -> leftTms ts l = l - sizeTms ts) ∧ (l < sizeTms ts -> leftTms ts l < 0))
 | [], l, hl => by simp only [leftTms, sizeTms]; omega
 | t :: ts, l, hl => by
  simp only [leftTms, sizeTms]
  by_cases h0 : 0 <= l
  ·rw [if_pos h0]
   have h1 := leftTm_spec t l h0
   have h2 := leftTms_spec ts (leftTm t l) h1.1
   refine ⟨h2.1, by omega, fun h => ?_, fun h => ?_⟩
   ·have e1 := h1.2.2.1 (by omega)
    have e2 := h2.2.2.1 (by omega)
    omega
   ·by_cases h3 : (sizeTm t : Int) <= l
    ·have e1 := h1.2.2.1 h3
     exact h2.2.2.2 (by omega)
    ·have e1 := h1.2.2.2 (by omega)
     omega
  ·rw [if_neg h0]
   have := sizeTms_len ts
   refine ⟨hl, Int.le_refl _, fun h => by omega, fun h => by omega⟩
end
theorem leftTms_neg {ts : List Tm} {l : Int} (h : ¬ 0 <= l) : leftTms ts l = l := by
 cases ts with
 | nil => rfl
 | cons t ts => simp only [leftTms, if_neg h]
theorem leftTms_app : ∀ (a b : List Tm) (l : Int), leftTms (a ++ b) l = leftTms b (leftTms a l)
 | [], b, l => rfl
 | t :: ts, b, l => by
  simp only [List.cons_append, leftTms]
  by_cases h : 0 <= l
  ·rw [if_pos h, if_pos h, leftTms_app]
  ·rw [if_neg h, if_neg h, leftTms_neg h]
theorem leftTms_snoc {ts : List Tm} {i : Nat} {t : Tm} {l : Int} (h : ts[i]? = some t) (h0 : 0 <= leftTms (ts.take i) l) : leftTms (ts.take (i + 1)) l = leftTm t (leftTms (ts.take i) l) := by
 rw [take_snoc h, leftTms_app]
 simp only [leftTms, if_pos h0]
theorem leftTms_stop {ts : List Tm} {i : Nat} {l : Int} (h0 : ¬ 0 <= leftTms (ts.take i) l) : leftTms ts l = leftTms (ts.take i) l := by
 conv => lhs; rw [<- List.take_append_drop i ts]
 rw [leftTms_app, leftTms_neg h0]
theorem leftTm_eq (t : Tm) (l : Int) : leftTm t l = leftTms t.args (l - 1) := by cases t; simp only [leftTm, Tm.args]
set_option maxHeartbeats 4000000 in
set_option maxRecDepth 100000 in
theorem con_l6Left_all : ∀ (n : Nat) (t : Tm) (l : Int), sizeTm t < n -> sizeTm t <= big -> 0 <= l -> l <= 60 -> Con e0 126 [.agg (encTm t), .one (.lit (.int .i64 l))] [.one (.lit (.int .i64 (leftTm t l)))] := by
 intro n
 induction n with
 | zero => intro t l h; omega
 | succ n ih =>
  intro t l hn hb hl0 hl1
  have hsz := sizeTm_eq t
  have hal := sizeTms_len t.args
  unfold big at hb
  have hw : IntKind.i64.wrap (l - 1) = l - 1 := wrapN rfl (by omega) (by omega)
  rw [leftTm_eq]
  refine gI 65591 Tryz.func126 ?_
  (have F := ai @tmz @hw; refine gG ?_; clear F)
  (have F := @leftTms_u; refine gL (ι := Nat) [1, 5, 16] [] (fun i => [(5, A.d (.one (.lit (.int .i64 i)))), (1, A.d (.one (.lit (.int .i64 (leftTms (t.args.take i) (l - 1))))))]) (fun i => []) (fun i => i <= t.args.length) (fun i => t.args.length - i) (0) (by omega) (fun i hi => ?_); clear F)
  have hsp := leftTms_spec (t.args.take i) (l - 1) (by omega)
  by_cases hl : i < t.args.length
  rotate_left
  ·have hl' : ¬ ((i : Int) < (t.args.length : Int)) := by omega
   have e : t.args.take i = t.args := List.take_of_length_le (by omega)
   (have F := ai @hl' (ai @e @tmz); refine gG ?_; exact gT)
  have hl' : (i : Int) < (t.args.length : Int) := by omega
  by_cases h0 : 0 <= leftTms (t.args.take i) (l - 1)
  rotate_left
  ·have e := leftTms_stop h0
   (have F := ai @hl' (ai @h0 (ai @e @tmz)); refine gG ?_; exact gT)
  obtain ⟨a, ha⟩ : ∃ a, t.args[i]? = some a := ⟨_, List.getElem?_eq_getElem hl⟩
  have hm := sizeTms_mem (List.mem_of_getElem? ha)
  have hw1 := wrap1 (k := i) (by omega)
  have hs := leftTms_snoc ha h0
  (have F := ai @hl' (ai @h0 (ai @tmz @ha)); refine gG ?_; clear F)
  refine gB ?_
  (have F := ai @tmz @ha; refine gC (ih a _ (by omega) (by unfold big; omega) h0 (by omega)) ?_; clear F)
  (have F := @tmz; refine gR ?_; clear F)
  (have F := ai @hw1 (ai @hs @tmz); refine gG ?_; exact ⟨i + 1, by omega, gw, gw, by omega⟩)
theorem small_iff {t : Tm} : 0 <= leftTm t 60 ↔ sizeTm t <= 60 := by
 have := leftTm_spec t 60 (by omega)
 by_cases h : sizeTm t <= 60
 ·have := this.2.2.1 (by omega); omega
 ·have := this.2.2.2 (by omega); omega
set_option maxHeartbeats 4000000 in
set_option maxRecDepth 100000 in
theorem con_l6Small {t : Tm} (hb : sizeTm t <= big) : Con e0 81 [.agg (encTm t)] [.one (.lit (.bool (decide (sizeTm t <= 60 ∧ depthTm t <= 20))))] := by
 refine gI 7 Tryz.func81 ?_
 (have F := @tmz; refine gG ?_; clear F)
 refine gB ?_
 (have F := @tmz; refine gC (con_l6Left_all _ t 60 (Nat.lt_succ_self _) hb (by omega) (by omega)) ?_; clear F)
 by_cases h1 : sizeTm t <= 60
 rotate_left
 ·have h1' : ¬ (0 <= leftTm t 60) := fun h => h1 (small_iff.1 h)
  (have F := ai @tmz @h1'; refine gR ?_; clear F)
  (have F := @h1; refine gG ?_; exact gT)
 have h1' : (0 <= leftTm t 60) := small_iff.2 h1
 (have F := ai @tmz @h1'; refine gC (con_specDepth hb) ?_; clear F)
 by_cases h2 : depthTm t <= 20
 ·have h2' : ((depthTm t : Int) <= 20) := by omega
  (have F := ai @tmz @h2'; refine gR ?_; clear F)
  (have F := ai @h1 @h2; refine gG ?_; exact gT)
 ·have h2' : ¬ ((depthTm t : Int) <= 20) := by omega
  (have F := ai @tmz @h2'; refine gR ?_; clear F)
  (have F := ai @h1 @h2; refine gG ?_; exact gT)
section
variable {g : Sgn}
open Classical in
noncomputable def isNode (g : Sgn) (t : Tm) : Bool := decide (NodeOk g t)
theorem isNode_true {t : Tm} (h : NodeOk g t) : isNode g t = true := by simp [isNode, h]
theorem isNode_false {t : Tm} (h : ¬ NodeOk g t) : isNode g t = false := by simp [isNode, h]
theorem isNode_iff {t : Tm} : isNode g t = true ↔ NodeOk g t := by simp [isNode]
set_option maxHeartbeats 4000000 in
set_option maxRecDepth 100000 in
theorem con_l6Node (hg : SgnOk g) {t : Tm} (hok : okTm t) (hb : sizeTm t <= big) : Con e0 128 [.agg (encSgn g), .agg (encTm t)] [.one (.lit (.bool (isNode g t)))] := by
 have hno : ¬ NodeOk g t -> isNode g t = false := isNode_false
 obtain ⟨k1, k2, k3, k4⟩ := okTm_iff.1 hok
 have hsz := sizeTm_eq t
 have hal := sizeTms_len t.args
 have hn8 := hg.sorts.n8
 have hn1 := hg.sorts.n1
 have hln := hg.len
 unfold big at hb
 have hwn : IntKind.i64.wrap ((g.sorts.names.length : Int) - 1) = (g.sorts.names.length : Int) - 1 := wrapN rfl (by omega) (by omega)
 have hwo : IntKind.i64.wrap ((g.ops.length : Int) - 1) = (g.ops.length : Int) - 1 := wrapN rfl (by omega) (by omega)
 refine gI 9444733036108034605695 Tryz.func128 ?_
 by_cases h1 : t.op = -1
 ·have hV : NodeOk g t -> VarOk g t := fun h => by
   rcases h with h | ⟨o, d, h⟩
   ·exact h
   ·exact absurd h1 h.op
  (have F := ai @tmz (ai @encSgn_u @h1); refine gG ?_; clear F)
  refine gB ?_
  (have F := @tmz; refine gC (con_specName k2) ?_; clear F)
  by_cases h2 : isName t.name = true
  rotate_left
  ·have h2' : isName t.name = false := by simpa using h2
   have hf := hno fun h => h2 (hV h).2.1
   (have F := ai @tmz @h2'; refine gR ?_; clear F)
   (have F := @hf; refine gG ?_; exact gT)
  (have F := ai @tmz (ai @h2 @hwn); refine gC (con_l1In _ _ _) ?_; clear F)
  by_cases h3 : 0 <= t.sort ∧ t.sort < g.sorts.names.length
  rotate_left
  ·have h3' : decide (0 <= t.sort ∧ t.sort <= (g.sorts.names.length : Int) - 1) = false := by simp only [decide_eq_false_iff_not]; omega
   have hf := hno fun h => h3 ⟨(hV h).2.2.1, (hV h).2.2.2.1⟩
   (have F := ai @tmz @h3'; refine gR ?_; clear F)
   (have F := @hf; refine gG ?_; exact gT)
  have h3' : decide (0 <= t.sort ∧ t.sort <= (g.sorts.names.length : Int) - 1) = true := by simp only [decide_eq_true_eq]; omega
  by_cases h4 : t.args = []
  ·have hT := isNode_true (g := g) (.inl ⟨h1, h2, h3.1, h3.2, h4⟩)
   (have F := ai @tmz (ai @h3' @h4); refine gR ?_; clear F)
   (have F := @hT; refine gG ?_; exact gT)
  ·have hf := hno fun h => h4 (hV h).2.2.2.2
   have h4' : ¬ ((t.args.length : Int) = 0) := by
    intro h; apply h4; apply List.eq_nil_of_length_eq_zero; omega
   (have F := ai @tmz (ai @h3' @h4'); refine gR ?_; clear F)
   (have F := @hf; refine gG ?_; exact gT)
 (have F := ai @tmz (ai @encSgn_u @h1); refine gG ?_; clear F)
 refine gB ?_
 (have F := ai @tmz @hwo; refine gC (con_l1In _ _ _) ?_; clear F)
 by_cases h2 : 0 <= t.op ∧ t.op < g.ops.length
 rotate_left
 ·have h2' : decide (0 <= t.op ∧ t.op <= (g.ops.length : Int) - 1) = false := by simp only [decide_eq_false_iff_not]; omega
  have hf := hno fun h => by
   obtain ⟨o, d, h⟩ := h.app h1
   have := (List.getElem?_eq_some_iff.1 h.at').1
   have := h.lo
   omega
  (have F := ai @tmz @h2'; refine gR ?_; clear F)
  (have F := @hf; refine gG ?_; exact gT)
 have h2' : decide (0 <= t.op ∧ t.op <= (g.ops.length : Int) - 1) = true := by simp only [decide_eq_true_eq]; omega
 by_cases h4 : t.name = ByteArray.empty
 rotate_left
 ·have hf := hno fun h => by
   obtain ⟨o, d, h⟩ := h.app h1
   exact h4 h.nm
  (have F := ai @tmz (ai @h2' (ai @str_emp @h4)); refine gR ?_; clear F)
  (have F := @hf; refine gG ?_; exact gT)
 by_cases h5 : t.sort = 0
 rotate_left
 ·have hf := hno fun h => by
   obtain ⟨o, d, h⟩ := h.app h1
   exact h5 h.so
  (have F := ai @tmz (ai @h2' (ai @str_emp (ai @h4 @h5))); refine gR ?_; clear F)
  (have F := @hf; refine gG ?_; exact gT)
 have h0 := h2.1
 obtain ⟨o, ho⟩ : ∃ o, g.ops[t.op.toNat]? = some o := ⟨_, List.getElem?_eq_getElem (by omega)⟩
 obtain ⟨d, hd, hr0, hr1, hargs⟩ := hg.first ho
 have hgt : NodeOk g t -> AppOk g t o d := fun h => by
  obtain ⟨o', d', h⟩ := h.app h1
  have e1 := h.at'
  rw [ho] at e1
  injection e1 with e1
  subst e1
  have e2 := h.fst
  rw [hd] at e2
  injection e2 with e2
  subst e2
  exact h
 have cA := con_l4Arity hd
 rw [encOpr] at cA
 (have F := ai @tmz (ai @h2' (ai @str_emp (ai @h4 @h5))); refine gR ?_; clear F)
 (have F := ai @tmz (ai @h0 (ai @ho @encOpr_u)); refine gG ?_; clear F)
 cases ha : o.assoc with
 | false =>
  rw [ha] at cA
  refine gB ?_
  (have F := ai @tmz @ha; refine gC (cA) ?_; clear F)
  by_cases c : t.args.length = d.args.length
  ·have hT := isNode_true (g := g) (.inr ⟨o, d, h0, ho, hd, h4, h5, fun h => (by rw [ha] at h; cases h), fun _ => c⟩)
   have c' : ((t.args.length : Int) = (d.args.length : Int)) := by omega
   (have F := ai @tmz (ai @c' @ha); refine gR ?_; clear F)
   (have F := @hT; refine gG ?_; exact gT)
  ·have hf := hno fun h => c ((hgt h).nas ha)
   have c' : ¬ ((t.args.length : Int) = (d.args.length : Int)) := by omega
   (have F := ai @tmz (ai @c' @ha); refine gR ?_; clear F)
   (have F := @hf; refine gG ?_; exact gT)
 | true =>
  refine gB ?_
  (have F := ai @tmz @ha; refine gC (con_l1In _ _ _) ?_; clear F)
  by_cases c : 2 <= t.args.length ∧ t.args.length <= 7
  ·have hT := isNode_true (g := g) (.inr ⟨o, d, h0, ho, hd, h4, h5, fun _ => c, fun h => (by rw [ha] at h; cases h)⟩)
   have c' : decide ((2 : Int) <= (t.args.length : Int) ∧ (t.args.length : Int) <= 7) = true := by simp only [decide_eq_true_eq]; omega
   (have F := ai @tmz (ai @c' @ha); refine gR ?_; clear F)
   (have F := @hT; refine gG ?_; exact gT)
  ·have hf := hno fun h => c ((hgt h).asc ha)
   have c' : decide ((2 : Int) <= (t.args.length : Int) ∧ (t.args.length : Int) <= 7) = false := by simp only [decide_eq_false_iff_not]; omega
   (have F := ai @tmz (ai @c' @ha); refine gR ?_; clear F)
   (have F := @hf; refine gG ?_; exact gT)
end
end Go.Proofs.YtohilkmdjdfljaaGreat
namespace Go.Proofs.YtohilkmdjdfljaaGreat
open Go.RowKit
section
variable {g : Sgn}
open Classical in
noncomputable def isRight (g : Sgn) (op : Int) (args : List Tm) : Bool := decide (RightOk g op args)
theorem unit_form (hg : SgnOk g) {op : Int} {o : Opr} (ho : g.ops[op.toNat]? = some o) (hu : o.unit ≠ 0) {a : Tm} (ha : FormOk g a) (hop : a.op = o.unit - 1) : a = unitTm o := by
 have hax := hg.axs o (List.mem_of_getElem? ho)
 have hlo := hax.lo
 obtain ⟨p, u, h⟩ := ha.node.app (by omega)
 obtain ⟨d, hd, _⟩ := hg.first ho
 have e : a.op.toNat = o.unit.toNat - 1 := by omega
 have hz : u.args.length = 0 := by
  have h2 := hax.two (.inr (.inr hu)) d hd
  obtain ⟨d0, hd0⟩ : ∃ x, d.args[0]? = some x := ⟨_, List.getElem?_eq_getElem (by omega)⟩
  obtain ⟨d1, hd1⟩ : ∃ x, d.args[1]? = some x := ⟨_, List.getElem?_eq_getElem (by omega)⟩
  exact ((h2.2 d0 d1 hd0 hd1).2.2 hu p u (by rw [<- e]; exact h.at') h.fst).1
 have has : p.assoc = false := by
  cases hp : p.assoc with
  | false => rfl
  | true =>
   have := ((hg.axs p (List.mem_of_getElem? h.at')).two (.inl hp) u h.fst).1
   omega
 have hl := h.nas has
 have hnil : a.args = [] := List.eq_nil_of_length_eq_zero (by omega)
 have hnm := h.nm
 have hso := h.so
 cases a with
 | mk x n s l =>
  simp only [Tm.args, Tm.name, Tm.sort, Tm.op] at *
  subst hnil hnm hso hop
  simp only [unitTm, if_neg hu]
theorem okTm_unit {o : Opr} (h0 : 0 <= o.unit) (h1 : o.unit <= 14) : okTm (unitTm o) := by
 rw [okTm_iff]
 simp only [unitTm, Tm.op, Tm.name, Tm.sort, Tm.args, okTms, and_true]
 refine ⟨?_, by simp [maxLen], ?_⟩
 ·unfold I64; split <;> omega
 ·unfold I64; omega
set_option maxHeartbeats 40000000 in
set_option maxRecDepth 100000 in
theorem con_l6Right (hokg : okSgn g) (hg : SgnOk g) {t : Tm} {o : Opr} {d : Dcl} (hA : AppOk g t o d) (hF : ∀ a ∈ t.args, FormOk g a) (hok : okTm t) (hb : sizeTm t <= big) : Con e0 129 [.agg (encSgn g), .agg (encTm t)] [.one (.lit (.bool (isRight g t.op t.args)))] := by
 have hno : ¬ RightOk g t.op t.args -> isRight g t.op t.args = false := fun h => by simp [isRight, h]
 obtain ⟨k1, k2, k3, k4⟩ := okTm_iff.1 hok
 have hsz := sizeTm_eq t
 have hal := sizeTms_len t.args
 unfold big at hb
 have h0 := hA.lo
 have ho := hA.at'
 have hd := hA.fst
 obtain ⟨d', hd', hr0, hr1, hargs⟩ := hg.first ho
 rw [hd] at hd'
 injection hd' with hd'
 subst hd'
 have hax := hg.axs o (List.mem_of_getElem? ho)
 have hlo := hax.lo
 have hhi := hax.hi
 have hln := hg.len
 have cK := con_l3Kinds hg.sorts
 rw [encSrt] at cK
 have cUn := con_l6Unit hg h0 ho
 rw [encSgn] at cUn
 have hnoA : ∀ (i : Nat) a, t.args[i]? = some a -> ¬ ArgOk g t.op o d t.args i a -> isRight g t.op t.args = false := fun i a ha h => hno fun hR => h (hR o d ho hd i a ha)
 refine gI 9903595872146772515857895423 Tryz.func129 ?_
 (have F := ai @tmz (ai @encSgn_u (ai @h0 (ai @ho @encOpr_u))); refine gG ?_; clear F)
 refine gB ?_
 (have F := @tmz; refine gC (cK) ?_; clear F)
 (have F := @tmz; refine gR ?_; clear F)
 (have F := @tmz; refine gG ?_; clear F)
 refine gB ?_
 (have F := @tmz; refine gC (cUn) ?_; clear F)
 (have F := @tmz; refine gR ?_; clear F)
 (have F := @tmz; refine gG ?_; clear F)
 (have F := @e0P; refine gL (ι := Nat) [4, 9, 10, 11, 32, 42, 76, 93] [] (fun i => [(9, A.d (.one (.lit (.int .i64 i))))]) (fun i => []) (fun i => i <= t.args.length ∧ ∀ (j : Nat) a, j < i -> t.args[j]? = some a -> ArgOk g t.op o d t.args j a) (fun i => t.args.length - i) (0) (⟨by omega, fun j a h => absurd h (by omega)⟩) (fun i hi => ?_); clear F)
 obtain ⟨hil, hall⟩ := hi
 by_cases hl : i < t.args.length
 rotate_left
 ·have hl' : ¬ ((i : Int) < (t.args.length : Int)) := by omega
  have hT : isRight g t.op t.args = true := by
   simp only [isRight, decide_eq_true_eq]
   intro o' d' ho' hd' j a hj
   rw [ho] at ho'
   injection ho' with ho'
   subst ho'
   rw [hd] at hd'
   injection hd' with hd'
   subst hd'
   exact hall j a (by have := (List.getElem?_eq_some_iff.1 hj).1; omega) hj
  (have F := ai @tmz (ai @hl' @hT); refine gG ?_; exact gT)
 have hl' : (i : Int) < (t.args.length : Int) := by omega
 obtain ⟨a, ha⟩ : ∃ a, t.args[i]? = some a := ⟨_, List.getElem?_eq_getElem hl⟩
 have hm := List.mem_of_getElem? ha
 have hFa := hF a hm
 have hw1 := wrap1 (k := i) (by omega)
 obtain ⟨k, hk⟩ := argAt_get hg ho hd hA.nas hl
 obtain ⟨hk0, hk1⟩ := hargs k (List.mem_of_getElem? hk)
 have hkd := kd_get hg.sorts hk0 hk1
 have cKa := con_l6Kind hokg hg hFa.node
 rw [encSgn] at cKa
 have cU := con_l5Same (k4.mem hm) (okTm_unit (o := o) hlo (by omega))
 have hUiff : o.unit ≠ 0 -> (cmpTm a (unitTm o) = 0 ↔ a.op = o.unit - 1) := fun hu => by
  rw [cmpTm_iff]
  constructor
  ·rintro h; rw [h]; simp [unitTm, Tm.op, hu]
  ·exact unit_form hg ho hu hFa
 generalize hU : decide (cmpTm a (unitTm o) = 0) = U at cU
 have hnext : kindTm g a = ((kd g.sorts k : Nat) : Int) -> (o.assoc = true -> ¬ a.op = t.op) -> (o.unit ≠ 0 -> U = false) -> (o.comm = true -> ∀ (j : Nat) p, i = j + 1 -> t.args[j]? = some p -> cmpTm p a <= 0) -> i + 1 <= t.args.length ∧ ∀ (j : Nat) a, j < i + 1 -> t.args[j]? = some a -> ArgOk g t.op o d t.args j a := fun hkk hne hU' hc => ⟨by omega, fun j a' hj ha' => by
  by_cases e : j = i
  ·subst e
   rw [ha] at ha'
   injection ha' with ha'
   subst ha'
   refine ⟨fun k' hk' => ?_, hne, fun h1 h2 => ?_, hc⟩
   ·rw [hk] at hk'
    injection hk' with hk'
    subst hk'
    exact hkk
   ·have := hU' h1
    rw [this] at hU
    simp only [decide_eq_false_iff_not] at hU
    exact hU ((hUiff h1).2 h2)
  ·exact hall j a' (by omega) ha'⟩
 have hkN : d.args[(argAt o i : Nat)]? = some k := hk
 (have F := ai @tmz (ai @hl' @ha); refine gG ?_; clear F)
 refine gM (ι := Unit) [11] [] (fun u => [(11, A.d (.one (.lit (.int .i64 (argAt o i : Nat)))))]) (fun u => []) (fun u => True) ?_ (fun u hu => Exists.intro _ (ai (Wk.refl _) ?_))
 ·rcases Bool.eq_false_or_eq_true o.assoc with hac | hac
  ·(have F := ai @encOpr_u (ai @hac @argAt_u); refine gG ?_; exact ⟨(), trivial, gw, gw⟩)
  ·(have F := ai @encOpr_u (ai @hac (ai @argAt_u @if_false.{1})); refine gG ?_; exact ⟨(), trivial, gw, gw⟩)
 (have F := @tmz; refine gG ?_; clear F)
 refine gM (ι := Bool) [76] [] (fun x => [(76, A.d (.one (.lit (.bool x))))]) (fun x => []) (fun x => (x = true -> isRight g t.op t.args = false) ∧ (x = false -> kindTm g a = ((kd g.sorts k : Nat) : Int) ∧ (o.assoc = true -> ¬ a.op = t.op) ∧ (o.unit ≠ 0 -> U = false))) ?_ (fun x hx => Exists.intro _ (ai (Wk.refl _) ?_))
 ·refine gB ?_
  (have F := @tmz; refine gC (cKa) ?_; clear F)
  by_cases hkk : kindTm g a = ((kd g.sorts k : Nat) : Int)
  rotate_left
  ·have hf := hnoA i a ha fun h => hkk (h.kind k hk)
   (have F := ai @tmz (ai @encOpr_u (ai @hd (ai @encDcl_u (ai @hkN (ai @hk0 (ai @hkd (ai @encInt_u @hkk))))))); refine gR ?_; clear F)
   (have F := @tmz; refine gG ?_; exact ⟨true, ⟨fun _ => hf, fun h => by cases h⟩, gw, gw⟩)
  by_cases hN : o.assoc = true ∧ a.op = t.op
  ·have hf := hnoA i a ha fun h => h.nest hN.1 hN.2
   obtain ⟨hN1, hN2⟩ := hN
   (have F := ai @tmz (ai @encOpr_u (ai @hd (ai @encDcl_u (ai @hkN (ai @hk0 (ai @hkd (ai @encInt_u (ai @hkk (ai @hN1 @hN2))))))))); refine gR ?_; clear F)
   (have F := ai @tmz @hN1; refine gG ?_; exact ⟨true, ⟨fun _ => hf, fun h => by cases h⟩, gw, gw⟩)
  have hne : o.assoc = true -> ¬ a.op = t.op := fun h1 h2 => hN ⟨h1, h2⟩
  rcases Bool.eq_false_or_eq_true o.assoc with hac | hac
  all_goals (
   by_cases hu : o.unit = 0
   ·(have F := ai @tmz (ai @encOpr_u (ai @hd (ai @encDcl_u (ai @hkN (ai @hk0 (ai @hkd (ai @encInt_u (ai @hkk (ai @hac (ai @hne @hu)))))))))); refine gR ?_; clear F)
    (have F := ai @tmz (ai @hac @hu); refine gG ?_; exact ⟨false, ⟨fun h => (by cases h), fun _ => ⟨hkk, hne, fun h => absurd hu h⟩⟩, gw, gw⟩)
   (have F := ai @tmz (ai @encOpr_u (ai @hd (ai @encDcl_u (ai @hkN (ai @hk0 (ai @hkd (ai @encInt_u (ai @hkk (ai @hac (ai @hne @hu)))))))))); refine gC (cU) ?_; clear F)
   rcases Bool.eq_false_or_eq_true U with hub | hub
   ·have hf := hnoA i a ha fun h => by
     rw [hub] at hU
     simp only [decide_eq_true_eq] at hU
     exact h.unit hu ((hUiff hu).1 hU)
    (have F := ai @tmz @hub; refine gR ?_; clear F)
    (have F := ai @tmz (ai @hac @hu); refine gG ?_; exact ⟨true, ⟨fun _ => hf, fun h => by cases h⟩, gw, gw⟩)
   ·(have F := ai @tmz @hub; refine gR ?_; clear F)
    (have F := ai @tmz (ai @hac @hu); refine gG ?_; exact ⟨false, ⟨fun h => (by cases h), fun _ => ⟨hkk, hne, fun _ => hub⟩⟩, gw, gw⟩))
 cases x with
 | true =>
  have hf := hx.1 rfl
  (have F := @hf; refine gG ?_; exact gT)
 | false =>
  obtain ⟨hkk, hne, hub⟩ := hx.2 rfl
  (have F := @tmz; refine gG ?_; clear F)
  rcases Bool.eq_false_or_eq_true o.comm with hcm | hcm
  rotate_left
  ·have hq := hnext hkk hne hub (fun h => by rw [hcm] at h; cases h)
   (have F := ai @hw1 (ai @tmz (ai @encOpr_u @hcm)); refine gG ?_; exact ⟨i + 1, hq, gw, gw, by omega⟩)
  rcases Nat.eq_zero_or_pos i with hi0 | hi0
  ·have hq := hnext hkk hne hub (fun _ j p h => by omega)
   have hi0' : ¬ ((0 : Int) < (i : Int)) := by omega
   (have F := ai @hw1 (ai @tmz (ai @encOpr_u (ai @hcm @hi0'))); refine gG ?_; exact ⟨i + 1, hq, gw, gw, by omega⟩)
  obtain ⟨j, hj⟩ : ∃ j, i = j + 1 := ⟨i - 1, by omega⟩
  obtain ⟨p, hp⟩ : ∃ p, t.args[j]? = some p := ⟨_, List.getElem?_eq_getElem (by omega)⟩
  have cC := con_specCmp (k4.mem (List.mem_of_getElem? hp)) (k4.mem hm)
  have hgt0 : (0 : Int) < (i : Int) := by omega
  have hsub : IntKind.i64.wrap ((i : Int) - 1) = (j : Int) := wrapN (by omega) (by omega) (by omega)
  refine gB ?_
  (have F := ai @tmz (ai @encOpr_u (ai @hcm (ai @hgt0 (ai @hsub @hp)))); refine gC (cC) ?_; clear F)
  by_cases hc : 0 < cmpTm p a
  ·have hf := hnoA i a ha fun h => by have := h.ord hcm j p hj hp; omega
   (have F := ai @tmz @hc; refine gR ?_; clear F)
   (have F := @hf; refine gG ?_; exact gT)
  ·have hq := hnext hkk hne hub (fun _ j' p' h hp' => by
    have : j' = j := by omega
    subst this
    rw [hp] at hp'
    injection hp' with hp'
    subst hp'
    omega)
   (have F := ai @tmz @hc; refine gR ?_; clear F)
   (have F := ai @hw1 (ai @tmz (ai @encOpr_u @hcm)); refine gG ?_; exact ⟨i + 1, hq, gw, gw, by omega⟩)
set_option maxHeartbeats 40000000 in
set_option maxRecDepth 100000 in
theorem con_l6Form_all (hokg : okSgn g) (hg : SgnOk g) : ∀ (n : Nat) (t : Tm), sizeTm t < n -> okTm t -> sizeTm t <= big -> Con e0 82 [.agg (encSgn g), .agg (encTm t)] [.one (.lit (.bool (isForm g t)))] := by
 intro n
 induction n with
 | zero => intro t h; omega
 | succ n ih =>
  intro t hn hok hb
  have hno : ¬ FormOk g t -> isForm g t = false := isForm_false
  obtain ⟨k1, k2, k3, k4⟩ := okTm_iff.1 hok
  have hsz := sizeTm_eq t
  have hal := sizeTms_len t.args
  have cN := con_l6Node hg hok hb
  have hb' := hb
  unfold big at hb'
  rw [encSgn] at cN
  have ih' := fun a h1 h2 h3 => ih a h1 h2 h3
  simp only [encSgn] at ih'
  refine gI 16794175 Tryz.func82 ?_
  (have F := ai @tmz @encSgn_u; refine gG ?_; clear F)
  refine gB ?_
  (have F := @tmz; refine gC (cN) ?_; clear F)
  by_cases hN : isNode g t = true
  rotate_left
  ·have hf := hno fun h => hN (isNode_true h.node)
   have hN' : isNode g t = false := by simpa using hN
   (have F := ai @tmz @hN'; refine gR ?_; clear F)
   (have F := @hf; refine gG ?_; exact gT)
  have hNd := isNode_iff.1 hN
  (have F := ai @tmz @hN; refine gR ?_; clear F)
  (have F := @tmz; refine gG ?_; clear F)
  (have F := @e0P; refine gL (ι := Nat) [4, 5, 14, 24] [] (fun i => [(5, A.d (.one (.lit (.int .i64 i))))]) (fun i => []) (fun i => i <= t.args.length ∧ ∀ (j : Nat) a, j < i -> t.args[j]? = some a -> FormOk g a) (fun i => t.args.length - i) (0) (⟨by omega, fun j a h => absurd h (by omega)⟩) (fun i hi => ?_); clear F)
  obtain ⟨hil, hall⟩ := hi
  by_cases hl : i < t.args.length
  rotate_left
  ·have hl' : ¬ ((i : Int) < (t.args.length : Int)) := by omega
   have hF : ∀ a ∈ t.args, FormOk g a := fun a ha => by
    obtain ⟨j, hj⟩ := List.getElem?_of_mem ha
    exact hall j a (by have := (List.getElem?_eq_some_iff.1 hj).1; omega) hj
   by_cases h1 : t.op = -1
   ·have hT := isForm_true (g := g) (t := t) (FormOk_iff.2 ⟨hNd, hF, .inl h1⟩)
    (have F := ai @tmz (ai @hl' (ai @h1 @hT)); refine gG ?_; exact gT)
   obtain ⟨o, d, hA⟩ := hNd.app h1
   have cR := con_l6Right hokg hg hA hF hok hb
   rw [encSgn] at cR
   have e : isRight g t.op t.args = isForm g t := by
    unfold isRight isForm
    congr 1
    rw [FormOk_iff]
    exact propext ⟨fun h => ⟨hNd, hF, .inr h⟩, fun h => h.2.2.resolve_left h1⟩
   (have F := ai @tmz (ai @hl' @h1); refine gG ?_; clear F)
   refine gB ?_
   (have F := ai @tmz @h1; refine gC (cR) ?_; clear F)
   (have F := @tmz; refine gR ?_; clear F)
   (have F := @e; refine gG ?_; exact gT)
  have hl' : (i : Int) < (t.args.length : Int) := by omega
  obtain ⟨a, ha⟩ : ∃ a, t.args[i]? = some a := ⟨_, List.getElem?_eq_getElem hl⟩
  have hm := List.mem_of_getElem? ha
  have hsa := sizeTms_mem hm
  have hw1 := wrap1 (k := i) (by omega)
  (have F := ai @tmz (ai @hl' @ha); refine gG ?_; clear F)
  refine gB ?_
  (have F := ai @tmz @ha; refine gC (ih' a (by omega) (k4.mem hm) (by unfold big; omega)) ?_; clear F)
  by_cases hfa : isForm g a = true
  rotate_left
  ·have hf := hno fun h => hfa (isForm_true ((FormOk_iff.1 h).2.1 a hm))
   have hfa' : isForm g a = false := by simpa using hfa
   (have F := ai @tmz @hfa'; refine gR ?_; clear F)
   (have F := @hf; refine gG ?_; exact gT)
  have hq : i + 1 <= t.args.length ∧ ∀ (j : Nat) a, j < i + 1 -> t.args[j]? = some a -> FormOk g a := ⟨by omega, fun j a' hj ha' => by
   by_cases e : j = i
   ·subst e
    rw [ha] at ha'
    injection ha' with ha'
    subst ha'
    exact isForm_iff.1 hfa
   ·exact hall j a' (by omega) ha'⟩
  (have F := ai @tmz @hfa; refine gR ?_; clear F)
  (have F := ai @hw1 @tmz; refine gG ?_; exact ⟨i + 1, hq, gw, gw, by omega⟩)
theorem con_l6Form (hokg : okSgn g) (hg : SgnOk g) {t : Tm} (hok : okTm t) (hb : sizeTm t <= big) : Con e0 82 [.agg (encSgn g), .agg (encTm t)] [.one (.lit (.bool (isForm g t)))] := con_l6Form_all hokg hg _ t (Nat.lt_succ_self _) hok hb
set_option maxHeartbeats 4000000 in
set_option maxRecDepth 100000 in
theorem con_specIsTerm (hokg : okSgn g) {t : Tm} (hok : okTm t) (hb : sizeTm t <= big) : Con e0 37 [.agg (encSgn g), .agg (encTm t)] [.one (.lit (.bool (isSgn g && isTerm g t)))] := by
 have cS := con_specSgn hokg
 rw [encSgn] at cS
 refine gI 31 Tryz.func37 ?_
 (have F := ai @tmz @encSgn_u; refine gG ?_; clear F)
 refine gB ?_
 (have F := @tmz; refine gC (cS) ?_; clear F)
 by_cases hs : isSgn g = true
 rotate_left
 ·have hs' : isSgn g = false := by simpa using hs
  (have F := ai @tmz @hs'; refine gR ?_; clear F)
  (have F := @hs'; refine gG ?_; exact gT)
 have hg := isSgn_iff.1 hs
 have cF := con_l6Form hokg hg hok hb
 rw [encSgn] at cF
 (have F := ai @tmz @hs; refine gC (con_l6Small hb) ?_; clear F)
 by_cases h1 : sizeTm t <= 60 ∧ depthTm t <= 20
 rotate_left
 ·have hf : isTerm g t = false := isTerm_false fun h => h1 ⟨h.size, h.depth⟩
  have h1' : decide (sizeTm t <= 60 ∧ depthTm t <= 20) = false := by simp only [decide_eq_false_iff_not]; exact h1
  (have F := ai @tmz (ai @h1' @hs); refine gR ?_; clear F)
  (have F := ai @hs @hf; refine gG ?_; exact gT)
 have h1' : decide (sizeTm t <= 60 ∧ depthTm t <= 20) = true := by simp only [decide_eq_true_eq]; exact h1
 have e := isTerm_form (g := g) h1.1 h1.2
 (have F := ai @tmz (ai @h1' @hs); refine gC (cF) ?_; clear F)
 (have F := ai @tmz (ai @h1' @hs); refine gR ?_; clear F)
 (have F := ai @hs @e; refine gG ?_; exact gT)
end
end Go.Proofs.YtohilkmdjdfljaaGreat
namespace Go.Proofs.YtohilkmdjdfljaaGreat
open Go.RowKit
mutual
theorem bulk_size : ∀ t : Tm, sizeTm t <= bulkRow (encTm t) + 1
 | .mk _ _ _ args => by
  have := bulk_sizes args
  simp only [sizeTm, encTm, bulkRow, bulkC]
  omega
theorem bulk_sizes : ∀ ts : List Tm, sizeTms ts <= (encTms ts).length + bulkRows (encTms ts)
 | [] => by simp [sizeTms]
 | t :: ts => by
  have h1 := bulk_size t
  have h2 := bulk_sizes ts
  simp only [sizeTms, encTms, List.length_cons, bulkRows]
  omega
end
theorem big_of_bulk {t : Tm} (h : bulkRow (encTm t) <= 1048576) : sizeTm t <= big := by
 have := bulk_size t
 unfold big
 omega
end Go.Proofs.YtohilkmdjdfljaaGreat
namespace Go.Proofs.YtohilkmdjdfljaaGreat
open Go.RowKit
open Classical in
noncomputable def tkRest (g : Sgn) (p : Tm) (o : Occ) : Option (List Tm) := if p.op < 0 then none else match g.ops[p.op.toNat]? with
 | none => none
 | some x => if x.assoc = false ∨ p.args.length < o.left.length + o.right.length + 2 then none
  else if x.comm = true then (if o.right.length = 0 ∧ (wo p.args o.left).2 = true then some (wo p.args o.left).1 else none)
  else if sameL (p.args.take o.left.length) o.left = true ∧ sameL (p.args.drop (p.args.length - o.right.length)) o.right = true then some ((p.args.take (p.args.length - o.right.length)).drop o.left.length) else none
noncomputable def tkIn (g : Sgn) (t : Tm) (o : Occ) : Tm × Bool := if (subAt t o.path).2 = false then (zTm, false) else if o.left.length + o.right.length = 0 then ((subAt t o.path).1, true) else match tkRest g (subAt t o.path).1 o with
 | none => (zTm, false)
 | some r => (.mk (subAt t o.path).1.op ByteArray.empty 0 r, true)
open Classical in
noncomputable def tkT (g : Sgn) (t : Tm) (o : Occ) : Tm × Bool := if SgnOk g ∧ TermOk g t then tkIn g t o else (zTm, false)
theorem form_sub {g : Sgn} : ∀ (ps : List Int) (t : Tm), FormOk g t -> (subAt t ps).2 = true -> FormOk g (subAt t ps).1
 | [], t, h, _ => h
 | p :: ps, t, h, hs => by
  have e := subAt_drop (t := t) (ps := p :: ps) (i := 0) (p := p) rfl
  simp only [List.drop_zero, Nat.zero_add, List.drop_succ_cons] at e
  rw [e] at hs ⊢
  by_cases hp : p < 0
  ·rw [if_pos hp] at hs; cases hs
  rw [if_neg hp] at hs ⊢
  cases ha : t.args[p.toNat]? with
  | none => rw [ha] at hs; cases hs
  | some a =>
   rw [ha] at hs
   exact form_sub ps a ((FormOk_iff.1 h).2.1 a (List.mem_of_getElem? ha)) hs
theorem mk_u (op : Int) (l : List Tm) : encTm (.mk op ByteArray.empty 0 l) = [.lit (.int .i64 op), .lit (.string ByteArray.empty), .lit (.int .i64 0), .sl (encTms l)] := by simp only [encTm]
theorem args_le' {a : Tm} (ha : bulkRow (encTm a) <= 1048576) : a.args.length <= 1048576 := by
 obtain ⟨op, nm, so, args⟩ := a
 simp only [encTm, bulkRow, bulkC, encTms_len] at ha
 simp only [Tm.args]
 omega
theorem encOcc_u (o : Occ) : encOcc o = [.sl (o.path.map encInt), .sl (encTms o.left), .sl (encTms o.right), .sl (o.mat.map encBd)] := rfl
set_option maxHeartbeats 16000000 in
set_option maxRecDepth 100000 in
theorem con_taken {g : Sgn} {mc : C} (hg : SgnOk g) {t : Tm} (ht : okTm t) (hb : bulkRow (encTm t) <= 1048576) {o : Occ} (hop : o.path.length <= 1048576) (hol : o.left.length <= 1048576) (hor : o.right.length <= 1048576) : Con e0 49 [.one (.ptr (encX g mc)), .agg (encTm t), .agg (encOcc o)] [.agg (encTm (if isTerm g t = true then tkIn g t o else (zTm, false)).1), .one (.lit (.bool (if isTerm g t = true then tkIn g t o else (zTm, false)).2))] := by
 have c1 := con_implIsT (mc := mc) hg ht (big_of_bulk hb)
 have c2 := con_treeB (con_implAt t o.path hop hb)
 have hz := zTm_u
 rw [encOcc_u]
 refine gI (ts := [.cell 6 41, .slot 7]) 170141183618927975792446829016171823095 Tryz.func49 ?_
 (have F := @tmz; refine gG ?_; clear F)
 refine gB ?_
 (have F := @tmz; refine gC (c1) ?_; clear F)
 cases h1 : isTerm g t with
 | false =>
  rw [if_neg (by simp)]
  (have F := @tmz; refine gR ?_; clear F)
  (have F := ai @tmz @hz; refine gG ?_; exact gTd)
 | true =>
 rw [if_pos rfl]
 have hT := isTerm_iff.1 h1
 (have F := @tmz; refine gR ?_; clear F)
 (have F := @tmz; refine gG ?_; clear F)
 refine gB ?_
 (have F := @tmz; refine gC (c2) ?_; clear F)
 have hform := form_sub (g := g) o.path t hT.form
 have hbs := subAt_bulk o.path t
 have hfalse := subAt_false o.path t
 have hdef : tkIn g t o = if (subAt t o.path).2 = false then (zTm, false) else if o.left.length + o.right.length = 0 then ((subAt t o.path).1, true) else match tkRest g (subAt t o.path).1 o with
  | none => (zTm, false)
  | some r => (.mk (subAt t o.path).1.op ByteArray.empty 0 r, true) := rfl
 rw [hdef]
 clear hdef c2
 generalize hsub : subAt t o.path = px at hform hbs hfalse ⊢
 obtain ⟨p, ok⟩ := px
 simp only at hform hbs hfalse ⊢
 cases ok with
 | false =>
  have e := hfalse rfl
  subst e
  rw [if_pos rfl]
  (have F := @tmz; refine gR ?_; clear F)
  (have F := @tmz; refine gG ?_; exact gTd)
 | true =>
 rw [if_neg (by simp)]
 have hws : IntKind.i64.wrap ((o.left.length : Int) + (o.right.length : Int)) = (o.left.length : Int) + (o.right.length : Int) := IntWalk.i64_in _ (by omega)
 by_cases hn0 : o.left.length + o.right.length = 0
 ·have z0 : ((o.left.length : Int) + (o.right.length : Int) = 0) = True := eq_true (by omega)
  rw [if_pos hn0]
  (have F := @tmz; refine gR ?_; clear F)
  (have F := ai @z0 (ai @hws @tmz); refine gG ?_; exact gTd)
 have z0 : ((o.left.length : Int) + (o.right.length : Int) = 0) = False := eq_false (by omega)
 rw [if_neg hn0]
 have hpf := hform rfl
 have hpb : bulkRow (encTm p) <= 1048576 := by omega
 have hal := args_le' hpb
 have w1 : IntKind.i64.wrap ((p.args.length : Int) - (o.left.length : Int)) = (p.args.length : Int) - (o.left.length : Int) := IntWalk.i64_in _ (by omega)
 have w2 : IntKind.i64.wrap ((p.args.length : Int) - (o.left.length : Int) - (o.right.length : Int)) = (p.args.length : Int) - (o.left.length : Int) - (o.right.length : Int) := IntWalk.i64_in _ (by omega)
 (have F := @tmz; refine gR ?_; clear F)
 rcases hpf.node with hv | ⟨x, d, hA⟩
 ·have hop1 : p.op = -1 := hv.1
  have q1 : (p.op < 0) = True := eq_true (by omega)
  have e : tkRest g p o = none := by unfold tkRest; rw [if_pos (by omega)]
  rw [e]
  (have F := ai @z0 (ai @hws (ai @w1 (ai @w2 (ai @q1 (ai @tmz @hz))))); refine gG ?_; exact gTd)
 have h0 : 0 <= p.op := hA.lo
 have hat : g.ops[p.op.toNat]? = some x := hA.at'
 have hneg : ¬ (p.op < 0) := by omega
 have e0' : tkRest g p o = if x.assoc = false ∨ p.args.length < o.left.length + o.right.length + 2 then none
  else if x.comm = true then (if o.right.length = 0 ∧ (wo p.args o.left).2 = true then some (wo p.args o.left).1 else none)
  else if sameL (p.args.take o.left.length) o.left = true ∧ sameL (p.args.drop (p.args.length - o.right.length)) o.right = true then some ((p.args.take (p.args.length - o.right.length)).drop o.left.length) else none := by
  simp only [tkRest, if_neg hneg, hat]
 rw [e0']
 clear e0'
 cases ha : x.assoc with
 | false =>
  rw [if_pos (.inl rfl)]
  (have F := ai @z0 (ai @hws (ai @w1 (ai @w2 (ai @hneg (ai @encX_u (ai @h0 (ai @hat (ai @encOpr_u (ai @ha (ai @tmz @hz)))))))))); refine gG ?_; exact gTd)
 | true =>
 by_cases hn2 : p.args.length < o.left.length + o.right.length + 2
 ·have q2 : ((p.args.length : Int) - (o.left.length : Int) - (o.right.length : Int) < 2) = True := eq_true (by omega)
  rw [if_pos (.inr hn2)]
  (have F := ai @z0 (ai @hws (ai @w1 (ai @w2 (ai @hneg (ai @encX_u (ai @h0 (ai @hat (ai @encOpr_u (ai @ha (ai @q2 (ai @tmz @hz))))))))))); refine gG ?_; exact gTd)
 have q2 : ((p.args.length : Int) - (o.left.length : Int) - (o.right.length : Int) < 2) = False := eq_false (by omega)
 rw [if_neg (fun h => h.elim (fun h => by cases h) hn2)]
 cases hc : x.comm with
 | true =>
  rw [if_pos rfl]
  have cW := con_without p.args o.left hal hol
  (have F := ai @z0 (ai @hws (ai @w1 (ai @w2 (ai @hneg (ai @encX_u (ai @h0 (ai @hat (ai @encOpr_u (ai @ha (ai @hc (ai @q2 @tmz))))))))))); refine gG ?_; clear F)
  refine gB ?_
  (have F := @tmz; refine gC (cW) ?_; clear F)
  (have F := @tmz; refine gR ?_; clear F)
  by_cases hr0 : o.right.length = 0
  rotate_left
  ·have q3 : (0 < (o.right.length : Int)) = True := eq_true (by omega)
   rw [if_neg fun h => hr0 h.1]
   (have F := ai @q3 (ai @tmz @hz); refine gG ?_; exact gTd)
  have q3 : (0 < (o.right.length : Int)) = False := eq_false (by omega)
  cases hw : (wo p.args o.left).2 with
  | false =>
   rw [if_neg fun h => by cases h.2]
   (have F := ai @q3 (ai @hw (ai @tmz @hz)); refine gG ?_; exact gTd)
  | true =>
   rw [if_pos ⟨hr0, rfl⟩]
   have em := mk_u p.op (wo p.args o.left).1
   (have F := ai @q3 (ai @hw (ai @tmz @em)); refine gG ?_; exact gTd)
 | false =>
  rw [if_neg (by simp)]
  have wE : IntKind.i64.wrap ((o.left.length : Int) + ((p.args.length : Int) - (o.left.length : Int) - (o.right.length : Int))) = ((p.args.length - o.right.length : Nat) : Int) := by
   rw [IntWalk.i64_in _ (by omega)]; omega
  have sll : ((p.args.length : Int) <= (p.args.length : Int)) = True := eq_true (Int.le_refl _)
  have stk : p.args.take p.args.length = p.args := List.take_length
  have s1 : ((o.left.length : Int) <= (p.args.length : Int)) = True := eq_true (by omega)
  have s2 : (((p.args.length - o.right.length : Nat) : Int) <= (p.args.length : Int)) = True := eq_true (by omega)
  have s3 : ((o.left.length : Int) <= ((p.args.length - o.right.length : Nat) : Int)) = True := eq_true (by omega)
  have cA := con_equalFunc (p.args.take o.left.length) o.left (by rw [List.length_take]; omega) hol
  have cB := con_equalFunc (p.args.drop (p.args.length - o.right.length)) o.right (by rw [List.length_drop]; omega) hor
  (have F := ai @z0 (ai @hws (ai @w1 (ai @w2 (ai @hneg (ai @encX_u (ai @h0 (ai @hat (ai @encOpr_u (ai @ha (ai @hc (ai @q2 (ai @wE @tmz)))))))))))); refine gG ?_; clear F)
  refine gB ?_
  (have F := ai @tmz (ai @s1 (ai @natInt (ai @encTms_take @encTms_drop))); refine gC (cA) ?_; clear F)
  cases h3 : sameL (p.args.take o.left.length) o.left with
  | false =>
   rw [if_neg fun h => by cases h.1]
   (have F := @tmz; refine gR ?_; clear F)
   (have F := ai @tmz @hz; refine gG ?_; exact gTd)
  | true =>
   (have F := ai @tmz (ai @s2 (ai @sll (ai @stk (ai @natInt (ai @encTms_take @encTms_drop))))); refine gC (cB) ?_; clear F)
   cases h4 : sameL (p.args.drop (p.args.length - o.right.length)) o.right with
   | false =>
    rw [if_neg fun h => by cases h.2]
    (have F := @tmz; refine gR ?_; clear F)
    (have F := ai @tmz @hz; refine gG ?_; exact gTd)
   | true =>
    rw [if_pos ⟨rfl, rfl⟩]
    have em := mk_u p.op ((p.args.take (p.args.length - o.right.length)).drop o.left.length)
    (have F := @tmz; refine gR ?_; clear F)
    (have F := ai @tmz (ai @s1 (ai @s2 (ai @s3 (ai @natInt (ai @encTms_take (ai @encTms_drop @em)))))); refine gG ?_; exact gTd)
theorem tkRest_sub {g : Sgn} {p : Tm} {o : Occ} {r : List Tm} (h : tkRest g p o = some r) : r.Sublist p.args := by
 unfold tkRest at h
 split at h
 ·cases h
 ·split at h
  ·cases h
  ·split at h
   ·cases h
   ·split at h
    ·split at h
     ·injection h with h; subst h; exact wo_sub _ _
     ·cases h
    ·split at h
     ·injection h with h; subst h; exact (List.drop_sublist _ _).trans (List.take_sublist _ _)
     ·cases h
where wo_sub : ∀ (l os : List Tm), ((wo l os).1).Sublist l
 | l, [] => by rw [wo_nil]; exact List.Sublist.refl _
 | [], o :: os => by simp [wo]
 | a :: l, o :: os => by
  simp only [wo]
  split
  ·exact (wo_sub l os).cons _
  ·exact (wo_sub l (o :: os)).cons_cons _
theorem bulk_subL {a b : List Tm} (h : a.Sublist b) : a.length + bulkRows (encTms a) <= b.length + bulkRows (encTms b) := by
 induction h with
 | slnil => exact Nat.le_refl _
 | cons x h ih => simp only [encTms, bulkRows, List.length_cons]; omega
 | cons_cons x h ih => simp only [encTms, bulkRows, List.length_cons]; omega
theorem bulk_args (op so : Int) (nm : ByteArray) (args : List Tm) : bulkRow (encTm (.mk op nm so args)) = nm.size + (args.length + bulkRows (encTms args)) := by
 simp only [encTm, bulkRow, bulkC, encTms_len]; omega
theorem okTms_all {ts : List Tm} : okTms ts ↔ ∀ t ∈ ts, okTm t := by
 induction ts with
 | nil => simp [okTms]
 | cons t ts ih => simp [okTms, ih]
theorem zTm_bulk : bulkRow (encTm zTm) = 0 := by rw [zTm, bulk_args]; rfl
theorem zTm_ok : okTm zTm := by simp only [zTm, okTm, okTms, and_true]; exact ⟨⟨by decide, by decide⟩, by simp [maxLen], ⟨by decide, by decide⟩⟩
theorem sub_ok : ∀ (ps : List Int) (t : Tm), okTm t -> okTm (subAt t ps).1
 | [], t, h => h
 | p :: ps, t, h => by
  rw [subAt]
  by_cases hp : p < 0
  ·rw [if_pos hp]; exact zTm_ok
  ·rw [if_neg hp]
   cases ha : t.args[p.toNat]? with
   | none => exact zTm_ok
   | some a =>
    refine sub_ok ps a ?_
    obtain ⟨op, nm, so, args⟩ := t
    simp only [okTm] at h
    exact h.2.2.2.mem (List.mem_of_getElem? ha)
theorem tkIn_facts {g : Sgn} {t : Tm} {o : Occ} (ht : okTm t) {B : Nat} (hb : bulkRow (encTm t) <= B) : okTm (tkIn g t o).1 ∧ bulkRow (encTm (tkIn g t o).1) <= B ∧ ((tkIn g t o).2 = false -> (tkIn g t o).1 = zTm) := by
 have h1 := sub_ok o.path t ht
 have h2 := subAt_bulk o.path t
 unfold tkIn
 generalize subAt t o.path = px at h1 h2 ⊢
 obtain ⟨p, ok⟩ := px
 simp only at h1 h2 ⊢
 have hz : okTm zTm ∧ bulkRow (encTm zTm) <= B := ⟨zTm_ok, by rw [zTm_bulk]; exact Nat.zero_le _⟩
 split
 ·exact ⟨hz.1, hz.2, fun _ => rfl⟩
 ·split
  ·exact ⟨h1, Nat.le_trans h2 hb, fun h => by cases h⟩
  ·split
   ·exact ⟨hz.1, hz.2, fun _ => rfl⟩
   ·rename_i r hr
    have hs := tkRest_sub hr
    obtain ⟨op, nm, so, args⟩ := p
    have hbs := bulk_subL hs
    simp only [Tm.args, Tm.op] at hs hbs ⊢
    rw [bulk_args] at h2 ⊢
    simp only [okTm] at h1 ⊢
    refine ⟨⟨h1.1, by simp [maxLen], ⟨by decide, by decide⟩, okTms_all.2 fun a ha => okTms_all.1 h1.2.2.2 a (hs.subset ha)⟩, ?_, fun h => by cases h⟩
    have : ByteArray.empty.size = 0 := rfl
    omega
theorem tkT_yes {g : Sgn} {t : Tm} {o : Occ} (h1 : SgnOk g) (h2 : TermOk g t) : tkT g t o = tkIn g t o := if_pos ⟨h1, h2⟩
theorem tkT_no {g : Sgn} {t : Tm} {o : Occ} (h : ¬ (SgnOk g ∧ TermOk g t)) : tkT g t o = (zTm, false) := if_neg h
theorem tkT_facts {g : Sgn} {t : Tm} {o : Occ} (ht : okTm t) {B : Nat} (hb : bulkRow (encTm t) <= B) : okTm (tkT g t o).1 ∧ bulkRow (encTm (tkT g t o).1) <= B := by
 by_cases h : SgnOk g ∧ TermOk g t
 ·rw [tkT_yes h.1 h.2]
  have := tkIn_facts (g := g) (o := o) ht hb
  exact ⟨this.1, this.2.1⟩
 ·rw [tkT_no h]
  exact ⟨zTm_ok, by rw [zTm_bulk]; exact Nat.zero_le _⟩
end Go.Proofs.YtohilkmdjdfljaaGreat
namespace Go.Proofs.YtohilkmdjdfljaaGreat
open Go.RowKit
set_option maxHeartbeats 16000000 in
set_option maxRecDepth 100000 in
theorem conP_implTaken {g : Sgn} (hok : okSgn g) {t : Tm} (ht : okTm t) (hb : bulkRow (encTm t) <= 1048576) {o : Occ} (hop : o.path.length <= 1048576) (hol : o.left.length <= 1048576) (hor : o.right.length <= 1048576) : ConP e0 13 [.agg (encSgn g), .agg (encTm t), .agg (encOcc o)] [] (RTreeF (encTm (tkT g t o).1) (tkT g t o).2) := by
 by_cases hg : SgnOk g
 rotate_left
 ·rw [tkT_no fun h => hg h.1]
  have c := con_newAlg_not hok hg
  rw [encSgn] at c
  rw [encSgn]
  refine gIP (ts := [.cell 6 41, .slot 7]) [] 133119 Tryz.func13 ?_
  (have F := @tmz; refine gG ?_; clear F)
  refine gB ?_
  (have F := @tmz; refine gC (c) ?_; clear F)
  (have F := @tmz; refine gR ?_; clear F)
  (have F := @tmz; have NN : StopAt 3 := trivial; refine gGn ?_; clear F NN)
  refine gB ?_
  refine gX ?_
  (have F := @e0P; refine gR ?_; clear F)
  (have F := @tmz; refine gG ?_; clear F)
  refine pE [] [1001] re_zTm ?_
  exact (have F := @e0P; gTP (R := RTreeF (encTm zTm) false) [1001] ⟨[.int .i64 0, .string ByteArray.empty, .int .i64 0, .slice none 0 0], _, rfl, by rw [zTm_u]; rfl, rfl, rfl⟩)
 have c := conE_newAlg hok hg
 rw [encSgn] at c
 rw [encSgn]
 have hT0 : tkT g t o = if isTerm g t = true then tkIn g t o else (zTm, false) := by
  by_cases h : TermOk g t
  ·rw [tkT_yes hg h, if_pos (isTerm_true h)]
  ·rw [tkT_no fun hh => h hh.2, isTerm_false h]; rfl
 have hfb := (tkT_facts (g := g) (o := o) ht hb).2
 have hcp := con_copyTerm (tkT g t o).1 hfb
 refine gIP (ts := [.cell 6 41, .slot 7]) [] 133119 Tryz.func13 ?_
 (have F := @tmz; refine gG ?_; clear F)
 refine gB ?_
 (have F := @tmz; refine gCE (c) ?_; clear F)
 rintro r ⟨b, rfl⟩
 have c1 := con_taken (mc := .lit (.map (some b))) hg ht hb hop hol hor
 rw [<- hT0] at c1
 generalize C.lit (.map (some b)) = mc at c1 ⊢
 generalize tkT g t o = px at c1 hcp ⊢
 obtain ⟨u, ok⟩ := px
 simp only at c1 hcp ⊢
 (have F := ai @retA_u @sa_some; refine gR ?_; clear F)
 (have F := @tmz; refine gG ?_; clear F)
 refine gB ?_
 (have F := @tmz; refine gC (c1) ?_; clear F)
 (have F := @tmz; refine gR ?_; clear F)
 (have F := @tmz; refine gG ?_; clear F)
 refine gB ?_
 (have F := @tmz; refine gCP [] [1001] (hcp) ?_; clear F)
 rintro r pm ⟨us, E2, rfl, hu, hok, rfl⟩
 have hu' := hu
 rw [tm_len] at hu
 obtain ⟨u0, u1, u2, u3, rfl⟩ := len4 hu
 obtain ⟨k0, k1, k2, k3⟩ := okc4 hok
 simp only [litRow4, setA, retA, zipM, List.cons_append, List.nil_append]
 (have F := ai @tmz (ai @k0 (ai @k1 (ai @k2 @k3))); refine gR ?_; clear F)
 (have F := @tmz; refine gG ?_; clear F)
 exact (have F := @e0P; gTP (R := RTreeF (encTm u) ok) [1001] ⟨[u0, u1, u2, u3], E2, rfl, hu', hok, rfl⟩)
end Go.Proofs.YtohilkmdjdfljaaGreat
namespace Go.Proofs.YtohilkmdjdfljaaGreat
open Go.RowKit
set_option maxHeartbeats 8000000 in
set_option maxRecDepth 100000 in
theorem con_l11Without (ts : List Tm) (i : Nat) (hi : i < ts.length) (hl : ts.length <= 1048576) : Con e0 87 [.one (.sl (encTms ts)), .one (.lit (.int .i64 i))] [.one (.sl (encTms (ts.take i ++ ts.drop (i + 1))))] := by
 rw [encTms_app, <- encTms_take, <- encTms_drop]
 have hxl : ((i : Int) <= (ts.length : Int)) = True := eq_true (by omega)
 have hxl2 : (((i + 1 : Nat) : Int) <= (ts.length : Int)) = True := eq_true (by omega)
 have hw := wrap1 (k := i) (by omega)
 have r1 : rowsB 4 ((encTms ts).take i) = true := by rw [encTms_take]; exact rb_tm _
 have r2 : rowsB 4 ((encTms ts).drop (i + 1)) = true := by rw [encTms_drop]; exact rb_tm _
 have n1 : ((encTms ts).take i).length <= 1048576 := by rw [List.length_take, encTms_len]; omega
 have n2 : ((encTms ts).drop (i + 1)).length <= 1048576 := by rw [List.length_drop, encTms_len]; omega
 have n3 : ((encTms ts).take i).length + ((encTms ts).drop (i + 1)).length <= maxApp := by unfold maxApp; omega
 have tkA : (encTms ts).take ts.length = encTms ts := by rw [<- encTms_len ts, List.take_length]
 have hll : ((ts.length : Int) <= (ts.length : Int)) = True := eq_true (Int.le_refl _)
 refine gI (ts := [.slot 4]) 19 Tryz.func87 ?_
 (have F := @tmz; have NN : StopAt 1 := trivial; refine gGn ?_; clear F NN)
 have F := ai r1 (ai r2 (ai hxl (ai hxl2 (ai hw (ai n3 (ai tkA (ai hll (ai @natInt tmz))))))))
 refine gA 9 4 ?_ (.inl rfl) ?_
 ·show 0 + _ <= maxApp
  unfold maxApp; omega
 clear F
 (have F := ai @r1 (ai @r2 (ai @hxl (ai @hxl2 (ai @hw (ai @n3 (ai @tkA (ai @hll (ai @natInt @tmz)))))))); refine gR ?_; clear F)
 (have F := ai @r1 (ai @r2 (ai @n3 @tmz)); refine gG ?_; exact gTz [4])
theorem getD_someT {l : List Tm} : (some l).getD [] = l := rfl
set_option maxHeartbeats 16000000 in
set_option maxRecDepth 100000 in
theorem con_l11Take (l ss : List Tm) (hl : okTms l) (hs : okTms ss) (hll : l.length <= 1048576) (hsl : ss.length <= 1048576) : Con e0 41 [.one (.sl (encTms l)), .one (.sl (encTms ss))] [.one (.sl (encTms ((takeL l ss).getD []))), .one (.lit (.bool (takeL l ss).isSome))] := by
 refine gI (ts := [.slot 4, .slot 5]) 34896611571 Tryz.func41 ?_
 (have F := @tmz; refine gG ?_; clear F)
 (have F := @tmz; refine gL (ι := Nat × List Tm) [0, 4, 5, 6, 7, 11, 29, 35] [] (fun x => [(6, A.d (.one (.lit (.int .i64 x.1)))), (0, .d (.one (.sl (encTms x.2))))]) (fun x => []) (fun x => x.1 <= ss.length ∧ takeL l ss = takeL x.2 (ss.drop x.1) ∧ okTms x.2 ∧ x.2.length <= 1048576) (fun x => ss.length - x.1) ((0, l)) (⟨Nat.zero_le _, rfl, hl, hll⟩) (fun x hx => ?_); clear F)
 obtain ⟨i, cur⟩ := x
 obtain ⟨hi, hf, hco, hcl⟩ := hx
 simp only at hi hf hco hcl
 rw [hf]
 by_cases hlt : i < ss.length
 rotate_left
 ·obtain rfl : i = ss.length := by omega
  have q1 : ((ss.length : Int) < (ss.length : Int)) = False := eq_false (by omega)
  rw [List.drop_length]
  have e : takeL cur [] = some cur := by cases cur <;> rfl
  rw [e, getD_someT, show (some cur : Option (List Tm)).isSome = true from rfl]
  (have F := ai @q1 @tmz; refine gG ?_; exact gTd)
 obtain ⟨s, hss⟩ : ∃ s, ss[i]? = some s := ⟨_, List.getElem?_eq_getElem hlt⟩
 have q1 : ((i : Int) < (ss.length : Int)) = True := eq_true (by omega)
 have hwi := wrap1 (k := i) (by omega)
 have hso := hs.mem (List.mem_of_getElem? hss)
 have hstep : takeL cur (ss.drop i) = (rmT s cur).bind fun l' => takeL l' (ss.drop (i + 1)) := by rw [drop_getT hss]; rfl
 (have F := ai @q1 @tmz; refine gG ?_; clear F)
 (have F := @e0P; refine gL (ι := Nat) [7, 29] [] (fun k => [(7, A.d (.one (.lit (.int .i64 k))))]) (fun k => []) (fun k => k <= cur.length ∧ ∀ (j : Nat) a, j < k -> cur[j]? = some a -> cmpTm a s ≠ 0) (fun k => cur.length - k) (0) (⟨Nat.zero_le _, fun j a h => absurd h (by omega)⟩) (fun k hk => ?_); clear F)
 obtain ⟨hk, hbef⟩ := hk
 by_cases hkl : k < cur.length
 rotate_left
 ·obtain rfl : k = cur.length := by omega
  have q2 : ((cur.length : Int) < (cur.length : Int)) = False := eq_false (by omega)
  have q3 : ((cur.length : Int) = (cur.length : Int)) = True := eq_true rfl
  have hn : rmT s cur = none := rmT_none fun a ha => by
   obtain ⟨j, hj⟩ := List.getElem?_of_mem ha
   exact hbef j a (List.getElem?_eq_some_iff.1 hj).1 hj
  rw [hstep, hn, show ((none : Option (List Tm)).bind fun l' => takeL l' (ss.drop (i + 1))) = none from rfl, show (none : Option (List Tm)).getD [] = [] from rfl, show (none : Option (List Tm)).isSome = false from rfl, encTms_nil]
  (have F := ai @q2 (ai @q3 @tmz); refine gG ?_; exact gTz [4])
 obtain ⟨a, ha⟩ : ∃ a, cur[k]? = some a := ⟨_, List.getElem?_eq_getElem hkl⟩
 have q2 : ((k : Int) < (cur.length : Int)) = True := eq_true (by omega)
 have q4 : ((k : Int) = (cur.length : Int)) = False := eq_false (by omega)
 have hwk := wrap1 (k := k) (by omega)
 (have F := ai @q2 @tmz; refine gG ?_; clear F)
 refine gB ?_
 (have F := ai @q2 (ai @ha (ai @hss (ai @natInt @tmz))); refine gC (con_l5Same (hco.mem (List.mem_of_getElem? ha)) hso) ?_; clear F)
 by_cases hc : cmpTm a s = 0
 ·have z := decide_eq_true hc
  have hrm := rmT_at ha hc hbef
  have hlen := rmT_len hrm
  have hcw := con_l11Without cur k hkl hcl
  have hok2 : okTms (cur.take k ++ cur.drop (k + 1)) := okTms_all.2 fun x hx => by
   rcases List.mem_append.1 hx with h | h
   ·exact hco.mem (List.mem_of_mem_take h)
   ·exact hco.mem (List.mem_of_mem_drop h)
  rw [hstep, hrm, show ((some (cur.take k ++ cur.drop (k + 1)) : Option (List Tm)).bind fun l' => takeL l' (ss.drop (i + 1))) = takeL (cur.take k ++ cur.drop (k + 1)) (ss.drop (i + 1)) from rfl] at hf ⊢
  (have F := @z; refine gR ?_; clear F)
  (have F := ai @z (ai @q4 @tmz); refine gG ?_; clear F)
  refine gB ?_
  (have F := @tmz; refine gC (hcw) ?_; clear F)
  (have F := @tmz; refine gR ?_; clear F)
  (have F := @hwi; refine gG ?_; exact ⟨(i + 1, cur.take k ++ cur.drop (k + 1)), ⟨hlt, rfl, hok2, by simp only at hlen ⊢; omega⟩, gw, gw, by omega⟩)
 ·have z := decide_eq_false hc
  have hb2 : ∀ (j : Nat) b, j < k + 1 -> cur[j]? = some b -> cmpTm b s ≠ 0 := fun j b hj hjb => by
   by_cases e : j = k
   ·subst e
    rw [ha] at hjb
    injection hjb with hjb
    subst hjb
    exact hc
   ·exact hbef j b (by omega) hjb
  (have F := @z; refine gR ?_; clear F)
  (have F := ai @z @hwk; refine gG ?_; exact ⟨k + 1, ⟨hkl, hb2⟩, gw, gw, by omega⟩)
theorem cmpL_zero {a b : List Tm} : cmpTm (.mk 0 ByteArray.empty 0 a) (.mk 0 ByteArray.empty 0 b) = 0 ↔ a = b := by
 constructor
 ·intro h
  have := cmpTm_zero h
  injection this
 ·rintro rfl; exact cmpTm_self _
theorem mk_ok {l : List Tm} (h : okTms l) : okTm (.mk 0 ByteArray.empty 0 l) := by
 simp only [okTm]
 exact ⟨⟨by decide, by decide⟩, by simp [maxLen], ⟨by decide, by decide⟩, h⟩
set_option maxHeartbeats 8000000 in
set_option maxRecDepth 100000 in
theorem con_l12Lists (a b : List Tm) (ha : okTms a) (hb : okTms b) : Con e0 83 [.one (.sl (encTms a)), .one (.sl (encTms b))] [.one (.lit (.int .i64 (cmpTm (.mk 0 ByteArray.empty 0 a) (.mk 0 ByteArray.empty 0 b))))] := by
 have hc := con_specCmp (mk_ok ha) (mk_ok hb)
 simp only [mk_u] at hc
 refine gI 19 Tryz.func83 ?_
 (have F := @tmz; refine gG ?_; clear F)
 refine gB ?_
 (have F := @tmz; refine gC (hc) ?_; clear F)
 (have F := @tmz; refine gR ?_; clear F)
 (have F := @tmz; refine gG ?_; exact gT)
end Go.Proofs.YtohilkmdjdfljaaGreat
namespace Go.Proofs.YtohilkmdjdfljaaGreat
open Go.RowKit
section
variable {e : Env} {U : Nat -> Prop} {w0 : World} {S0 : Nat -> Prop} {nt : Nat} {σ : St} {a : Act} {w : World} {S : Nat -> Prop} {L : Lay}
end
section
variable {e : Env} {σ : St} {o : Oper} {K : St -> Prop}
theorem step_sub {t : TypeId} {x : Operand} {lo hi : Option Operand} (ho : o.op = .slice t x lo hi none) {k cap ety sz : Nat} {a : Option Addr} {rows : List (List C)} {l h : Int} (hx : nrm σ.m (evA σ.s x) = .buf k) (hm : gm σ.m k = some (.buf (some (a, cap)) ety sz rows)) (ht : elemT e.P t = some sz)
  (hlo : loA (lo.map (evA σ.s)) = some l) (hhi : hiA rows.length (hi.map (evA σ.s)) = some h) (hb : 0 <= l ∧ l <= h ∧ h <= rows.length) (hK : K ⟨setA σ.s o.dst (.d (.one (.lit (sliced a l.toNat h.toNat cap sz)))), σ.m⟩) : StepOk e o σ K := by
 intro he U w0 S0 nt ac w Q hd ⟨S, L, h1⟩
 refine Oper.wp_mono (fun a' w' hs => ⟨_, hK, hs⟩) (gives_then h1 hd (givesA_pure fun w S L ρv hC hr => ?_))
 have hx' := nrm_rel hC (hr x (by simp [ho, Op.operands]))
 rw [hx] at hx'
 have hx' : ρv x = L.v k := hx'
 obtain ⟨hpl, _, _, hbuf⟩ := hC.own k _ hm
 have hv : L.v k = .slice a rows.length cap := hpl (a, cap) rfl
 have hcap : rows.length <= cap := by
  rcases hbuf with ⟨h4, _⟩ | ⟨g, cap', cur, h4, _, _, _, _, h5, _⟩
  ·rw [h4]; exact Nat.zero_le _
  ·rw [hv] at h4; injection h4 with _ _ h4; rw [h4]; exact h5
 have hel : ∃ ety i, e.P.underlying t = some (.slice ety) ∧ e.P.info? ety = some i ∧ i.size = sz := by
  unfold elemT at ht
  split at ht
  ·rename_i ety hu
   simp only [Option.map_eq_some_iff] at ht
   obtain ⟨i, hi, hs⟩ := ht
   exact ⟨ety, i, hu, hi, hs⟩
  ·cases ht
 obtain ⟨el, i, hu, hi', hsz⟩ := hel
 have hlo := loA_spec (w := w) (S := S) (L := L) (ρv := ρv) hlo (fun y hy => hr y (by simp [ho, Op.operands, hy]))
 have hhi := hiA_spec (w := w) (S := S) (L := L) (ρv := ρv) hhi (fun y hy => hr y (by simp [ho, Op.operands, hy]))
 refine ⟨sliced a l.toNat h.toNat cap sz, ?_, by simp [ARel, DRel, Rep]⟩
 have hbnd : (Instr.sliceBounds true rows.length cap (lo.map ρv) (hi.map ρv) none).run e.P w = .ok (l.toNat, h.toNat, cap) w := by
  have eh : (h.toNat : Int) = h := Int.toNat_of_nonneg (by omega)
  have b1 : 0 <= h := by omega
  have b2 : h <= (cap : Int) := by omega
  have b3 : 0 <= l := hb.1
  have b4 : l <= h := hb.2.1
  rcases hlo with ⟨rfl, rfl⟩ | e1 <;> rcases hhi with ⟨rfl, e2⟩ | e2
  ·simp [Instr.sliceBounds, e2, Result.andThen]
  ·simp [Instr.sliceBounds, e2, Result.andThen, run_sliceBound, b1, b2]
  ·have b5 : l <= (rows.length : Int) := by omega
   simp [Instr.sliceBounds, e1, e2, Result.andThen, run_sliceBound, b3, b5]
  ·simp [Instr.sliceBounds, e1, e2, Result.andThen, run_sliceBound, b1, b2, b3, b4, eh]
 simp only [execOp, ho, Sem.run_bind, hx', hv, Instr.sliceAt, Instr.slice, underlying, run_program, Result.andThen_ok, hu, Sem.run_pure, Option.map_none, hbnd, sizeOf, typeInfo, hi', hsz, sliced]
end
theorem re_cut {a : Option Addr} {cap ety sz : Nat} {rows : List (List C)} (m : Nat) (hm : m <= rows.length) : Retold [.buf (some (a, cap)) ety sz rows] [.buf (some (a, cap)) ety sz (rows.take m)] := fun w S h ha => by
 have hl : (rows.take m).length = m := by rw [List.length_take]; omega
 obtain ⟨h0, hrl, hc⟩ : BufRel w S ety sz rows (.slice a rows.length cap) := h (.buf (some (a, cap)) ety sz rows) (by simp)
 have hb : ∀ b, vblk (.slice a m cap) = some b ↔ vblk (.slice a rows.length cap) = some b := fun b => by cases a <;> simp [vblk]
 refine ⟨fun x hx => ?_, apart_1 _, fun g ⟨x, hx, hg⟩ => ?_⟩
 ·simp only [List.mem_cons, List.not_mem_nil, or_false] at hx
  subst hx
  show BufRel w S ety sz (rows.take m) (.slice a (rows.take m).length cap)
  rw [hl]
  refine ⟨h0, fun r hr => hrl r (List.mem_of_mem_take hr), ?_⟩
  rcases hc with ⟨h4, p, h5⟩ | ⟨g, cap', cur, h4, h5, h6, h7, h8, h9, h10, h11, h12⟩
  ·subst h4
   simp only [List.length_nil, Nat.le_zero_eq] at hm
   subst hm
   exact .inl ⟨by simp, p, by simpa using h5⟩
  ·injection h4 with e1 e2 e3
   subst e1 e3
   refine .inr ⟨g, cap, cur, by rw [hl], h5, h6, h7, h8, by rw [hl]; omega, h10, h11, ?_⟩
   have := RepRows.sub hrl h12 0 m
   simpa using this
 ·simp only [List.mem_cons, List.not_mem_nil, or_false] at hx
  subst hx
  refine ⟨.buf (some (a, cap)) ety sz rows, by simp, ?_⟩
  simp only [pblk, hl] at hg ⊢
  exact (hb g).1 hg
theorem gSub {e : Env} {K : St -> Prop} {ds : List (Option Nat)} {os : List Oper} {d t ty cap ety sz : Nat} {p : String} {ed : Array Edge} {x : Operand} {lo hi : Option Operand} {s : List (Nat × A)} {m : List (Nat × Bk)} {a : Option Addr} {rows : List (List C)} (k l h : Nat) (hb : l <= h ∧ h <= rows.length) (hK : Runs e ds 0 os ⟨(d, .d (.one (.lit (sliced a l h cap sz)))) :: s, m⟩ K)
  (hx : nrm m (evA s x) = .buf k := by first | (simp only [pz, ↓reduceIte, Nat.reduceEqDiff, Nat.reduceAdd, Nat.reduceSub, Nat.reduceMul, Nat.reduceLeDiff, Nat.reduceBEq, Bool.false_eq_true, decide_true, decide_false, Int.reduceLE, Int.reduceToNat, Int.reduceLT, Int.reduceEq, eq_self, Nat.reduceShiftRight, Nat.reduceAnd, Nat.reduceBneDiff, F]; done) | (simp only [pz, ↓reduceIte, Nat.reduceEqDiff, Nat.reduceAdd, Nat.reduceSub, Nat.reduceMul, Nat.reduceLeDiff, Nat.reduceBEq, Bool.false_eq_true, decide_true, decide_false, Int.reduceLE, Int.reduceToNat, Int.reduceLT, Int.reduceEq, eq_self, Nat.reduceShiftRight, Nat.reduceAnd, Nat.reduceBneDiff, F]; exact rfl)) (hm : gm m k = some (.buf (some (a, cap)) ety sz rows) := by simp only [pz, ↓reduceIte, Nat.reduceEqDiff, Nat.reduceAdd, Nat.reduceSub, Nat.reduceMul, Nat.reduceLeDiff, Nat.reduceBEq, Bool.false_eq_true, decide_true, decide_false, Int.reduceLE, Int.reduceToNat, Int.reduceLT, Int.reduceEq, eq_self, Nat.reduceShiftRight, Nat.reduceAnd, Nat.reduceBneDiff]; exact rfl) (ht : elemT e.P t = some sz := by first | (simp only [pz, ↓reduceIte, Nat.reduceEqDiff, Nat.reduceAdd, Nat.reduceSub, Nat.reduceMul, Nat.reduceLeDiff, Nat.reduceBEq, Bool.false_eq_true, decide_true, decide_false, Int.reduceLE, Int.reduceToNat, Int.reduceLT, Int.reduceEq, eq_self, Nat.reduceShiftRight, Nat.reduceAnd, Nat.reduceBneDiff]; done) | (simp only [pz, ↓reduceIte, Nat.reduceEqDiff, Nat.reduceAdd, Nat.reduceSub, Nat.reduceMul, Nat.reduceLeDiff, Nat.reduceBEq, Bool.false_eq_true, decide_true, decide_false, Int.reduceLE, Int.reduceToNat, Int.reduceLT, Int.reduceEq, eq_self, Nat.reduceShiftRight, Nat.reduceAnd, Nat.reduceBneDiff]; exact rfl))
  (hlo : loA (lo.map (evA s)) = some (l : Int) := by first | (simp only [pz, ↓reduceIte, Nat.reduceEqDiff, Nat.reduceAdd, Nat.reduceSub, Nat.reduceMul, Nat.reduceLeDiff, Nat.reduceBEq, Bool.false_eq_true, decide_true, decide_false, Int.reduceLE, Int.reduceToNat, Int.reduceLT, Int.reduceEq, eq_self, Nat.reduceShiftRight, Nat.reduceAnd, Nat.reduceBneDiff, F]; done) | (simp only [pz, ↓reduceIte, Nat.reduceEqDiff, Nat.reduceAdd, Nat.reduceSub, Nat.reduceMul, Nat.reduceLeDiff, Nat.reduceBEq, Bool.false_eq_true, decide_true, decide_false, Int.reduceLE, Int.reduceToNat, Int.reduceLT, Int.reduceEq, eq_self, Nat.reduceShiftRight, Nat.reduceAnd, Nat.reduceBneDiff, F]; exact rfl)) (hhi : hiA rows.length (hi.map (evA s)) = some (h : Int) := by first | (simp only [pz, ↓reduceIte, Nat.reduceEqDiff, Nat.reduceAdd, Nat.reduceSub, Nat.reduceMul, Nat.reduceLeDiff, Nat.reduceBEq, Bool.false_eq_true, decide_true, decide_false, Int.reduceLE, Int.reduceToNat, Int.reduceLT, Int.reduceEq, eq_self, Nat.reduceShiftRight, Nat.reduceAnd, Nat.reduceBneDiff, F]; done) | (simp only [pz, ↓reduceIte, Nat.reduceEqDiff, Nat.reduceAdd, Nat.reduceSub, Nat.reduceMul, Nat.reduceLeDiff, Nat.reduceBEq, Bool.false_eq_true, decide_true, decide_false, Int.reduceLE, Int.reduceToNat, Int.reduceLT, Int.reduceEq, eq_self, Nat.reduceShiftRight, Nat.reduceAnd, Nat.reduceBneDiff, F]; exact rfl)) : Runs e ds 0 (⟨some d, .slice t x lo hi none, ty, p, ed, none⟩ :: os) ⟨s, m⟩ K := by
 simp only [Runs] at hK ⊢
 exact runsS_step rfl (step_sub (o := ⟨some d, .slice t x lo hi none, ty, p, ed, none⟩) rfl hx hm ht hlo hhi ⟨by omega, by omega, by omega⟩ (by simpa only [Int.toNat_natCast, setA] using hK))
theorem sliced_zero (a : Option Addr) (k cap sz : Nat) : sliced a 0 k cap sz = .slice a k cap := by
 cases a with
 | none => simp [sliced]
 | some p =>
  have : p.add 0 = p := by cases p; simp [Addr.add]
  simp [sliced, this]
end Go.Proofs.YtohilkmdjdfljaaGreat
namespace Go.Proofs.YtohilkmdjdfljaaGreat
open Go.RowKit
section
variable {e : Env} {ops : Array Oper} {K : St -> Prop}
def QN (e : Env) (U : Nat -> Prop) (w0 : World) (S0 : Nat -> Prop) (nt : Nat) (K : St -> Prop) : Exit -> Act -> World -> Prop := fun ex a w => ex = .normal ∧ ∃ σ', K σ' ∧ SimE e U w0 S0 nt σ' a w
def AnyOk (e : Env) (ops : Array Oper) (K : St -> Prop) (f : Nat) (listed : Array Bool) (σ : St) : Prop :=
 e.Ok -> ∀ (U : Nat -> Prop) (w0 : World) (S0 : Nat -> Prop) (nt : Nat) (a : Act) (w : World), (∀ o ∈ ops.toList, ∀ d, o.dst = some d -> d < nt) -> SimE e U w0 S0 nt σ a w -> wpAny e.P .any ops (QN e U w0 S0 nt K) f listed a w
theorem anyOk_runsT {ds : List (Option Nat)} {f : Nat} {listed : Array Bool} {σ : St} (hds : ops.toList.map (·.dst) = ds) (h : RunsT e ds ops K f listed σ) : AnyOk e ops K f listed σ := by
 subst hds
 exact fun he U w0 S0 nt a w hd hs => RunsT_wp he (fun a w σ' hK hs' => ⟨rfl, σ', hK, hs'⟩) hd f listed σ a w hs h
def apartB (ops : Array Oper) (listed : Array Bool) (i : Nat) : Bool := (List.range ops.size).all fun j => j == i || (listed.getD j true || match ops[i]?, ops[j]? with
 | some oi, some oj => oj.after.any (fun e => Region.binds .any e && e.on == i) || oi.apart ops oj
 | _, _ => true)
def noSel (ops : Array Oper) : Bool := ops.toList.all fun o => match o.op with
 | .select _ _ => false
 | _ => true
theorem anyOk_first {f i d : Nat} {listed : Array Bool} {σ : St} {o : Oper} {α : A} (hi : ops[i]? = some o) (hdst : o.dst = some d) (hg : o.guard = none) (hsel : noSel ops = true) (hap : apartB ops listed i = true) (hr : (Region.ready .any ops listed).contains i = true)
  (hp : e.Ok -> ∀ (U : Nat -> Prop) (w0 : World) (S0 : Nat -> Prop) (nt : Nat) (a : Act) (w : World) (S : Nat -> Prop) (L : Lay), Sim e U w0 S0 nt σ a w S L -> ∃ v, (∀ w', (execOp a.eval o).run e.P w' = .ok (.value v) w') ∧ ARel w S L α v)
  (hK : AnyOk e ops K f (listed.setIfInBounds i true) ⟨(d, α) :: σ.s, σ.m⟩) : AnyOk e ops K (f + 1) listed σ := by
 intro he U w0 S0 nt a w hd ⟨S, L, h⟩
 obtain ⟨v, hv, hrel⟩ := hp he U w0 S0 nt a w S L h
 have hmem : o ∈ ops.toList := List.mem_of_getElem? (by simpa using hi)
 refine wpAny_first (oi := o) (v := v) hi (fun j oj cs b hj hs => ?_) (fun c a w hq => ?_) f listed a w (fun j oj hj hne hl hno => ?_) ?_ ?_ ?_
 ·have := List.all_eq_true.1 hsel oj (List.mem_of_getElem? (by simpa using hj))
  rw [hs] at this
  cases this
 ·have := hq.1
  cases this
 ·have hjs := (Array.getElem?_eq_some_iff.1 hj).1
  have := List.all_eq_true.1 hap j (List.mem_range.2 hjs)
  simp only [hi, hj, Bool.or_eq_true, beq_iff_eq, List.any_eq_true, Array.any_eq_true', Bool.and_eq_true] at this
  rcases this with h1 | h1 | h1 | h1
  ·exact absurd h1 hne
  ·rw [hl] at h1; cases h1
  ·obtain ⟨ed, h2, h3, h4⟩ := h1
   exact absurd h4 (hno ed h2 h3)
  ·exact h1
 ·simpa using hr
 ·exact .inl ⟨by simp [Region.wanted, hg], hv⟩
 ·have h2 : SimE e U w0 S0 nt ⟨(d, α) :: σ.s, σ.m⟩ (a.put o.dst v) w := ⟨S, L, by
   have := h.put (α := α) hrel (hd o hmem)
   rwa [hdst, setA, <- hdst] at this⟩
  exact hK he U w0 S0 nt (a.put o.dst v) w hd h2
end
section
variable {e : Env} {K : St -> Prop} {mask : Nat} {Q : PX -> St -> Prop} {s : List (Nat × A)} {m : List (Nat × Bk)}
theorem pwp_anyOk {id : Nat} {ops : Array Oper} {σ : St} (hK : AnyOk e ops (TrimK mask Q) ops.size (Array.replicate ops.size false) σ) : pwp e mask (.region id ops true) σ Q := fun he U w0 S0 nt a w hok hs => by
 obtain ⟨S, L, h1⟩ := hs.drew he
 refine Code.wp_mono (fun ex a' w' hq => ?_) (wp_region_any he.mixed (hK he U w0 S0 nt a { w with drawn := w.drawn + 1 } (okDst hok) ⟨S, L, h1⟩))
 obtain ⟨rfl, σ', k1, k2⟩ := hq
 exact ⟨_, k1, k2.weak (fun t => gs_trimS mask t σ'.s) (fun _ _ h => h)⟩
theorem gF0 {id : Nat} {l : List Oper} (hK : AnyOk e l.toArray (TrimK mask Q) l.length (Array.replicate l.length false) ⟨s, m⟩) : pwp e mask (.region id l.toArray true) ⟨s, m⟩ Q := pwp_anyOk (ops := l.toArray) (by simpa using hK)
theorem gFT {ds : List (Option Nat)} {ops : Array Oper} {f : Nat} {listed : Array Bool} {σ : St} (h : RunsT e ds ops K f listed σ) (hds : ops.toList.map (·.dst) = ds := by exact rfl) : AnyOk e ops K f listed σ := anyOk_runsT hds h
theorem gFm {ops : Array Oper} {f d ty : Nat} {p : String} {ed : Array Edge} {x : Operand} {α : A} {listed : Array Bool} (i : Nat) (hK : AnyOk e ops K f (listed.setIfInBounds i true) ⟨(d, α) :: s, m⟩)
  (hi : ops[i]? = some ⟨some d, .move x, ty, p, ed, none⟩ := by simp only [List.getElem?_toArray, List.getElem?_cons_succ, List.getElem?_cons_zero]; exact rfl) (hx : evA s x = α := by simp only [pz, ↓reduceIte, Nat.reduceEqDiff, Nat.reduceAdd, Nat.reduceSub, Nat.reduceMul, Nat.reduceLeDiff, Nat.reduceBEq, Bool.false_eq_true, decide_true, decide_false, Int.reduceLE, Int.reduceToNat, Int.reduceLT, Int.reduceEq, eq_self, Nat.reduceShiftRight, Nat.reduceAnd, Nat.reduceBneDiff]; exact rfl) (hsel : noSel ops = true := by decide +kernel) (hap : apartB ops listed i = true := by decide +kernel) (hr : (Region.ready .any ops listed).contains i = true := by decide +kernel) : AnyOk e ops K (f + 1) listed ⟨s, m⟩ := by
 subst hx
 exact anyOk_first (o := ⟨some d, .move x, ty, p, ed, none⟩) hi rfl rfl hsel hap hr (fun _ U w0 S0 nt a w S L h => ⟨a.eval x, fun w2 => by simp [execOp], h.eval x⟩) hK
theorem gFs {ops : Array Oper} {f d t ty cap ety sz : Nat} {p : String} {ed : Array Edge} {x : Operand} {lo hi : Option Operand} {a : Option Addr} {rows : List (List C)} {listed : Array Bool} (i k l h : Nat) (hb : l <= h ∧ h <= rows.length) (hK : AnyOk e ops K f (listed.setIfInBounds i true) ⟨(d, .d (.one (.lit (sliced a l h cap sz)))) :: s, m⟩)
  (hi' : ops[i]? = some ⟨some d, .slice t x lo hi none, ty, p, ed, none⟩ := by simp only [List.getElem?_toArray, List.getElem?_cons_succ, List.getElem?_cons_zero]; exact rfl)
  (hx : nrm m (evA s x) = .buf k := by first | (simp only [pz, ↓reduceIte, Nat.reduceEqDiff, Nat.reduceAdd, Nat.reduceSub, Nat.reduceMul, Nat.reduceLeDiff, Nat.reduceBEq, Bool.false_eq_true, decide_true, decide_false, Int.reduceLE, Int.reduceToNat, Int.reduceLT, Int.reduceEq, eq_self, Nat.reduceShiftRight, Nat.reduceAnd, Nat.reduceBneDiff, F]; done) | (simp only [pz, ↓reduceIte, Nat.reduceEqDiff, Nat.reduceAdd, Nat.reduceSub, Nat.reduceMul, Nat.reduceLeDiff, Nat.reduceBEq, Bool.false_eq_true, decide_true, decide_false, Int.reduceLE, Int.reduceToNat, Int.reduceLT, Int.reduceEq, eq_self, Nat.reduceShiftRight, Nat.reduceAnd, Nat.reduceBneDiff, F]; exact rfl)) (hm : gm m k = some (.buf (some (a, cap)) ety sz rows) := by simp only [pz, ↓reduceIte, Nat.reduceEqDiff, Nat.reduceAdd, Nat.reduceSub, Nat.reduceMul, Nat.reduceLeDiff, Nat.reduceBEq, Bool.false_eq_true, decide_true, decide_false, Int.reduceLE, Int.reduceToNat, Int.reduceLT, Int.reduceEq, eq_self, Nat.reduceShiftRight, Nat.reduceAnd, Nat.reduceBneDiff]; exact rfl) (ht : elemT e.P t = some sz := by first | (simp only [pz, ↓reduceIte, Nat.reduceEqDiff, Nat.reduceAdd, Nat.reduceSub, Nat.reduceMul, Nat.reduceLeDiff, Nat.reduceBEq, Bool.false_eq_true, decide_true, decide_false, Int.reduceLE, Int.reduceToNat, Int.reduceLT, Int.reduceEq, eq_self, Nat.reduceShiftRight, Nat.reduceAnd, Nat.reduceBneDiff]; done) | (simp only [pz, ↓reduceIte, Nat.reduceEqDiff, Nat.reduceAdd, Nat.reduceSub, Nat.reduceMul, Nat.reduceLeDiff, Nat.reduceBEq, Bool.false_eq_true, decide_true, decide_false, Int.reduceLE, Int.reduceToNat, Int.reduceLT, Int.reduceEq, eq_self, Nat.reduceShiftRight, Nat.reduceAnd, Nat.reduceBneDiff]; exact rfl))
  (hlo : loA (lo.map (evA s)) = some (l : Int) := by first | (simp only [pz, ↓reduceIte, Nat.reduceEqDiff, Nat.reduceAdd, Nat.reduceSub, Nat.reduceMul, Nat.reduceLeDiff, Nat.reduceBEq, Bool.false_eq_true, decide_true, decide_false, Int.reduceLE, Int.reduceToNat, Int.reduceLT, Int.reduceEq, eq_self, Nat.reduceShiftRight, Nat.reduceAnd, Nat.reduceBneDiff, F]; done) | (simp only [pz, ↓reduceIte, Nat.reduceEqDiff, Nat.reduceAdd, Nat.reduceSub, Nat.reduceMul, Nat.reduceLeDiff, Nat.reduceBEq, Bool.false_eq_true, decide_true, decide_false, Int.reduceLE, Int.reduceToNat, Int.reduceLT, Int.reduceEq, eq_self, Nat.reduceShiftRight, Nat.reduceAnd, Nat.reduceBneDiff, F]; exact rfl)) (hhi : hiA rows.length (hi.map (evA s)) = some (h : Int) := by first | (simp only [pz, ↓reduceIte, Nat.reduceEqDiff, Nat.reduceAdd, Nat.reduceSub, Nat.reduceMul, Nat.reduceLeDiff, Nat.reduceBEq, Bool.false_eq_true, decide_true, decide_false, Int.reduceLE, Int.reduceToNat, Int.reduceLT, Int.reduceEq, eq_self, Nat.reduceShiftRight, Nat.reduceAnd, Nat.reduceBneDiff, F]; done) | (simp only [pz, ↓reduceIte, Nat.reduceEqDiff, Nat.reduceAdd, Nat.reduceSub, Nat.reduceMul, Nat.reduceLeDiff, Nat.reduceBEq, Bool.false_eq_true, decide_true, decide_false, Int.reduceLE, Int.reduceToNat, Int.reduceLT, Int.reduceEq, eq_self, Nat.reduceShiftRight, Nat.reduceAnd, Nat.reduceBneDiff, F]; exact rfl))
  (hsel : noSel ops = true := by decide +kernel) (hap : apartB ops listed i = true := by decide +kernel) (hr : (Region.ready .any ops listed).contains i = true := by decide +kernel) : AnyOk e ops K (f + 1) listed ⟨s, m⟩ := by
 refine anyOk_first (o := ⟨some d, .slice t x lo hi none, ty, p, ed, none⟩) hi' rfl rfl hsel hap hr (fun _ U w0 S0 nt ac w S L hS => ⟨sliced a l h cap sz, fun w' => ?_, by simp [ARel, DRel, Rep]⟩) hK
 have hx' := nrm_rel hS.cls (hS.eval x)
 simp only at hx'
 rw [hx] at hx'
 have hx' : ac.eval x = L.v k := hx'
 obtain ⟨hpl, _, _, hbuf⟩ := hS.cls.own k _ hm
 have hv : L.v k = .slice a rows.length cap := hpl (a, cap) rfl
 have hcap : rows.length <= cap := by
  rcases hbuf with ⟨h4, _⟩ | ⟨g, cap', cur, h4, _, _, _, _, h5, _⟩
  ·rw [h4]; exact Nat.zero_le _
  ·rw [hv] at h4; injection h4 with _ _ h4; rw [h4]; exact h5
 have hel : ∃ ety i, e.P.underlying t = some (.slice ety) ∧ e.P.info? ety = some i ∧ i.size = sz := by
  unfold elemT at ht
  split at ht
  ·rename_i ety hu
   simp only [Option.map_eq_some_iff] at ht
   obtain ⟨i, hi, hs⟩ := ht
   exact ⟨ety, i, hu, hi, hs⟩
  ·cases ht
 obtain ⟨el, inf, hu, hinf, hsz⟩ := hel
 have hlo := loA_spec (w := w) (S := S) (L := L) (ρv := ac.eval) hlo (fun y hy => hS.eval y)
 have hhi := hiA_spec (w := w) (S := S) (L := L) (ρv := ac.eval) hhi (fun y hy => hS.eval y)
 have hbnd : (Instr.sliceBounds true rows.length cap (lo.map ac.eval) (hi.map ac.eval) none).run e.P w' = .ok (l, h, cap) w' := by
  have b2 : (h : Int) <= (cap : Int) := by omega
  have b5 : (l : Int) <= (rows.length : Int) := by omega
  rcases hlo with ⟨rfl, e1⟩ | e1 <;> rcases hhi with ⟨rfl, e2⟩ | e2
  ·have e1 : l = 0 := by omega
   have e2 : h = rows.length := by omega
   subst e1 e2
   simp [Instr.sliceBounds, Result.andThen]
  ·have e1 : l = 0 := by omega
   subst e1
   simp [Instr.sliceBounds, e2, Result.andThen, run_sliceBound, b2]
  ·have e2 : h = rows.length := by omega
   subst e2
   simp [Instr.sliceBounds, e1, Result.andThen, run_sliceBound, b5]
  ·have b4 : (l : Int) <= (h : Int) := by omega
   simp [Instr.sliceBounds, e1, e2, Result.andThen, run_sliceBound, b2, b4, hb.1]
 simp only [execOp, Sem.run_bind, hx', hv, Instr.sliceAt, Instr.slice, underlying, run_program, Result.andThen_ok, hu, Sem.run_pure, Option.map_none, hbnd, sizeOf, typeInfo, hinf, hsz, sliced]
end
end Go.Proofs.YtohilkmdjdfljaaGreat
namespace Go.Proofs.YtohilkmdjdfljaaGreat
open Go.RowKit
section
variable {w : World} {S : Nat -> Prop}
theorem sub_first {rows : List (List C)} {ety sz cap l h : Nat} {a : Option Addr} (hb : BufRel w S ety sz rows (.slice a rows.length cap)) (hl : l <= h ∧ h <= rows.length) : ∃ (b : Option Addr) (c : Nat) (news : List Value), sliced a l h cap sz = .slice b ((rows.take h).drop l).length c ∧ RepVals w S ((rows.take h).drop l).flatten news ∧ ∀ (P : Program) (w' : World), (∀ p, w'.cell? p = w.cell? p) -> (Builtin.firstCells sz ((rows.take h).drop l).length (sliced a l h cap sz)).run P w' = .ok news.toArray w' := by
 have hln : ((rows.take h).drop l).length = h - l := by rw [List.length_drop, List.length_take]; omega
 obtain ⟨h1, hrl, h3⟩ := hb
 by_cases he : h = l
 ·have e0 : ((rows.take h).drop l).length = 0 := by omega
  have e1 : (rows.take h).drop l = [] := List.eq_nil_of_length_eq_zero e0
  refine ⟨_, _, [], by rw [hln]; exact rfl, by rw [e1]; simp [RepVals], fun P w' _ => ?_⟩
  rw [e0]
  simp only [sliced, he, Nat.sub_self]
  split
  ·cases a <;> simp [Builtin.firstCells, loadCells, loadCellsFrom]
  ·cases a <;> simp [Builtin.firstCells, loadCells, loadCellsFrom]
 ·rcases h3 with ⟨h4, p, h5⟩ | ⟨g, cap', cur, h4, h5, h6, h7, h8, h9, h10, h11, h12⟩
  ·rw [h4] at hl; simp only [List.length_nil] at hl; omega
  ·injection h4 with e1 e2 e3
   subst e1 e3
   have hlc : ¬ cap = l := by omega
   have hval : sliced (some ⟨g, 0, none⟩) l h cap sz = .slice (some ⟨g, l * sz, none⟩) (h - l) (cap - l) := by
    simp only [sliced, hlc, if_false, Option.map_some, Addr.add_at, Nat.zero_add]
   have hr := RepRows.sub hrl h12 l h
   rw [Nat.zero_add] at hr
   obtain ⟨news, q5, q6⟩ := hr.flat.vals
   have hsl : rowsLen sz ((rows.take h).drop l) := fun r hr => hrl r (List.mem_of_mem_take (List.mem_of_mem_drop hr))
   rw [hval]
   refine ⟨_, _, news, by rw [hln], q5, fun P w' hw => ?_⟩
   exact run_firstCells_some w' sz _ _ _ _ news (by rw [q5.len, flat_len hsl]) (fun j u hj => by rw [hw, Addr.add_at]; exact q6 j u hj)
end
section
variable {e : Env} {K : St -> Prop} {ds : List (Option Nat)} {os : List Oper} {s : List (Nat × A)} {m : List (Nat × Bk)}
theorem step_appSub {σ : St} {o : Oper} {x y : Operand} {t ety ety' sz by' k j d l h cap : Nat} {a0 : Option Addr} {rows rj : List (List C)} {oa : Option (Option Addr × Nat)} (ho : o.op = .call ⟨.builtin .append, #[x, y], #[t, t]⟩) (hdd : o.dst = some d) (hb : bytesT e.P t = some (ety, sz, by'))
  (hx : evA σ.s x = .buf k) (hm : gm σ.m k = some (.buf oa ety sz rows)) (hy : evA σ.s y = .d (.one (.lit (sliced a0 l h cap sz)))) (hj : gm σ.m j = some (.buf (some (a0, cap)) ety' sz rj)) (hlh : l <= h ∧ h <= rj.length) (hle : rows.length + rj.length <= maxApp)
  (hK : K ⟨(d, .buf d) :: killK d (killK k σ.s), (d, .buf none ety sz (rows ++ (rj.take h).drop l)) :: remM d (remM k σ.m)⟩) : StepOk e o σ K := by
 intro he U w0 S0 nt a w Q hd ⟨S, L, h0⟩
 have hx' : a.eval x = L.v k := by have := h0.eval x; rw [hx] at this; exact this
 have hy' := h0.eval y
 rw [hy] at hy'
 have hy' := lit_val hy'
 have ho' : BufRel w S ety sz rows (L.v k) := (h0.cls.own k _ hm).2
 obtain ⟨hpl, hbj⟩ := h0.cls.own j _ hj
 have hvj : L.v j = .slice a0 rj.length cap := hpl (a0, cap) rfl
 rw [hvj] at hbj
 obtain ⟨yb, yc, news, y1, y2, y3⟩ := sub_first hbj hlh
 have hln : ((rj.take h).drop l).length = h - l := by rw [List.length_drop, List.length_take]; omega
 have hsl : rowsLen sz ((rj.take h).drop l) := fun r hr => hbj.2.1 r (List.mem_of_mem_take (List.mem_of_mem_drop hr))
 obtain ⟨v', w', hrun, hbuf, τ, hk, hτ, hblk⟩ := append_own (ty := o.type) (ts := #[t, t]) (v := L.v k) (u := sliced a0 l h cap sz) he h0.cls rfl rfl hb (.inl ho') ho'.2.1 hsl (by omega) ⟨yb, yc, news, y1, y2, y3⟩
 unfold Oper.wp
 have hr2 : (execOp a.eval o).run e.P w = .ok (.value v') w' := by
  simp [execOp, ho, resolve, invoke, builtin, hx', hy', hrun, Result.andThen]
 rw [hr2, Oper.upon_value, hdd]
 refine ⟨_, hK, h0.born he (hd d hdd) (τ := τ) (b' := 0) (v' := v') (s1 := killK k σ.s) (m1 := remM k σ.m) (fun _ h => h) (fun _ h => .inl h) (fun t => ?_) (fun k' x hx => ?_) (fun g hg => ?_) (fun k' x g hkd hx hg hb' => ?_) hk ?_ (fun g hg => ?_) (by simp [ARel])⟩
 ·rcases gs_killK k t σ.s with ⟨h1, _⟩ | h1
  ·exact .inl h1
  ·exact .inr h1
 ·rw [gm_remM] at hx
  split at hx
  ·cases hx
  ·exact hx
 ·have hg' := (hτ g hg).1
  exact ⟨(Own1.lt (k := k) (L := L) (bk := .buf none ety sz rows) ⟨by simp, ho'⟩ hg').2, h0.cls.notE hm hg', h0.cls.mine k _ g hm hg'⟩
 ·have hg' := (hτ g hg).1
  rw [gm_remM] at hx
  split at hx
  ·cases hx
  ·rename_i hne'
   exact hne' (h0.cls.inj k' k x _ g hx hm hb' hg')
 ·simp only [Own1, if_true]; exact ⟨by simp, hbuf⟩
 ·simp only [blkOf, if_true] at hg
  exact hblk g hg
theorem gAps {d t ty ety ety' by' sz l h cap : Nat} {p : String} {ed : Array Edge} {x y : Operand} {rows rj : List (List C)} {oa : Option (Option Addr × Nat)} {a0 : Option Addr} {s2 : List (Nat × A)} {m2 : List (Nat × Bk)} (k j : Nat) (hlh : l <= h ∧ h <= rj.length) (hle : rows.length + rj.length <= maxApp) (hK : Runs e ds 0 os ⟨(d, .buf d) :: s2, (d, .buf none ety sz (rows ++ (rj.take h).drop l)) :: m2⟩ K)
  (hb : bytesT e.P t = some (ety, sz, by') := by first | (simp only [pz, ↓reduceIte, Nat.reduceEqDiff, Nat.reduceAdd, Nat.reduceSub, Nat.reduceMul, Nat.reduceLeDiff, Nat.reduceBEq, Bool.false_eq_true, decide_true, decide_false, Int.reduceLE, Int.reduceToNat, Int.reduceLT, Int.reduceEq, eq_self, Nat.reduceShiftRight, Nat.reduceAnd, Nat.reduceBneDiff, F]; done) | (simp only [pz, ↓reduceIte, Nat.reduceEqDiff, Nat.reduceAdd, Nat.reduceSub, Nat.reduceMul, Nat.reduceLeDiff, Nat.reduceBEq, Bool.false_eq_true, decide_true, decide_false, Int.reduceLE, Int.reduceToNat, Int.reduceLT, Int.reduceEq, eq_self, Nat.reduceShiftRight, Nat.reduceAnd, Nat.reduceBneDiff, F]; exact rfl)) (hx : evA s x = .buf k := by first | (simp only [pz, ↓reduceIte, Nat.reduceEqDiff, Nat.reduceAdd, Nat.reduceSub, Nat.reduceMul, Nat.reduceLeDiff, Nat.reduceBEq, Bool.false_eq_true, decide_true, decide_false, Int.reduceLE, Int.reduceToNat, Int.reduceLT, Int.reduceEq, eq_self, Nat.reduceShiftRight, Nat.reduceAnd, Nat.reduceBneDiff, F]; done) | (simp only [pz, ↓reduceIte, Nat.reduceEqDiff, Nat.reduceAdd, Nat.reduceSub, Nat.reduceMul, Nat.reduceLeDiff, Nat.reduceBEq, Bool.false_eq_true, decide_true, decide_false, Int.reduceLE, Int.reduceToNat, Int.reduceLT, Int.reduceEq, eq_self, Nat.reduceShiftRight, Nat.reduceAnd, Nat.reduceBneDiff, F]; exact rfl)) (hm : gm m k = some (.buf oa ety sz rows) := by first | (simp only [pz, ↓reduceIte, Nat.reduceEqDiff, Nat.reduceAdd, Nat.reduceSub, Nat.reduceMul, Nat.reduceLeDiff, Nat.reduceBEq, Bool.false_eq_true, decide_true, decide_false, Int.reduceLE, Int.reduceToNat, Int.reduceLT, Int.reduceEq, eq_self, Nat.reduceShiftRight, Nat.reduceAnd, Nat.reduceBneDiff]; done) | (simp only [pz, ↓reduceIte, Nat.reduceEqDiff, Nat.reduceAdd, Nat.reduceSub, Nat.reduceMul, Nat.reduceLeDiff, Nat.reduceBEq, Bool.false_eq_true, decide_true, decide_false, Int.reduceLE, Int.reduceToNat, Int.reduceLT, Int.reduceEq, eq_self, Nat.reduceShiftRight, Nat.reduceAnd, Nat.reduceBneDiff]; exact rfl)) (hy : evA s y = .d (.one (.lit (sliced a0 l h cap sz))) := by first | (simp only [pz, ↓reduceIte, Nat.reduceEqDiff, Nat.reduceAdd, Nat.reduceSub, Nat.reduceMul, Nat.reduceLeDiff, Nat.reduceBEq, Bool.false_eq_true, decide_true, decide_false, Int.reduceLE, Int.reduceToNat, Int.reduceLT, Int.reduceEq, eq_self, Nat.reduceShiftRight, Nat.reduceAnd, Nat.reduceBneDiff]; done) | (simp only [pz, ↓reduceIte, Nat.reduceEqDiff, Nat.reduceAdd, Nat.reduceSub, Nat.reduceMul, Nat.reduceLeDiff, Nat.reduceBEq, Bool.false_eq_true, decide_true, decide_false, Int.reduceLE, Int.reduceToNat, Int.reduceLT, Int.reduceEq, eq_self, Nat.reduceShiftRight, Nat.reduceAnd, Nat.reduceBneDiff]; exact rfl)) (hj : gm m j = some (.buf (some (a0, cap)) ety' sz rj) := by first | (simp only [pz, ↓reduceIte, Nat.reduceEqDiff, Nat.reduceAdd, Nat.reduceSub, Nat.reduceMul, Nat.reduceLeDiff, Nat.reduceBEq, Bool.false_eq_true, decide_true, decide_false, Int.reduceLE, Int.reduceToNat, Int.reduceLT, Int.reduceEq, eq_self, Nat.reduceShiftRight, Nat.reduceAnd, Nat.reduceBneDiff]; done) | (simp only [pz, ↓reduceIte, Nat.reduceEqDiff, Nat.reduceAdd, Nat.reduceSub, Nat.reduceMul, Nat.reduceLeDiff, Nat.reduceBEq, Bool.false_eq_true, decide_true, decide_false, Int.reduceLE, Int.reduceToNat, Int.reduceLT, Int.reduceEq, eq_self, Nat.reduceShiftRight, Nat.reduceAnd, Nat.reduceBneDiff]; exact rfl))
  (hs : killK d (killK k s) = s2 := by simp only [pz, ↓reduceIte, Nat.reduceEqDiff, Nat.reduceAdd, Nat.reduceSub, Nat.reduceMul, Nat.reduceLeDiff, Nat.reduceBEq, Bool.false_eq_true, decide_true, decide_false, Int.reduceLE, Int.reduceToNat, Int.reduceLT, Int.reduceEq, eq_self, Nat.reduceShiftRight, Nat.reduceAnd, Nat.reduceBneDiff]; exact rfl) (hr : remM d (remM k m) = m2 := by simp only [pz, ↓reduceIte, Nat.reduceEqDiff, Nat.reduceAdd, Nat.reduceSub, Nat.reduceMul, Nat.reduceLeDiff, Nat.reduceBEq, Bool.false_eq_true, decide_true, decide_false, Int.reduceLE, Int.reduceToNat, Int.reduceLT, Int.reduceEq, eq_self, Nat.reduceShiftRight, Nat.reduceAnd, Nat.reduceBneDiff]; exact rfl) : Runs e ds 0 (⟨some d, .call ⟨.builtin .append, #[x, y], #[t, t]⟩, ty, p, ed, none⟩ :: os) ⟨s, m⟩ K := by
 subst hs hr
 simp only [Runs] at hK ⊢
 exact runsS_step rfl (step_appSub rfl rfl hb hx hm hy hj hlh hle hK)
end
end Go.Proofs.YtohilkmdjdfljaaGreat
namespace Go.Proofs.YtohilkmdjdfljaaGreat
open Go.RowKit
theorem take_snocT {ts : List Tm} {i : Nat} {t : Tm} (h : ts[i]? = some t) : encTms (ts.take i) ++ [encTm t] = encTms (ts.take (i + 1)) := (encTms_snoc ts h).symm
set_option maxHeartbeats 8000000 in
set_option maxRecDepth 100000 in
theorem con_l5Copies (ts : List Tm) (hB : tmsB ts) : Con e0 131 [.one (.sl (encTms ts))] [.one (.sl (encTms ts))] := by
 unfold tmsB at hB
 refine gI (ts := [.slot 2]) 541 Tryz.func131 ?_
 (have F := @tmz; refine gG ?_; clear F)
 (have F := @encTms_nil; refine gL (ι := Nat) [3, 4, 9] [3] (fun i => [(4, A.d (.one (.lit (.int .i64 i)))), (3, .buf 3)]) (fun i => [(3, .buf none 41 4 (encTms (ts.take i)))]) (fun i => i <= ts.length) (fun i => ts.length - i) (0) (Nat.zero_le _) (fun i hi => ?_); clear F)
 by_cases hlt : i < ts.length
 rotate_left
 ·obtain rfl : i = ts.length := by omega
  have q2 : ((ts.length : Int) < (ts.length : Int)) = False := eq_false (by omega)
  rw [List.take_length]
  (have F := ai @q2 @tmz; refine gG ?_; clear F)
  (have F := @tmz; refine gG ?_; exact gTz [2])
 obtain ⟨t, ht⟩ : ∃ b, ts[i]? = some b := ⟨_, List.getElem?_eq_getElem hlt⟩
 have q2 : ((i : Int) < (ts.length : Int)) = True := eq_true (by omega)
 have q4 := wrap1 (k := i) (by omega)
 have hi' : (encTms ts)[i]? = some (encTm t) := by rw [encTms_get, ht]; rfl
 have hbt := bulk_get hi'
 have cc := con_l5Copy t (by omega)
 have l1 : rowsB 4 (encTms (ts.take i)) = true := rb_tm _
 have l2 : ((encTms (ts.take i)).length + 1 <= maxApp) = True := eq_true (by rw [encTms_len, List.length_take]; unfold maxApp; omega)
 have l3 : ((ts.take i).length + 1 <= maxApp) = True := eq_true (by rw [List.length_take]; unfold maxApp; omega)
 have l4 : min i ts.length + 1 <= maxApp := by unfold maxApp; omega
 have e := take_snocT ht
 (have F := ai @q2 @tmz; refine gG ?_; clear F)
 refine gB ?_
 (have F := ai @q2 (ai @ht @tmz); refine gC (cc) ?_; clear F)
 (have F := ai @l1 (ai @l2 (ai @l3 @tmz)); refine gR ?_; clear F)
 (have F := ai @q4 @e; refine gG ?_; exact ⟨i + 1, hlt, gw, gw, by omega⟩)
end Go.Proofs.YtohilkmdjdfljaaGreat
namespace Go.Proofs.YtohilkmdjdfljaaGreat
open Go.RowKit
theorem sortTm_of {l m : List Tm} (hp : m.Perm l) (hu : Up m) : m = sortTm l := up_perm hu (sortTm_up l) (hp.trans (sortTm_perm l).symm)
theorem sortTm_self {l : List Tm} (hu : Up l) : sortTm l = l := (sortTm_of (List.Perm.refl _) hu).symm
theorem sortTm_len (l : List Tm) : (sortTm l).length = l.length := (sortTm_perm l).length_eq
theorem Up.get {l : List Tm} (h : Up l) {i j : Nat} {x y : Tm} (hij : i <= j) (hx : l[i]? = some x) (hy : l[j]? = some y) : cmpTm x y <= 0 := by
 rcases Nat.lt_or_ge i j with hl | hl
 ·obtain ⟨h1, rfl⟩ := List.getElem?_eq_some_iff.1 hx
  obtain ⟨h2, rfl⟩ := List.getElem?_eq_some_iff.1 hy
  exact List.pairwise_iff_getElem.1 h i j h1 h2 hl
 ·obtain rfl : i = j := by omega
  rw [hx] at hy
  injection hy with hy
  subst hy
  rw [cmpTm_self]; omega
theorem mem_take_get {l : List Tm} {k : Nat} {x : Tm} (h : x ∈ l.take k) : ∃ i, i < k ∧ l[i]? = some x := by
 obtain ⟨i, hi⟩ := List.getElem?_of_mem h
 rw [List.getElem?_take] at hi
 split at hi
 ·exact ⟨i, by assumption, hi⟩
 ·cases hi
theorem mem_drop_get {l : List Tm} {k : Nat} {x : Tm} (h : x ∈ l.drop k) : ∃ i, k <= i ∧ l[i]? = some x := by
 obtain ⟨i, hi⟩ := List.getElem?_of_mem h
 rw [List.getElem?_drop] at hi
 exact ⟨k + i, by omega, hi⟩
theorem Up.append {l m : List Tm} (hl : Up l) (hm : Up m) (h : ∀ x ∈ l, ∀ y ∈ m, cmpTm x y <= 0) : Up (l ++ m) := List.pairwise_append.2 ⟨hl, hm, h⟩
theorem Up.left {l m : List Tm} (h : Up (l ++ m)) : Up l := (List.pairwise_append.1 h).1
theorem Up.right {l m : List Tm} (h : Up (l ++ m)) : Up m := (List.pairwise_append.1 h).2.1
theorem Up.take {l : List Tm} (h : Up l) (k : Nat) : Up (l.take k) := List.Pairwise.sublist (List.take_sublist k l) h
theorem Up.drop {l : List Tm} (h : Up l) (k : Nat) : Up (l.drop k) := List.Pairwise.sublist (List.drop_sublist k l) h
theorem Up.put {B : List Tm} {x : Tm} (hB : Up B) {s : Nat} (h1 : 0 < s -> ∃ y, B[s - 1]? = some y ∧ cmpTm y x <= 0) (h2 : s < B.length -> ∃ y, B[s]? = some y ∧ cmpTm x y <= 0) : Up (B.take s ++ x :: B.drop s) := by
 have k2 : ∀ z ∈ B.drop s, cmpTm x z <= 0 := fun z hz => by
  obtain ⟨i, hi, hz⟩ := mem_drop_get hz
  have hl := (List.getElem?_eq_some_iff.1 hz).1
  obtain ⟨y, hy, hc⟩ := h2 (by omega)
  exact cmpTm_le_trans hc (hB.get hi hy hz)
 have k1 : ∀ z ∈ B.take s, cmpTm z x <= 0 := fun z hz => by
  obtain ⟨i, hi, hz⟩ := mem_take_get hz
  obtain ⟨y, hy, hc⟩ := h1 (by omega)
  exact cmpTm_le_trans (hB.get (by omega) hz hy) hc
 refine (hB.take s).append (List.pairwise_cons.2 ⟨k2, hB.drop s⟩) fun z hz u hu => ?_
 rcases List.mem_cons.1 hu with rfl | hu
 ·exact k1 z hz
 ·obtain ⟨i, hi, hz⟩ := mem_take_get hz
  obtain ⟨j, hj, hu⟩ := mem_drop_get hu
  exact hB.get (by omega) hz hu
inductive Blks (k : Nat) : List Tm -> Prop where
 | last {l : List Tm} (hl : l.length <= k) (hu : Up l) : Blks k l
 | cons {X r : List Tm} (hl : X.length = k) (hu : Up X) (hr : Blks k r) : Blks k (X ++ r)
inductive Full (k : Nat) : List Tm -> Prop where
 | nil : Full k []
 | cons {X r : List Tm} (hl : X.length = k) (hu : Up X) (hr : Full k r) : Full k (X ++ r)
theorem Full.snoc {k : Nat} {X Z : List Tm} (h : Full k X) (hl : Z.length = k) (hu : Up Z) : Full k (X ++ Z) := by
 induction h with
 | nil => have := Full.cons hl hu Full.nil; rwa [List.append_nil] at this
 | cons h1 h2 _ ih => rw [List.append_assoc]; exact .cons h1 h2 ih
theorem Blks.up {k : Nat} {l : List Tm} (h : Blks k l) (hl : l.length <= k) : Up l := by
 cases h with
 | last h1 h2 => exact h2
 | @cons X r h1 h2 h3 =>
  rw [List.length_append] at hl
  have : r = [] := List.eq_nil_of_length_eq_zero (by omega)
  subst this
  rwa [List.append_nil]
theorem Blks.split {k : Nat} {l : List Tm} (h : Blks k l) (hl : k < l.length) : ∃ X r, l = X ++ r ∧ X.length = k ∧ Up X ∧ Blks k r := by
 cases h with
 | last h1 h2 => omega
 | cons h1 h2 h3 => exact ⟨_, _, rfl, h1, h2, h3⟩
theorem Blks.two {k : Nat} {l : List Tm} (h : Blks k l) (hk : 0 < k) (hl : 2 * k <= l.length) : ∃ A B r, l = A ++ B ++ r ∧ A.length = k ∧ B.length = k ∧ Up A ∧ Up B ∧ Blks k r := by
 obtain ⟨A, r, rfl, h1, h2, h3⟩ := h.split (by omega)
 rw [List.length_append] at hl
 rcases Nat.lt_or_ge k r.length with h4 | h4
 ·obtain ⟨B, r', rfl, h5, h6, h7⟩ := h3.split h4
  exact ⟨A, B, r', by rw [List.append_assoc], h1, h5, h2, h6, h7⟩
 ·exact ⟨A, r, [], by rw [List.append_nil], h1, by omega, h2, h3.up h4, .last (by simp) List.Pairwise.nil⟩
theorem drop_cons_of {l : List Tm} {i : Nat} {x : Tm} (h : l[i]? = some x) : l.drop i = x :: l.drop (i + 1) := by
 obtain ⟨h1, rfl⟩ := List.getElem?_eq_some_iff.1 h
 exact List.drop_eq_getElem_cons h1
theorem take_snoc_of {l : List Tm} {i : Nat} {x : Tm} (h : l[i]? = some x) : l.take (i + 1) = l.take i ++ [x] := by
 rw [List.take_add_one, h]; rfl
theorem ins_done {M1 M2 : List Tm} {x : Tm} (h : Up (M1 ++ M2)) (h2 : ∀ y ∈ M2, cmpTm x y <= 0) (h1 : ∀ y, M1.getLast? = some y -> cmpTm y x <= 0) : Up (M1 ++ x :: M2) := by
 obtain ⟨u1, u2, u3⟩ := List.pairwise_append.1 h
 refine Up.append u1 (List.pairwise_cons.2 ⟨h2, u2⟩) fun z hz u hu => ?_
 rcases List.mem_cons.1 hu with rfl | hu
 ·obtain ⟨M0, y, rfl⟩ : ∃ M0 y, M1 = M0 ++ [y] := ⟨M1.dropLast, M1.getLast (List.ne_nil_of_mem hz), (List.dropLast_concat_getLast _).symm⟩
  have hy := h1 y (by simp)
  rcases List.mem_append.1 hz with hz | hz
  ·exact cmpTm_le_trans ((List.pairwise_append.1 u1).2.2 z hz y (by simp)) hy
  ·simp only [List.mem_singleton] at hz
   subst hz
   exact hy
 ·exact u3 z hz u hu
theorem ins_sort {M1 M2 L : List Tm} {x : Tm} (e : M1 ++ M2 = sortTm L) (h2 : ∀ y ∈ M2, cmpTm x y <= 0) (h1 : ∀ y, M1.getLast? = some y -> cmpTm y x <= 0) : M1 ++ x :: M2 = sortTm (L ++ [x]) := by
 have hu : Up (M1 ++ M2) := by rw [e]; exact sortTm_up _
 refine sortTm_of ?_ (ins_done hu h2 h1)
 refine List.perm_middle.trans ?_
 rw [e]
 exact ((sortTm_perm L).cons x).trans (List.perm_append_comm (l₁ := [x]) (l₂ := L))
end Go.Proofs.YtohilkmdjdfljaaGreat
namespace Go.Proofs.YtohilkmdjdfljaaGreat
open Go.RowKit
theorem sort_nil : encTms (sortTm []) = [] := by simp [sortTm, encTms]
theorem okTms_sort {l : List Tm} (h : okTms l) : okTms (sortTm l) := by
 have : ∀ {ts : List Tm}, okTms ts ↔ ∀ t ∈ ts, okTm t := fun {ts} => by
  induction ts with
  | nil => simp [okTms]
  | cons t ts ih => simp [okTms, ih]
 exact this.2 fun a ha => this.1 h a ((sortTm_perm l).mem_iff.1 ha)
theorem okTms_take {l : List Tm} (h : okTms l) (k : Nat) : okTms (l.take k) := by
 have : ∀ {ts : List Tm}, okTms ts ↔ ∀ t ∈ ts, okTm t := fun {ts} => by
  induction ts with
  | nil => simp [okTms]
  | cons t ts ih => simp [okTms, ih]
 exact this.2 fun a ha => this.1 h a (List.mem_of_mem_take ha)
set_option maxHeartbeats 16000000 in
set_option maxRecDepth 100000 in
theorem con_specSort (ts : List Tm) (hok : okTms ts) (hB : tmsB ts) : Con e0 84 [.one (.sl (encTms ts))] [.one (.sl (encTms (sortTm ts)))] := by
 have hB0 := hB
 unfold tmsB at hB
 have hcc := con_l5Copies (sortTm ts) (by
  have h1 := (sortTm_perm ts).length_eq
  have h2 : bulkRows (encTms (sortTm ts)) = bulkRows (encTms ts) := by
   have : ∀ {l m : List Tm}, l.Perm m -> bulkRows (encTms l) = bulkRows (encTms m) := fun h => by
    induction h with
    | nil => rfl
    | cons x h ih => simp only [encTms, bulkRows, ih]
    | swap x y l => simp only [encTms, bulkRows]; omega
    | trans h1 h2 a b => rw [a, b]
   exact this (sortTm_perm ts)
  unfold tmsB; omega)
 refine gI (ts := [.slot 2]) 1073743997 Tryz.func84 ?_
 (have F := @tmz; refine gG ?_; clear F)
 (have F := ai @sort_nil @tmz; refine gL (ι := Nat) [3, 4, 5, 6, 11, 30] [3] (fun i => [(4, A.d (.one (.lit (.int .i64 i)))), (3, .buf 3)]) (fun i => [(3, .buf none 41 4 (encTms (sortTm (ts.take i))))]) (fun i => i <= ts.length) (fun i => ts.length - i) (0) (Nat.zero_le _) (fun i hi => ?_); clear F)
 by_cases hlt : i < ts.length
 rotate_left
 ·obtain rfl : i = ts.length := by omega
  have q2 : ((ts.length : Int) < (ts.length : Int)) = False := eq_false (by omega)
  rw [List.take_length]
  (have F := ai @q2 @tmz; have NN : StopAt 10 := trivial; refine gGn ?_; clear F NN)
  refine pS 3 fun a cap => ?_
  refine pD 3 [3] [] ?_
  refine gB ?_
  (have F := @tmz; refine gC (hcc) ?_; clear F)
  (have F := @tmz; refine gR ?_; clear F)
  (have F := @tmz; refine gG ?_; exact gTd)
 obtain ⟨x, hx⟩ : ∃ b, ts[i]? = some b := ⟨_, List.getElem?_eq_getElem hlt⟩
 have q2 : ((i : Int) < (ts.length : Int)) = True := eq_true (by omega)
 have q4 := wrap1 (k := i) (by omega)
 have hxo := hok.mem (List.mem_of_getElem? hx)
 obtain ⟨M, hM⟩ : ∃ M, M = sortTm (ts.take i) := ⟨_, rfl⟩
 have hMl : M.length = i := by rw [hM, sortTm_len, List.length_take]; omega
 have hMo : okTms M := by rw [hM]; exact okTms_sort (okTms_take hok i)
 have hMr : ts.take (i + 1) = ts.take i ++ [x] := take_snoc_of hx
 rw [<- hM]
 (have F := ai @q2 (ai @hMl @tmz); have NN : StopAt 5 := trivial; refine gGn ?_; clear F NN)
 refine gB ?_
 (have F := ai @hMl @tmz; refine gR ?_; clear F)
 refine pwp_seqW ?_
 refine gM (ι := Nat) [5] [] (fun k => [(5, A.d (.one (.lit (.int .i64 k))))]) (fun k => []) (fun k => k <= i ∧ (∀ y ∈ M.drop k, cmpTm x y <= 0) ∧ (0 < k -> ∃ y, M[k - 1]? = some y ∧ cmpTm y x <= 0)) ?_ (fun k hk => Exists.intro _ (ai (Wk.refl _) ?_))
 ·(have F := @tmz; refine gG ?_; clear F)
  (have F := @tmz; refine gL (ι := Nat) [5, 30] [] (fun k => [(5, A.d (.one (.lit (.int .i64 k))))]) (fun k => []) (fun k => k <= i ∧ ∀ y ∈ M.drop k, cmpTm x y <= 0) (fun k => k) (i) (⟨Nat.le_refl _, by rw [<- hMl, List.drop_length]; intro y hy; cases hy⟩) (fun k hk => ?_); clear F)
  obtain ⟨hk, h2⟩ := hk
  by_cases hk0 : k = 0
  ·have q0 : (0 < (k : Int)) = False := eq_false (by omega)
   (have F := ai @q0 @tmz; refine gG ?_; exact ⟨k, ⟨hk, h2, fun h => by omega⟩, gw, gw⟩)
  obtain ⟨j, rfl⟩ : ∃ j, k = j + 1 := ⟨k - 1, by omega⟩
  obtain ⟨y, hy⟩ : ∃ y, M[j]? = some y := ⟨_, List.getElem?_eq_getElem (by omega)⟩
  have q5 : (0 < ((j + 1 : Nat) : Int)) = True := eq_true (by omega)
  have wj : IntKind.i64.wrap (((j + 1 : Nat) : Int) - 1) = (j : Int) := wrapN (by omega) (by omega) (by omega)
  have lj : j < i := by omega
  have hdr : M.drop j = y :: M.drop (j + 1) := drop_cons_of hy
  generalize hk1 : j + 1 = k1 at q5 wj h2 hk hdr ⊢
  (have F := @tmz; refine gG ?_; clear F)
  refine gB ?_
  (have F := ai @q5 (ai @wj (ai @hy (ai @hx (ai @hMl (ai @lj (ai @natInt @tmz)))))); refine gC (con_specCmp (hMo.mem (List.mem_of_getElem? hy)) hxo) ?_; clear F)
  by_cases hc : 0 < cmpTm y x
  ·have z := eq_true hc
   (have F := @z; refine gR ?_; clear F)
   have h2' : ∀ u ∈ M.drop j, cmpTm x u <= 0 := fun u hu => by
    rw [hdr] at hu
    rcases List.mem_cons.1 hu with rfl | hu
    ·rw [cmpTm_neg u x]; omega
    ·exact h2 u hu
   (have F := ai @z @wj; refine gG ?_; exact ⟨j, ⟨by omega, h2'⟩, gw, gw, by omega⟩)
  have z := eq_false hc
  (have F := @z; refine gR ?_; clear F)
  (have F := ai @z @tmz; refine gG ?_; exact ⟨k1, ⟨hk, h2, fun _ => ⟨y, by rw [<- hk1, Nat.add_sub_cancel]; exact hy, by omega⟩⟩, gw, gw⟩)
 obtain ⟨hk, h2, h1⟩ := hk
 have hMs : M.take k ++ x :: M.drop k = sortTm (ts.take (i + 1)) := by
  rw [hMr]
  refine ins_sort (by rw [List.take_append_drop, hM]) h2 fun y hy => ?_
  have hk0 : 0 < k := by
   rcases Nat.eq_zero_or_pos k with h | h
   ·subst h; simp at hy
   ·exact h
  obtain ⟨z, hz, hc⟩ := h1 hk0
  rw [List.getLast?_eq_getElem?, List.length_take, hMl, Nat.min_eq_left hk, List.getElem?_take, if_pos (by omega), hz] at hy
  injection hy with hy
  subst hy
  exact hc
 have hdl : ((encTms M).take (encTms M).length).drop k = encTms (M.drop k) := by rw [List.take_length, encTms_drop]
 (have F := @tmz; have NN : StopAt 8 := trivial; refine gGn ?_; clear F NN)
 refine pS 3 fun a cap => ?_
 refine gB ?_
 (have F := @tmz; refine gP 3 ?_; clear F)
 have hkl : k <= (encTms M).length := by rw [encTms_len]; omega
 refine (have F := ai hMl tmz; gSub 3 k (encTms M).length ⟨hkl, Nat.le_refl _⟩ ?_)
 refine gO 33 41 4 ?_
 refine (have F := tmz; gAps (rows := []) (rj := encTms M) 33 3 ⟨hkl, Nat.le_refl _⟩ (by rw [encTms_len]; simp only [List.length_nil, maxApp]; omega) ?_)
 rw [hdl, List.nil_append]
 (have F := @tmz; refine gR ?_; clear F)
 (have F := @tmz; have NN : StopAt 9 := trivial; refine gGn ?_; clear F NN)
 have hcl : (encTms M).take k = encTms (M.take k) := encTms_take _ _
 have htl : (M.take k).length = k := by rw [List.length_take]; omega
 refine gF0 ?_
 refine gFm 0 ?_
 refine gFm 1 ?_
 refine (have F := ai hMl tmz; gFs 2 3 0 k ⟨Nat.zero_le _, hkl⟩ ?_)
 rw [sliced_zero]
 refine gFm 3 ?_
 refine gFm 4 ?_
 refine gFm 9 ?_
 refine gFT ?_
 have l1 : (k + 1 <= maxApp) = True := eq_true (by unfold maxApp; omega)
 have l2 : ((M.take k).length + 1 + (M.drop k).length <= maxApp) = True := eq_true (by rw [htl, List.length_drop]; unfold maxApp; omega)
 have e1 : encTms (M.take k) ++ [encTm x] = encTms (M.take k ++ [x]) := by rw [encTms_app]; rfl
 have e2 : encTms (M.take k ++ [x]) ++ encTms (M.drop k) = encTms (sortTm (ts.take (i + 1))) := by rw [<- encTms_app, <- hMs]; simp
 refine gO1 5 ?_
 refine (have F := ai q2 (ai hx (ai natInt tmz)); gO3 ?_)
 refine gO1 6 ?_
 refine (have F := ai hx tmz; gO3 ?_)
 refine gO1 7 ?_
 refine (have F := tmz; gO3 ?_)
 refine gO1 8 ?_
 refine gE [3] [3] (re_cut k hkl) ?_
 rw [hcl]
 refine (have F := ai htl (ai l1 (ai e1 tmz)); gO3 ?_)
 refine gO1 10 ?_
 refine (have F := ai l2 (ai e2 tmz); gO3 ?_)
 refine gO1 11 ?_
 refine (have F := tmz; gO3 ?_)
 refine (have F := tmz; gT0 ?_)
 refine Exists.intro _ (ai (Wk.refl _) ?_)
 (have F := @q4; refine gG ?_; exact ⟨i + 1, hlt, gw, gw, by omega⟩)
end Go.Proofs.YtohilkmdjdfljaaGreat
namespace Go.Proofs.YtohilkmdjdfljaaGreat
open Go.RowKit
theorem asc_adj : ∀ {l : List Tm}, (∀ (j : Nat) p a, l[j]? = some p -> l[j + 1]? = some a -> cmpTm p a <= 0) -> AscE l
 | [], _ => List.Pairwise.nil
 | [a], _ => List.pairwise_singleton _ _
 | a :: b :: l, h => by
  have ih := asc_adj (l := b :: l) fun j p x hp hx => h (j + 1) p x (by simpa using hp) (by simpa using hx)
  have hab := h 0 a b (by simp) (by simp)
  refine List.Pairwise.cons (fun x hx => ?_) ih
  rcases List.mem_cons.1 hx with rfl | hx
  ·exact hab
  ·exact cmpTm_le_trans hab ((List.pairwise_cons.1 ih).1 x hx)
theorem asc_form {g : Sgn} {p : Tm} (hF : FormOk g p) {x : Opr} {d : Dcl} (hA : AppOk g p x d) (hc : x.comm = true) : AscE p.args := by
 have h3 := (FormOk_iff.1 hF).2.2
 have h0 := hA.lo
 have hR := h3.resolve_left (by omega)
 exact asc_adj fun j q a hq ha => (hR x d hA.at' hA.fst (j + 1) a ha).ord hc j q rfl hq
theorem fit_comm {args left : List Tm} {r : Nat} (hA : AscE args) (hn : left.length + r + 2 <= args.length) : ((takeL args left).isSome = true ∧ r = 0 ∧ 1 < ((takeL args left).getD []).length ∧ left = sortTm left) ↔ (r = 0 ∧ (wo args left).2 = true) := by
 constructor
 ·rintro ⟨h1, h2, h3, h4⟩
  have hL : AscE left := by rw [h4]; exact sortTm_up left
  exact ⟨h2, (wo_take hA hL).1.2 h1⟩
 ·rintro ⟨h1, h2⟩
  have hL := wo_asc hA h2
  have e := (wo_take hA hL).2 h2
  have hl := takeL_len e
  rw [e]
  refine ⟨rfl, h1, ?_, (sortTm_self hL).symm⟩
  simp only [Option.getD_some]
  omega
theorem fit_take {args left : List Tm} (hA : AscE args) (h2 : (wo args left).2 = true) : takeL args left = some (wo args left).1 := (wo_take hA (wo_asc hA h2)).2 h2
theorem okTms_drop {l : List Tm} (h : okTms l) (k : Nat) : okTms (l.drop k) := okTms_all.2 fun a ha => okTms_all.1 h a (List.mem_of_mem_drop ha)
open Classical in
theorem cmpL_dec {a b : List Tm} : decide (cmpTm (.mk 0 ByteArray.empty 0 a) (.mk 0 ByteArray.empty 0 b) = 0) = decide (a = b) := by
 by_cases h : a = b
 ·rw [decide_eq_true h, decide_eq_true (cmpL_zero.2 h)]
 ·rw [decide_eq_false h, decide_eq_false fun e => h (cmpL_zero.1 e)]
open Classical in
set_option maxHeartbeats 16000000 in
set_option maxRecDepth 100000 in
theorem con_l12Fits {g : Sgn} (hg : SgnOk g) {t : Tm} (hT : TermOk g t) (ht : okTm t) (hb : bulkRow (encTm t) <= 1048576) {o : Occ} (hop : o.path.length <= 1048576) (hol : o.left.length <= 1048576) (hor : o.right.length <= 1048576) (hL : okTms o.left) (hR : okTms o.right) (hLb : tmsB o.left) : Con e0 38 [.agg (encSgn g), .agg (encTm t), .agg (encOcc o)] [.one (.lit (.bool (tkIn g t o).2))] := by
 have c2 := con_l12At t o.path hop hb
 rw [encOcc_u, encSgn]
 refine gI (ts := [.slot 6]) 145241088653791231 Tryz.func38 ?_
 (have F := @tmz; refine gG ?_; clear F)
 refine gB ?_
 (have F := @tmz; refine gC (c2) ?_; clear F)
 have hform := form_sub (g := g) o.path t hT.form
 have hbs := subAt_bulk o.path t
 have hoks := sub_ok o.path t ht
 have hdef : (tkIn g t o).2 = if (subAt t o.path).2 = false then false else if o.left.length + o.right.length = 0 then true else (tkRest g (subAt t o.path).1 o).isSome := by
  unfold tkIn
  split
  ·rfl
  ·split
   ·rfl
   ·cases tkRest g (subAt t o.path).1 o <;> rfl
 rw [hdef]
 clear hdef c2
 generalize hsub : subAt t o.path = px at hform hbs hoks ⊢
 obtain ⟨p, ok⟩ := px
 simp only at hform hbs hoks ⊢
 have hws : IntKind.i64.wrap ((o.left.length : Int) + (o.right.length : Int)) = (o.left.length : Int) + (o.right.length : Int) := IntWalk.i64_in _ (by omega)
 cases ok with
 | false =>
  rw [if_pos rfl]
  (have F := @tmz; refine gR ?_; clear F)
  (have F := ai @tmz @hws; refine gG ?_; exact gTd)
 | true =>
 rw [if_neg (by simp)]
 (have F := @tmz; refine gR ?_; clear F)
 by_cases hn0 : o.left.length + o.right.length = 0
 ·have z0 : ((o.left.length : Int) + (o.right.length : Int) = 0) = True := eq_true (by omega)
  rw [if_pos hn0]
  (have F := ai @z0 (ai @hws @tmz); refine gG ?_; exact gTd)
 have z0 : ((o.left.length : Int) + (o.right.length : Int) = 0) = False := eq_false (by omega)
 rw [if_neg hn0]
 have hpf := hform rfl
 have hpb : bulkRow (encTm p) <= 1048576 := by omega
 have hal := args_le' hpb
 have w1 : IntKind.i64.wrap ((p.args.length : Int) - 2) = (p.args.length : Int) - 2 := IntWalk.i64_in _ (by omega)
 rcases hpf.node with hv | ⟨x, d, hA⟩
 ·have hop1 : p.op = -1 := hv.1
  have q1 : (p.op = -1) = True := eq_true hop1
  have e : tkRest g p o = none := by unfold tkRest; rw [if_pos (by omega)]
  rw [e]
  (have F := ai @z0 (ai @hws (ai @w1 (ai @q1 @tmz))); refine gG ?_; exact gTd)
 have h0 : 0 <= p.op := hA.lo
 have hat : g.ops[p.op.toNat]? = some x := hA.at'
 have hneg : ¬ (p.op < 0) := by omega
 have q1 : (p.op = -1) = False := eq_false (by omega)
 have e0' : tkRest g p o = if x.assoc = false ∨ p.args.length < o.left.length + o.right.length + 2 then none
  else if x.comm = true then (if o.right.length = 0 ∧ (wo p.args o.left).2 = true then some (wo p.args o.left).1 else none)
  else if sameL (p.args.take o.left.length) o.left = true ∧ sameL (p.args.drop (p.args.length - o.right.length)) o.right = true then some ((p.args.take (p.args.length - o.right.length)).drop o.left.length) else none := by
  simp only [tkRest, if_neg hneg, hat]
 rw [e0']
 clear e0'
 cases ha : x.assoc with
 | false =>
  rw [if_pos (.inl rfl)]
  (have F := ai @z0 (ai @hws (ai @w1 (ai @q1 (ai @h0 (ai @hat (ai @encOpr_u (ai @ha @tmz))))))); refine gG ?_; exact gTd)
 | true =>
 by_cases hn2 : p.args.length < o.left.length + o.right.length + 2
 ·have q2 : ((p.args.length : Int) - 2 < (o.left.length : Int) + (o.right.length : Int)) = True := eq_true (by omega)
  rw [if_pos (.inr hn2)]
  (have F := ai @z0 (ai @hws (ai @w1 (ai @q1 (ai @h0 (ai @hat (ai @encOpr_u (ai @ha (ai @q2 @tmz)))))))); refine gG ?_; exact gTd)
 have q2 : ((p.args.length : Int) - 2 < (o.left.length : Int) + (o.right.length : Int)) = False := eq_false (by omega)
 rw [if_neg (fun h => h.elim (fun h => by cases h) hn2)]
 have hoka : okTms p.args := (okTm_iff.1 hoks).2.2.2
 cases hc : x.comm with
 | true =>
  rw [if_pos rfl]
  have hAs := asc_form hpf hA hc
  have cW := con_l11Take p.args o.left hoka hL hal hol
  have hfit := fit_comm (left := o.left) (r := o.right.length) hAs (by omega)
  have hres : (if o.right.length = 0 ∧ (wo p.args o.left).2 = true then some (wo p.args o.left).1 else none : Option (List Tm)).isSome = decide ((takeL p.args o.left).isSome = true ∧ o.right.length = 0 ∧ 1 < ((takeL p.args o.left).getD []).length ∧ o.left = sortTm o.left) := by
   by_cases h : o.right.length = 0 ∧ (wo p.args o.left).2 = true
   ·rw [if_pos h, decide_eq_true (hfit.2 h)]; rfl
   ·rw [if_neg h, decide_eq_false fun q => h (hfit.1 q)]; rfl
  rw [hres]
  clear hres hfit
  have hsl : (takeL p.args o.left).getD [] = [] ∨ ((takeL p.args o.left).getD []).length <= 1048576 := by
   cases e : takeL p.args o.left with
   | none => exact .inl rfl
   | some r => have := takeL_len e; exact .inr (by simp only [Option.getD_some]; omega)
  (have F := ai @z0 (ai @hws (ai @w1 (ai @q1 (ai @h0 (ai @hat (ai @encOpr_u (ai @ha (ai @hc (ai @q2 @tmz))))))))); refine gG ?_; clear F)
  refine gB ?_
  (have F := @tmz; refine gC (cW) ?_; clear F)
  generalize takeL p.args o.left = tk at hsl ⊢
  cases tk with
  | none =>
   rw [decide_eq_false (by simp)]
   (have F := @tmz; refine gR ?_; clear F)
   (have F := @tmz; refine gG ?_; exact gTd)
  | some r =>
  simp only [Option.getD_some, Option.isSome_some, true_and] at hsl ⊢
  (have F := @tmz; refine gR ?_; clear F)
  by_cases hr0 : o.right.length = 0
  rotate_left
  ·have q3 : ((o.right.length : Int) = 0) = False := eq_false (by omega)
   rw [decide_eq_false fun h => hr0 h.1]
   (have F := ai @q3 @tmz; refine gG ?_; exact gTd)
  have q3 : ((o.right.length : Int) = 0) = True := eq_true (by omega)
  by_cases hr1 : 1 < r.length
  rotate_left
  ·have q4 : (1 < (r.length : Int)) = False := eq_false (by omega)
   rw [decide_eq_false fun h => hr1 h.2.1]
   (have F := ai @q3 (ai @q4 @tmz); refine gG ?_; exact gTd)
  have q4 : (1 < (r.length : Int)) = True := eq_true (by omega)
  have cS := con_specSort o.left hL hLb
  have cC := con_l12Lists o.left (sortTm o.left) hL (okTms_sort hL)
  have e : decide (o.right.length = 0 ∧ 1 < r.length ∧ o.left = sortTm o.left) = decide (cmpTm (.mk 0 ByteArray.empty 0 o.left) (.mk 0 ByteArray.empty 0 (sortTm o.left)) = 0) := by
   rw [cmpL_dec]; simp only [hr0, hr1, true_and]
  rw [e]
  (have F := ai @q3 (ai @q4 @tmz); refine gG ?_; clear F)
  refine gB ?_
  (have F := ai @q3 (ai @q4 @tmz); refine gC (cS) ?_; clear F)
  (have F := ai @q3 (ai @q4 @tmz); refine gC (cC) ?_; clear F)
  (have F := ai @q3 (ai @q4 @tmz); refine gR ?_; clear F)
  (have F := ai @q3 (ai @q4 @tmz); refine gG ?_; exact gTd)
 | false =>
  rw [if_neg (by simp)]
  have wE : IntKind.i64.wrap ((p.args.length : Int) - (o.right.length : Int)) = ((p.args.length - o.right.length : Nat) : Int) := by
   rw [IntWalk.i64_in _ (by omega)]; omega
  have s1 : ((o.left.length : Int) <= (p.args.length : Int)) = True := eq_true (by omega)
  have s2 : (((p.args.length - o.right.length : Nat) : Int) <= (p.args.length : Int)) = True := eq_true (by omega)
  have sll : ((p.args.length : Int) <= (p.args.length : Int)) = True := eq_true (Int.le_refl _)
  have stk : p.args.take p.args.length = p.args := List.take_length
  have cA := con_l12Lists o.left (p.args.take o.left.length) hL (okTms_take hoka _)
  have cB := con_l12Lists o.right (p.args.drop (p.args.length - o.right.length)) hR (okTms_drop hoka _)
  have e : (if sameL (p.args.take o.left.length) o.left = true ∧ sameL (p.args.drop (p.args.length - o.right.length)) o.right = true then some ((p.args.take (p.args.length - o.right.length)).drop o.left.length) else none : Option (List Tm)).isSome = (decide (cmpTm (.mk 0 ByteArray.empty 0 o.left) (.mk 0 ByteArray.empty 0 (p.args.take o.left.length)) = 0) && decide (cmpTm (.mk 0 ByteArray.empty 0 o.right) (.mk 0 ByteArray.empty 0 (p.args.drop (p.args.length - o.right.length))) = 0)) := by
   rw [cmpL_dec, cmpL_dec]
   simp only [sameL, decide_eq_true_eq]
   by_cases hx : p.args.take o.left.length = o.left
   ·by_cases hy : p.args.drop (p.args.length - o.right.length) = o.right
    ·rw [if_pos ⟨hx, hy⟩, decide_eq_true hx.symm, decide_eq_true hy.symm]; rfl
    ·rw [if_neg fun h => hy h.2, decide_eq_true hx.symm, decide_eq_false fun h => hy h.symm]; rfl
   ·rw [if_neg fun h => hx h.1, decide_eq_false fun h => hx h.symm]; rfl
  rw [e]
  clear e
  (have F := ai @z0 (ai @hws (ai @w1 (ai @q1 (ai @h0 (ai @hat (ai @encOpr_u (ai @ha (ai @hc (ai @q2 (ai @wE @tmz)))))))))); refine gG ?_; clear F)
  refine gB ?_
  (have F := ai @tmz (ai @s1 (ai @natInt (ai @encTms_take @encTms_drop))); refine gC (cA) ?_; clear F)
  by_cases h3 : cmpTm (.mk 0 ByteArray.empty 0 o.left) (.mk 0 ByteArray.empty 0 (p.args.take o.left.length)) = 0
  rotate_left
  ·have z3 := eq_false h3
   rw [decide_eq_false h3, Bool.false_and]
   (have F := ai @z3 @tmz; refine gR ?_; clear F)
   (have F := ai @z3 @tmz; refine gG ?_; exact gTd)
  have z3 := eq_true h3
  rw [decide_eq_true h3, Bool.true_and]
  (have F := ai @z3 (ai @wE (ai @tmz (ai @s2 (ai @sll (ai @stk (ai @natInt (ai @encTms_take @encTms_drop))))))); refine gC (cB) ?_; clear F)
  (have F := @tmz; refine gR ?_; clear F)
  (have F := @tmz; refine gG ?_; exact gTd)
set_option maxHeartbeats 4000000 in
set_option maxRecDepth 100000 in
theorem con_l11Value (op : Int) (l : List Tm) (h2 : 2 <= l.length) (hl : l.length <= 1048576) : Con e0 42 [.one (.lit (.int .i64 op)), .one (.sl (encTms l))] [.agg (encTm (.mk op ByteArray.empty 0 l))] := by
 have q1 : ((l.length : Int) = 1) = False := eq_false (by omega)
 have l1 : (l.length <= maxApp) = True := eq_true (by unfold maxApp; omega)
 have em := mk_u op l
 refine gI (ts := [.cell 4 41]) 147 Tryz.func42 ?_
 (have F := ai @q1 @tmz; have NN : StopAt 3 := trivial; refine gGn ?_; clear F NN)
 refine gB ?_
 (have F := ai @l1 @tmz; refine gP 4 ?_; clear F)
 refine gS 14 fun a cap => ?_
 refine gD 14 [14] [] ?_
 (have F := ai @em @tmz; refine gR ?_; clear F)
 (have F := ai @em @tmz; refine gG ?_; exact gTd)
set_option maxHeartbeats 16000000 in
set_option maxRecDepth 100000 in
theorem con_specTaken {g : Sgn} (hok : okSgn g) {t : Tm} (ht : okTm t) (hb : bulkRow (encTm t) <= 1048576) {o : Occ} (hop : o.path.length <= 1048576) (hol : o.left.length <= 1048576) (hor : o.right.length <= 1048576) (hL : okTms o.left) (hR : okTms o.right) (hLb : tmsB o.left) : Con e0 9 [.agg (encSgn g), .agg (encTm t), .agg (encOcc o)] [.agg (encTm (tkT g t o).1), .one (.lit (.bool (tkT g t o).2))] := by
 have cT := con_specIsTerm hok ht (big_of_bulk hb)
 have hz := zTm_u
 by_cases h : SgnOk g ∧ TermOk g t
 rotate_left
 ·have h1 : (isSgn g && isTerm g t) = false := by
   rcases Classical.not_and_iff_not_or_not.1 h with h | h
   ·rw [isSgn_false h, Bool.false_and]
   ·rw [isTerm_false h, Bool.and_false]
  rw [tkT_no h]
  rw [encOcc_u, encSgn]
  rw [encSgn] at cT
  refine gI (ts := [.cell 6 41, .slot 7]) 576460889744475647 Tryz.func9 ?_
  (have F := @tmz; refine gG ?_; clear F)
  refine gB ?_
  (have F := @tmz; refine gC (cT) ?_; clear F)
  (have F := ai @h1 @tmz; refine gR ?_; clear F)
  (have F := ai @h1 (ai @tmz @hz); refine gG ?_; exact gTd)
 have h1 : (isSgn g && isTerm g t) = true := by rw [isSgn_true h.1, isTerm_true h.2]; rfl
 obtain ⟨hg, hT⟩ := h
 rw [tkT_yes hg hT]
 have cF := con_l12Fits hg hT ht hb hop hol hor hL hR hLb
 have c2 := con_l12At t o.path hop hb
 have hfacts := tkIn_facts (g := g) (o := o) ht hb
 have hform := form_sub (g := g) o.path t hT.form
 have hbs := subAt_bulk o.path t
 have hoks := sub_ok o.path t ht
 rw [encOcc_u] at cF ⊢
 rw [encSgn] at cT cF ⊢
 refine gI (ts := [.cell 6 41, .slot 7]) 576460889744475647 Tryz.func9 ?_
 (have F := @tmz; refine gG ?_; clear F)
 refine gB ?_
 (have F := @tmz; refine gC (cT) ?_; clear F)
 (have F := ai @h1 @tmz; refine gC (cF) ?_; clear F)
 cases hf : (tkIn g t o).2 with
 | false =>
  have e := hfacts.2.2 hf
  rw [e]
  (have F := ai @h1 @tmz; refine gR ?_; clear F)
  (have F := ai @h1 (ai @tmz @hz); refine gG ?_; exact gTd)
 | true =>
 (have F := ai @h1 @tmz; refine gR ?_; clear F)
 (have F := ai @h1 @tmz; refine gG ?_; clear F)
 refine gB ?_
 (have F := @tmz; refine gC (c2) ?_; clear F)
 have hdef : tkIn g t o = if (subAt t o.path).2 = false then (zTm, false) else if o.left.length + o.right.length = 0 then ((subAt t o.path).1, true) else match tkRest g (subAt t o.path).1 o with
  | none => (zTm, false)
  | some r => (.mk (subAt t o.path).1.op ByteArray.empty 0 r, true) := rfl
 rw [hdef] at hf hfacts ⊢
 clear hdef c2 cF cT
 generalize hsub : subAt t o.path = px at hform hbs hoks hf hfacts ⊢
 obtain ⟨p, ok⟩ := px
 simp only at hform hbs hoks hf hfacts ⊢
 cases ok with
 | false => rw [if_pos rfl] at hf; cases hf
 | true =>
 rw [if_neg (by simp)] at hf hfacts ⊢
 have hws : IntKind.i64.wrap ((o.left.length : Int) + (o.right.length : Int)) = (o.left.length : Int) + (o.right.length : Int) := IntWalk.i64_in _ (by omega)
 have hpb : bulkRow (encTm p) <= 1048576 := by omega
 (have F := @tmz; refine gR ?_; clear F)
 by_cases hn0 : o.left.length + o.right.length = 0
 ·have z0 : ((o.left.length : Int) + (o.right.length : Int) = 0) = True := eq_true (by omega)
  rw [if_pos hn0]
  have cC := con_l5Copy p hpb
  (have F := ai @z0 (ai @hws @tmz); refine gG ?_; clear F)
  refine gB ?_
  (have F := @tmz; refine gC (cC) ?_; clear F)
  (have F := @tmz; refine gR ?_; clear F)
  (have F := @tmz; refine gG ?_; exact gTd)
 have z0 : ((o.left.length : Int) + (o.right.length : Int) = 0) = False := eq_false (by omega)
 rw [if_neg hn0] at hf hfacts ⊢
 have hpf := hform rfl
 have hal := args_le' hpb
 cases hr : tkRest g p o with
 | none => rw [hr] at hf; cases hf
 | some r =>
 rw [hr] at hfacts
 simp only at hfacts ⊢
 have hrb := hfacts.2.1
 clear hfacts hf
 rcases hpf.node with hv | ⟨x, d, hA⟩
 ·have hop1 : p.op = -1 := hv.1
  have e : tkRest g p o = none := by unfold tkRest; rw [if_pos (by omega)]
  rw [e] at hr; cases hr
 have h0 : 0 <= p.op := hA.lo
 have hat : g.ops[p.op.toNat]? = some x := hA.at'
 have hneg : ¬ (p.op < 0) := by omega
 have e0' : tkRest g p o = if x.assoc = false ∨ p.args.length < o.left.length + o.right.length + 2 then none
  else if x.comm = true then (if o.right.length = 0 ∧ (wo p.args o.left).2 = true then some (wo p.args o.left).1 else none)
  else if sameL (p.args.take o.left.length) o.left = true ∧ sameL (p.args.drop (p.args.length - o.right.length)) o.right = true then some ((p.args.take (p.args.length - o.right.length)).drop o.left.length) else none := by
  simp only [tkRest, if_neg hneg, hat]
 rw [e0'] at hr
 clear e0'
 have hn2 : ¬ (x.assoc = false ∨ p.args.length < o.left.length + o.right.length + 2) := fun hh => by rw [if_pos hh] at hr; cases hr
 rw [if_neg hn2] at hr
 have hn3 : ¬ (p.args.length < o.left.length + o.right.length + 2) := fun hh => hn2 (.inr hh)
 have hoka : okTms p.args := (okTm_iff.1 hoks).2.2.2
 have wE : IntKind.i64.wrap ((p.args.length : Int) - (o.right.length : Int)) = ((p.args.length - o.right.length : Nat) : Int) := by
  rw [IntWalk.i64_in _ (by omega)]; omega
 have s2 : (((p.args.length - o.right.length : Nat) : Int) <= (p.args.length : Int)) = True := eq_true (by omega)
 have s3 : ((o.left.length : Int) <= ((p.args.length - o.right.length : Nat) : Int)) = True := eq_true (by omega)
 have cC := con_l5Copy (.mk p.op ByteArray.empty 0 r) hrb
 cases hc : x.comm with
 | true =>
  rw [if_pos hc] at hr
  have hw : o.right.length = 0 ∧ (wo p.args o.left).2 = true := Classical.byContradiction fun hh => by rw [if_neg hh] at hr; cases hr
  rw [if_pos hw] at hr
  injection hr with hr
  have hAs := asc_form hpf hA hc
  have cW := con_l11Take p.args o.left hoka hL hal hol
  have etk := fit_take hAs hw.2
  have hln := takeL_len etk
  rw [etk, hr] at cW
  rw [hr] at hln
  have cV := con_l11Value p.op r (by omega) (by omega)
  rw [Option.getD_some, Option.isSome_some] at cW
  (have F := ai @z0 (ai @hws (ai @wE (ai @s2 (ai @s3 (ai @h0 (ai @hat (ai @encOpr_u (ai @hc (ai @natInt (ai @encTms_take (ai @encTms_drop @tmz))))))))))); refine gG ?_; clear F)
  refine gB ?_
  (have F := @tmz; refine gC (cW) ?_; clear F)
  (have F := @tmz; refine gR ?_; clear F)
  (have F := @tmz; refine gG ?_; clear F)
  refine gB ?_
  (have F := @tmz; refine gC (cV) ?_; clear F)
  (have F := @tmz; refine gC (cC) ?_; clear F)
  (have F := @tmz; refine gR ?_; clear F)
  (have F := @tmz; refine gG ?_; exact gTd)
 | false =>
  rw [if_neg (by rw [hc]; simp)] at hr
  have hw : sameL (p.args.take o.left.length) o.left = true ∧ sameL (p.args.drop (p.args.length - o.right.length)) o.right = true := Classical.byContradiction fun hh => by rw [if_neg hh] at hr; cases hr
  rw [if_pos hw] at hr
  injection hr with hr
  have hln : r.length = p.args.length - o.right.length - o.left.length := by rw [<- hr, List.length_drop, List.length_take]; omega
  have cV := con_l11Value p.op r (by omega) (by omega)
  rw [<- hr] at cV cC ⊢
  (have F := ai @z0 (ai @hws (ai @wE (ai @s2 (ai @s3 (ai @h0 (ai @hat (ai @encOpr_u (ai @hc (ai @natInt (ai @encTms_take (ai @encTms_drop @tmz))))))))))); refine gG ?_; clear F)
  refine gB ?_
  (have F := @tmz; refine gC (cV) ?_; clear F)
  (have F := @tmz; refine gC (cC) ?_; clear F)
  (have F := @tmz; refine gR ?_; clear F)
  (have F := @tmz; refine gG ?_; exact gTd)
end Go.Proofs.YtohilkmdjdfljaaGreat
namespace Go.Proofs.YtohilkmdjdfljaaGreat
open Go.RowKit
theorem occ_bulk {o : Occ} (h : bulkRow (encOcc o) <= 1048576) : o.path.length <= 1048576 ∧ tmsB o.left ∧ tmsB o.right := by
 simp only [encOcc, bulkRow, bulkC, encTms_len, List.length_map] at h
 unfold tmsB
 omega
theorem okRow_tk {g : Sgn} {t : Tm} {o : Occ} (h : okTm t) : okRow (fieldsOf .term) (encTm (tkT g t o).1) := okRow_enc _ (tkT_facts (B := bulkRow (encTm t)) h (Nat.le_refl _)).1
theorem big_tk {g : Sgn} {t : Tm} {o : Occ} (h : okTm t) (hb : bulkRow (encTm t) <= 1048576) : bulkRow (encTm (tkT g t o).1) <= 1048576 := (tkT_facts h hb).2
theorem con_specTk {g : Sgn} (hok : okSgn g) {t : Tm} (ht : okTm t) (hb : bulkRow (encTm t) <= 1048576) {o : Occ} (ho : okOcc o) (hbo : bulkRow (encOcc o) <= 1048576) : Con e0 9 [.agg (encSgn g), .agg (encTm t), .agg (encOcc o)] [.agg (encTm (tkT g t o).1), .one (.lit (.bool (tkT g t o).2))] := by
 obtain ⟨h1, h2, h3⟩ := occ_bulk hbo
 have h2' := h2
 unfold tmsB at h2' h3
 exact con_specTaken hok ht hb h1 (by omega) (by omega) ho.2.1 ho.2.2.1 h2
theorem conP_implTk {g : Sgn} (hok : okSgn g) {t : Tm} (ht : okTm t) (hb : bulkRow (encTm t) <= 1048576) {o : Occ} (hbo : bulkRow (encOcc o) <= 1048576) : ConP e0 13 [.agg (encSgn g), .agg (encTm t), .agg (encOcc o)] [] (RTreeF (encTm (tkT g t o).1) (tkT g t o).2) := by
 obtain ⟨h1, h2, h3⟩ := occ_bulk hbo
 unfold tmsB at h2 h3
 exact conP_implTaken hok ht hb h1 (by omega) (by omega)
end Go.Proofs.YtohilkmdjdfljaaGreat
namespace Go.Proofs.YtohilkmdjdfljaaGreat
open Go.RowKit
def addL (i : Nat) : Nat -> List Oper -> List Oper
 | _, [] => []
 | 0, o :: l => { o with after := o.after.push ⟨i, .data⟩ } :: l
 | k + 1, o :: l => o :: addL i k l
theorem addL_get (i : Nat) : ∀ (k : Nat) (l : List Oper) (j : Nat), (addL i k l)[j]? = if j = k then l[j]?.map fun o => { o with after := o.after.push ⟨i, .data⟩ } else l[j]?
 | k, [], j => by simp [addL]
 | 0, o :: l, 0 => by simp [addL]
 | 0, o :: l, j + 1 => by simp [addL]
 | k + 1, o :: l, 0 => by simp [addL]
 | k + 1, o :: l, j + 1 => by simp [addL, addL_get i k l j]
theorem addL_len (i : Nat) : ∀ (k : Nat) (l : List Oper), (addL i k l).length = l.length
 | k, [] => by simp [addL]
 | 0, o :: l => by simp [addL]
 | k + 1, o :: l => by simp [addL, addL_len i k l]
theorem addL_dst (i : Nat) : ∀ (k : Nat) (l : List Oper), (addL i k l).map (·.dst) = l.map (·.dst)
 | k, [] => by simp [addL]
 | 0, o :: l => by simp [addL]
 | k + 1, o :: l => by simp [addL, addL_dst i k l]
section
variable {P : Program} {l : List Oper} {i k : Nat} {oi ok : Oper}
theorem wpOp_addL {Q : Exit -> Act -> World -> Prop} {j : Nat} {K : Act -> World -> Prop} {a : Act} {w : World} : wpOp P (addL i k l).toArray Q j K a w ↔ wpOp P l.toArray Q j K a w := by
 have hb : ∀ g : Nat, ((addL i k l)[g]?).bind (fun x => x.dst) = (l[g]?).bind fun x => x.dst := fun g => by
  rw [addL_get]
  by_cases h : g = k
  ·rw [if_pos h]; cases l[g]? <;> rfl
  ·rw [if_neg h]
 have hy : yielded (addL i k l).toArray a.tmps = yielded l.toArray a.tmps := by
  funext g
  unfold yielded
  simp only [List.getElem?_toArray, hb]
 unfold wpOp
 rw [hy]
 simp only [List.getElem?_toArray, addL_get]
 by_cases hjk : j = k
 ·rw [if_pos hjk]
  cases hj : l[j]? with
  | none => exact Iff.rfl
  | some o => exact Iff.rfl
 ·rw [if_neg hjk]
def apartL (ops : Array Oper) (i : Nat) : Bool := (List.range ops.size).all fun j => j == i || match ops[i]?, ops[j]? with
 | some oi, some oj => oi.after.any (fun e => Region.binds .any e && e.on == j) || (oj.after.any (fun e => Region.binds .any e && e.on == i) || oi.apart ops oj)
 | _, _ => true
def lateB (ops : Array Oper) (i k : Nat) : Bool := noSel ops && apartL ops i && i != k && match ops[i]?, ops[k]? with
 | some oi, some ok => (match oi with
  | ⟨some _, .extract _ _, _, _, _, none⟩ => true
  | _ => false) && oi.after.all fun e => !Region.binds .any e || ok.after.any fun e' => Region.binds .any e' && e'.on == e.on
 | _, _ => false
theorem wpAny_late {Q : Exit -> Act -> World -> Prop} (hQ : ∀ ex a w, Q ex a w -> ex = .normal) (hB : lateB l.toArray i k = true) :
  ∀ (f : Nat) (listed : Array Bool) (a : Act) (w : World), listed.size = l.length -> wpAny P .any (addL i k l).toArray Q f listed a w -> wpAny P .any l.toArray Q f listed a w := by
 simp only [lateB, Bool.and_eq_true, bne_iff_ne, ne_eq] at hB
 obtain ⟨⟨⟨hsel, hap⟩, hik⟩, h4⟩ := hB
 split at h4
 rotate_left
 ·cases h4
 rename_i oi ok hoi hok
 simp only [Bool.and_eq_true] at h4
 obtain ⟨h5, h6⟩ := h4
 have hpre : ∀ e ∈ oi.after, Region.binds .any e = true -> ∃ e' ∈ ok.after, Region.binds .any e' = true ∧ e'.on = e.on := fun e he hb => by
  have := Array.all_eq_true_iff_forall_mem.1 h6 e he
  simp only [hb, Bool.not_true, Bool.false_or, Array.any_eq_true', Bool.and_eq_true, beq_iff_eq] at this
  obtain ⟨e', q1, q2, q3⟩ := this
  exact ⟨e', q1, q2, q3⟩
 have hrdy : ∀ (listed : Array Bool) (j : Nat), j ∈ Region.ready .any (addL i k l).toArray listed ↔ j ∈ Region.ready .any l.toArray listed ∧ (j = k -> listed.getD i false = true) := fun listed j => by
  rw [mem_ready, mem_ready]
  simp only [List.getElem?_toArray, addL_get]
  by_cases hj : j = k
  ·subst hj
   simp only [if_true, true_implies]
   constructor
   ·rintro ⟨q1, o, q2, q3⟩
    cases hl : l[j]? with
    | none => rw [hl] at q2; cases q2
    | some o' =>
     rw [hl] at q2
     injection q2 with q2
     subst q2
     exact ⟨⟨q1, o', rfl, fun e he hb => q3 e (by simp [he]) hb⟩, q3 ⟨i, .data⟩ (by simp) rfl⟩
   ·rintro ⟨⟨q1, o, q2, q3⟩, q4⟩
    refine ⟨q1, _, by rw [q2]; rfl, fun e he hb => ?_⟩
    rcases Array.mem_push.1 he with he | he
    ·exact q3 e he hb
    ·subst he; exact q4
  ·simp [hj]
 have hun : ∀ (listed : Array Bool), listed.size = l.length -> k ∈ Region.ready .any l.toArray listed -> i ∈ Region.ready .any l.toArray listed ∨ listed.getD i false = true := fun listed hs hk => by
  by_cases h : listed.getD i false = true
  ·exact .inr h
  ·left
   rw [mem_ready] at hk ⊢
   obtain ⟨_, o, q2, q3⟩ := hk
   have : o = ok := by rw [hok] at q2; injection q2 with q2; exact q2.symm
   subst this
   have hlt : i < l.length := by have := (Array.getElem?_eq_some_iff.1 hoi).1; simpa using this
   refine ⟨?_, oi, hoi, fun e he hb => ?_⟩
   ·have hl : i < listed.size := by omega
    rw [getD_ftt hl]
    simpa using h
   ·obtain ⟨e', r1, r2, r3⟩ := hpre e he hb
    rw [<- r3]
    exact q3 e' r1 r2
 have hap' := hap
 intro f
 induction f with
 | zero =>
  intro listed a w hs h
  refine ⟨?_, h.2⟩
  by_cases hk : k ∈ Region.ready .any l.toArray listed
  ·rcases hun listed hs hk with h1 | h1
   ·have := (hrdy listed i).2 ⟨h1, fun e => absurd e hik⟩
    rw [h.1] at this
    cases this
   ·have := (hrdy listed k).2 ⟨hk, fun _ => h1⟩
    rw [h.1] at this
    cases this
  ·refine List.eq_nil_iff_forall_not_mem.2 fun j hj => ?_
   have := (hrdy listed j).2 ⟨hj, fun e => absurd (e ▸ hj) hk⟩
   rw [h.1] at this
   cases this
 | succ f ih =>
  intro listed a w hs h
  by_cases hi : i ∈ Region.ready .any l.toArray listed
  ·have h1 := h.2 i ((hrdy listed i).2 ⟨hi, fun e => absurd e hik⟩)
   rw [wpOp_addL] at h1
   have h1' : ∃ v, Yields P l.toArray oi v a ∧ wpAny P .any (addL i k l).toArray Q f (listed.setIfInBounds i true) (a.put oi.dst v) w := by
    unfold wpOp at h1
    simp only [hoi] at h1
    split at h5
    rotate_left
    ·cases h5
    rename_i d x n ty pos af
    have hw : Region.wanted ⟨some d, .extract x n, ty, pos, af, none⟩ (yielded l.toArray a.tmps) = true := by simp [Region.wanted]
    rw [if_pos hw] at h1
    rcases h1 with h1 | ⟨_, b, w', h1⟩
    rotate_left
    ·have := hQ _ _ _ h1; cases this
    unfold Oper.wp at h1
    cases hx : a.eval x with
    | tuple vs =>
     cases hv : vs[n]? with
     | some v =>
      have hrun : ∀ w', (execOp a.eval ⟨some d, .extract x n, ty, pos, af, none⟩).run P w' = .ok (.value v) w' := fun w' => by
       simp [execOp, Instr.extract, hx, hv]
      rw [hrun, Oper.upon_value] at h1
      exact ⟨v, .inl ⟨hw, hrun⟩, h1⟩
     | none =>
      simp [execOp, Instr.extract, hx, hv, stuck, Oper.upon] at h1
    | _ => simp [execOp, Instr.extract, hx, stuck, Oper.upon] at h1
   obtain ⟨v, hv, h2⟩ := h1'
   refine wpAny_first (oi := oi) (v := v) hoi (fun j oj cs b hj hsl => ?_) (fun c a w hq => ?_) f listed a w (fun j oj hj hne hl hno => ?_) hi hv (ih _ _ _ (by simpa using hs) h2)
   ·have := List.all_eq_true.1 hsel oj (List.mem_of_getElem? (by simpa using hj))
    rw [hsl] at this
    cases this
   ·have := hQ _ _ _ hq; cases this
   ·have hjs := (Array.getElem?_eq_some_iff.1 hj).1
    have := List.all_eq_true.1 hap j (List.mem_range.2 hjs)
    simp only [hoi, hj, Bool.or_eq_true, beq_iff_eq, List.any_eq_true, Array.any_eq_true', Bool.and_eq_true] at this
    rcases this with h1 | h1 | h1 | h1
    ·exact absurd h1 hne
    ·obtain ⟨ed, h2, h3, h4⟩ := h1
     obtain ⟨_, o, q2, q3⟩ := mem_ready.1 hi
     rw [hoi] at q2
     injection q2 with q2
     subst q2
     have q4 := q3 ed h2 h3
     rw [h4, <- getD_ftt (by simpa [hs] using hjs)] at q4
     rw [hl] at q4
     cases q4
    ·obtain ⟨ed, h2, h3, h4⟩ := h1
     exact absurd h4 (hno ed h2 h3)
    ·exact h1
  ·refine ⟨fun h0 => h.1 ?_, fun j hj => ?_⟩
   ·refine List.eq_nil_iff_forall_not_mem.2 fun j hj => ?_
    have := ((hrdy listed j).1 hj).1
    rw [h0] at this
    cases this
   ·have hj' : j ∈ Region.ready .any (addL i k l).toArray listed := (hrdy listed j).2 ⟨hj, fun e => by
     subst e
     rcases hun listed hs hj with h1 | h1
     ·exact absurd h1 hi
     ·exact h1⟩
    have h1 := h.2 j hj'
    rw [wpOp_addL] at h1
    exact wpOp_mono (fun a w h => ih _ a w (by simpa using hs) h) h1
end
section
variable {e : Env} {K : St -> Prop} {mask : Nat} {Q : PX -> St -> Prop} {s : List (Nat × A)} {m : List (Nat × Bk)}
theorem anyOk_late {l : List Oper} {i k : Nat} {σ : St} (hB : lateB l.toArray i k = true) (h : AnyOk e (addL i k l).toArray K l.length (Array.replicate l.length false) σ) : AnyOk e l.toArray K l.length (Array.replicate l.length false) σ := by
 intro he U w0 S0 nt a w hd hs
 refine wpAny_late (fun ex a w hq => hq.1) hB _ _ _ _ (by simp) (h he U w0 S0 nt a w (fun o ho d hdd => ?_) hs)
 have : some d ∈ (addL i k l).map (·.dst) := List.mem_map.2 ⟨o, by simpa using ho, hdd⟩
 rw [addL_dst] at this
 obtain ⟨o', h1, h2⟩ := List.mem_map.1 this
 exact hd o' (by simpa using h1) d h2
theorem anyOk_drawA {l : List Oper} {p : Nat} {σ : St} (hAl : isAllocB l.toArray p = true) (hB : regB l.toArray (p + 1) = true) (hp : Runs e (l.map (·.dst)) (p + 1) l σ K) : AnyOk e l.toArray K l.length (Array.replicate l.length false) σ := by
 intro he U w0 S0 nt a w hd hs
 have := region_drawA_any (ops := l.toArray) he hAl hB (K := K) (Q := QN e U w0 S0 nt K) (fun a w σ' hK hs' => ⟨rfl, σ', hK, hs'⟩) hd hs (by simpa using hp)
 simpa using this
theorem gLt {id : Nat} {l l' : List Oper} {ds : List (Option Nat)} (p i k : Nat) (hK : Runs e ds (p + 1) l' ⟨s, m⟩ (TrimK mask Q)) (hl : addL i k l = l' := by simp only [addL]; exact rfl) (hds : l'.map (·.dst) = ds := by simp only [List.map_cons, List.map_nil]; exact rfl) (hc : lateB l.toArray i k = true := by decide +kernel) (hA : isAllocB l'.toArray p = true := by decide +kernel) (hr : regB l'.toArray (p + 1) = true := by decide +kernel) : pwp e mask (.region id l.toArray true) ⟨s, m⟩ Q := by
 subst hl hds
 have h1 := anyOk_late hc (by have := anyOk_drawA hA hr hK; rwa [addL_len] at this)
 exact pwp_anyOk (ops := l.toArray) (by simpa using h1)
end
end Go.Proofs.YtohilkmdjdfljaaGreat
namespace Go.Proofs.YtohilkmdjdfljaaGreat
open Go.RowKit
theorem con_treeF {e : Env} {f : FuncId} {args : List D} {row : List C} {b : Bool} (h : ConP e f args [] (RTreeF row b)) : Con e f args [.agg row, .one (.lit (.bool b))] := by
 refine ⟨h.1, fun w S vs hS hE hG hv => (h.2 w S vs hS hE hG (fun x hx => by cases hx) trivial hv).mono ?_⟩
 rintro en w' ⟨v, r, pm', h1, ⟨us, E, rfl, hl, hok, rfl⟩, h3, h4, h5, h6, h7⟩
 obtain ⟨⟨q1, q2, q3⟩, p2⟩ := h5 _ List.mem_cons_self
 obtain ⟨vs', hvs, hd⟩ := h7
 match vs', hd with
 | [u0, u1], ⟨⟨us0, hu0, hr⟩, hb, _⟩ =>
  have e1 := RepVals_lits_inv hr
  subst e1
  refine ⟨v, h1, h3.noPin, h4, [u0, u1], hvs, ⟨us0, hu0, OwnVals.rep _ _ _ _ (fun g hg => .inr ⟨?_, (q1 g hg).1⟩) q2⟩, hb, trivial⟩
  exact (p2 g hg).elim (fun ⟨x, hx, _⟩ => by cases hx) id
end Go.Proofs.YtohilkmdjdfljaaGreat
namespace Go.Proofs.YtohilkmdjdfljaaGreat
open Go.RowKit
def MarkS (f : FuncId) (rows : List (List C)) : Prop := ∀ (k : Int) (E : Nat -> Prop) (v : Value), 0 <= k -> k + cntRows rows <= 1000000000 -> ConP e0 f [.one (.lit v), .one (.lit (.int .i64 k))] [.set E (fun w => Own w (.sl rows) E v)] (fun r pm => ∃ E', r = [.one (.lit (.int .i64 (k + cntRows rows)))] ∧ pm = [.set E' (fun w => Own w (.sl (mkRows k rows)) E' v)])
theorem okRows.rowsLen {fs : List F} {rows : List (List C)} (h : okRows fs rows) : rowsLen fs.length rows := fun r hr => by
 obtain ⟨i, hi⟩ := List.getElem?_of_mem hr
 exact ⟨(h.get hi).len, (h.get hi).cells⟩
theorem mkRows_nil (k : Int) : mkRows k [] = [] := by simp only [mkRows]
theorem cnt_nil : cntRows [] = 0 := by simp only [cntRows]
theorem set_get {α : Type} {l : List α} {i : Nat} (h : i < l.length) (x : α) : (l.set i x)[i]? = some x := by simp [h]
theorem set_len {α : Type} (l : List α) (i : Nat) (x : α) : (l.set i x).length = l.length := List.length_set
theorem set_set' {α : Type} (l : List α) (i : Nat) (x y : α) : (l.set i x).set i y = l.set i y := List.set_set ..
theorem set_take {α : Type} {l : List α} {i : Nat} {x : α} (h : i < l.length) : (l.set i x).take (i + 1) = l.take i ++ [x] := by
 rw [tk_snoc (x := x) (by simp [h]), List.take_set_of_le (Nat.le_refl _)]
theorem set_drop {α : Type} (l : List α) (i : Nat) (x : α) : (l.set i x).drop (i + 1) = l.drop (i + 1) := List.drop_set_of_lt (by omega)
set_option maxHeartbeats 8000000 in
set_option maxRecDepth 100000 in
theorem mark_TermS (rows : List (List C)) (hok : okRows (fieldsOf .term) rows) (h : ∀ r ∈ rows, ∀ i0 t1 i2 r3, r = [.lit (.int .i64 i0), .lit (.string t1), .lit (.int .i64 i2), .sl r3] -> MarkS 58 r3) : MarkS 58 rows := by
 intro k E v hk hb
 refine gIP (ts := [.slot 4]) [1000] 563 Tryz.func58 ?_
 (have F := @e0P; refine gG ?_; clear F)
 by_cases hne : rows = []
 ·subst hne
  refine pEx [1000] [1000] fd_nil ?_
  rintro ⟨a, cap⟩ rfl
  (have F := @hk; refine gL (ι := Unit) [1, 5, 9] [] (fun x => [(5, .d (.one (.lit (.int .i64 0)))), (1, .d (.one (.lit (.int .i64 k))))]) (fun x => []) (fun x => True) (fun x => 0) (()) (trivial) (fun x hx => ?_); clear F)
  have q1 : ((0 : Int) < 0) = False := eq_false (by decide)
  have q2 : ((0 : Int) < ((0 : Nat) : Int)) = False := eq_false (by decide)
  (have F := ai @q1 @q2; refine gG ?_; clear F)
  have F := hk
  refine gTP (R := fun r pm => ∃ E', r = [.one (.lit (.int .i64 (k + (cntRows [] : Nat))))] ∧ pm = [.set E' (fun w => Own w (.sl (mkRows k [])) E' (.slice a 0 cap))]) [1000] ⟨E, by simp only [cntRows, Int.natCast_zero, Int.add_zero]; rfl, by simp only [mkRows]; rfl⟩
 ·have hrl : rowsLen 4 rows := okRows.rowsLen hok
  refine pEx [1000] [1000, 1001] (fd_open hne hrl) ?_
  rintro ⟨a, cap, ety, uss, E1⟩ ⟨rfl, hl, hmx⟩
  simp only at hl ⊢
  unfold maxLen at hmx
  refine pE [] [1002] re_none ?_
  (have F := ai @mkRows_nil (ai @cnt_nil (ai @Int.add_zero @Int.natCast_zero)); refine gL (ι := Nat × List (List Value) × (Nat -> Prop) × (Nat -> Prop)) [1, 5, 9] [1000, 1001, 1002] (fun x => [(5, .d (.one (.lit (.int .i64 (x.1 : Int))))), (1, .d (.one (.lit (.int .i64 (k + (cntRows (rows.take x.1) : Nat))))))]) (fun x => [(1000, .buf (some (a, cap)) ety 4 (x.2.1.map litRow)), (1001, .set x.2.2.1 (fun w => OwnVs w (rows.drop x.1) x.2.2.1 (x.2.1.drop x.1))), (1002, .set x.2.2.2 (fun w => OwnVs w (mkRows k (rows.take x.1)) x.2.2.2 (x.2.1.take x.1)))]) (fun x => x.1 <= rows.length ∧ x.2.1.length = rows.length) (fun x => rows.length - x.1) ((0, uss, E1, fun _ => False)) (⟨Nat.zero_le _, hl⟩) (fun x hx => ?_); clear F)
  obtain ⟨i, us, E2, E3⟩ := x
  obtain ⟨hi, hn⟩ := hx
  simp only at hi hn
  dsimp only
  by_cases hlt : i < rows.length
  ·obtain ⟨r, hr⟩ : ∃ r, rows[i]? = some r := ⟨_, List.getElem?_eq_getElem hlt⟩
   obtain ⟨u, hu⟩ : ∃ u, us[i]? = some u := ⟨_, List.getElem?_eq_getElem (by omega)⟩
   obtain ⟨i0, t1, i2, r3, rfl, _, _, _, g3⟩ := okRow_Term (hok.get hr)
   have hm := h _ (List.mem_of_getElem? hr) i0 t1 i2 r3 rfl
   have hc1 : cntRows (rows.take (i + 1)) = cntRows (rows.take i) + (3 + cntRows r3) := by
    rw [tk_snoc hr, cnt_snoc]; simp only [cntRow, cntC]; omega
   have hc2 := cnt_take_le rows (i + 1)
   rw [drop_get hr, drop_get hu]
   refine pEx [1001] [1001] (fd_lits rfl) ?_
   rintro ⟨⟩ hlit
   obtain ⟨u3, rfl⟩ : ∃ u3, u = [.int .i64 i0, .string t1, .int .i64 i2, u3] := by
    match u, hlit with
    | [_, _, _, u3], ⟨rfl, rfl, rfl, _⟩ => exact ⟨u3, rfl⟩
   refine pEx (f := fun (x : (Nat -> Prop) × (Nat -> Nat -> Prop)) => [.set x.1 (fun w => OwnVs w (rows.drop (i + 1)) x.1 (us.drop (i + 1))), .set (x.2 0) (fun w => Own w (.sl r3) (x.2 0) u3)]) [1001] [1001, 1003] (fd_row rfl) ?_
   rintro ⟨E4, Es⟩ -
   dsimp only
   generalize hkk : k + (cntRows (rows.take i) : Int) = kk
   have q1 : ((i : Int) < (rows.length : Int)) = True := eq_true (by omega)
   have q2 : i < rows.length := hlt
   have hs : ∀ X : List C, ((us.map litRow).set i X)[i]? = some X := fun X => set_get (by rw [len_lits, hn]; omega) X
   have w1 : IntKind.i64.wrap (kk + 1) = kk + 1 := IntWalk.i64_in _ (by omega)
   have w2 : IntKind.i64.wrap (kk + 1 + 1) = kk + 1 + 1 := IntWalk.i64_in _ (by omega)
   have w3 : IntKind.i64.wrap (kk + 1 + 1 + 1) = kk + 1 + 1 + 1 := IntWalk.i64_in _ (by omega)
   have w4 : IntKind.i64.wrap ((i : Int) + 1) = (i : Int) + 1 := IntWalk.i64_in _ (by omega)
   (have F := ai @q1 (ai @hl (ai @hn (ai @hu (ai @litRow4 (ai @len_lits (ai @set_len (ai @hs (ai @w1 (ai @w2 (ai @w3 (ai @q2 @set_set'))))))))))); refine gG ?_; clear F)
   refine gB ?_
   (have F := @q1; refine gC (con_markText (kk + 1) (by omega) (by omega)) ?_; clear F)
   (have F := ai @hl (ai @hn (ai @hu (ai @litRow4 (ai @len_lits (ai @set_len (ai @hs (ai @q2 @set_set'))))))); refine gR ?_; clear F)
   (have F := ai @q1 (ai @hl (ai @hn (ai @hu (ai @litRow4 (ai @len_lits (ai @set_len (ai @hs (ai @w1 (ai @w2 (ai @w3 (ai @q2 @set_set'))))))))))); refine gG ?_; clear F)
   refine gB ?_
   (have F := ai @q1 (ai @hl (ai @hn (ai @hu (ai @litRow4 (ai @len_lits (ai @set_len (ai @hs (ai @w1 (ai @w2 (ai @w3 (ai @q2 @set_set'))))))))))); refine gCP [1003] [1003] (hm (kk + 1 + 1 + 1) (Es 0) u3 (by omega) (by omega)) ?_; clear F)
   rintro r pm ⟨E5, rfl, rfl⟩
   simp only [setA, retA, zipM, List.cons_append, List.nil_append]
   (have F := @q1; refine gR ?_; clear F)
   obtain ⟨E6, hre⟩ : ∃ E6, Retold [.set E3 (fun w => OwnVs w (mkRows k (rows.take i)) E3 (us.take i)), .set E5 (fun w => Own w (.sl (mkRows (kk + 1 + 1 + 1) r3)) E5 u3)] [.set E6 (fun w => OwnVs w (mkRows k (rows.take (i + 1))) E6 ((us.set i [.int .i64 kk, .string (txt (kk + 1)), .int .i64 (kk + 1 + 1), u3]).take (i + 1)))] := by
    have hz := re_row (E := E3) (done := mkRows k (rows.take i)) (ud := us.take i) (cs := [.lit (.int .i64 kk), .lit (.string (txt (kk + 1))), .lit (.int .i64 (kk + 1 + 1)), .sl (mkRows (kk + 1 + 1 + 1) r3)]) (us := [.int .i64 kk, .string (txt (kk + 1)), .int .i64 (kk + 1 + 1), u3]) (Es := fun _ => E5) rfl ⟨rfl, rfl, rfl, trivial⟩
    rw [tk_snoc hr, mkRows_snoc, hkk, set_take (by omega)]
    simp only [mkRow, mkC, mkV, cntC, Int.natCast_one]
    exact ⟨_, hz⟩
   refine pE [1002, 1003] [1002] hre ?_
   have e1 : ((us.set i [.int .i64 kk, .string (txt (kk + 1)), .int .i64 (kk + 1 + 1), u3]).map litRow) = (us.map litRow).set i [.lit (.int .i64 kk), .lit (.string (txt (kk + 1))), .lit (.int .i64 (kk + 1 + 1)), .lit u3] := by rw [List.map_set, litRow4]
   have e2 := set_drop us i [.int .i64 kk, .string (txt (kk + 1)), .int .i64 (kk + 1 + 1), u3]
   have e5 : k + (cntRows (rows.take (i + 1)) : Int) = kk + 1 + 1 + 1 + (cntRows r3 : Int) := by rw [hc1]; omega
   have hn2 : (us.set i [.int .i64 kk, .string (txt (kk + 1)), .int .i64 (kk + 1 + 1), u3]).length = rows.length := by rw [set_len, hn]
   generalize us.set i [.int .i64 kk, .string (txt (kk + 1)), .int .i64 (kk + 1 + 1), u3] = us2 at e1 e2 hn2 ⊢
   rw [<- e1, <- e2]
   (have F := ai @w4 (ai @e5 @hl); refine gG ?_; exact ⟨(i + 1, us2, E4, E6), ⟨hlt, hn2⟩, gw, gw, by omega⟩)
  ·obtain rfl : i = rows.length := by omega
   have q1 : ((rows.length : Int) < (rows.length : Int)) = False := eq_false (by omega)
   rw [List.take_length, List.take_of_length_le (Nat.le_of_eq hn)]
   (have F := ai @q1 (ai @hl @hn); refine gG ?_; clear F)
   obtain ⟨E6, hre⟩ : ∃ E6, Retold [.buf (some (a, cap)) ety 4 (us.map litRow), .set E3 (fun w => OwnVs w (mkRows k rows) E3 us)] [.set E6 (fun w => Own w (.sl (mkRows k rows)) E6 (.slice a uss.length cap))] := by
    rw [hl, <- hn]
    exact ⟨_, re_close (fun w h => h) (Own.stable _ _ _)⟩
   refine pE [1000, 1002] [1000] hre ?_
   have F := hk
   exact gTP (R := fun r pm => ∃ E', r = [.one (.lit (.int .i64 (k + (cntRows rows : Nat))))] ∧ pm = [.set E' (fun w => Own w (.sl (mkRows k rows)) E' (.slice a uss.length cap))]) [1000] ⟨E6, rfl, rfl⟩
theorem markTermS_n (n : Nat) : ∀ rows, nodesRows rows < n -> okRows (fieldsOf .term) rows -> MarkS 58 rows := by
 induction n with
 | zero => exact fun _ h => by omega
 | succ n ih =>
  intro rows hn hok
  refine mark_TermS rows hok fun r hr i0 t1 i2 r3 he => ?_
  subst he
  obtain ⟨i, hi⟩ := List.getElem?_of_mem hr
  have h1 := nodes_get hi
  obtain ⟨_, _, _, _, he, _, _, _, g3⟩ := okRow_Term (hok.get hi)
  injection he with _ he; injection he with _ he; injection he with _ he; injection he with he _; injection he with he; subst he
  simp only [nodesRow, nodesC] at h1
  exact ih _ (by omega) g3
theorem markTermS_all {rows : List (List C)} (hok : okRows (fieldsOf .term) rows) : MarkS 58 rows := markTermS_n _ rows (Nat.lt_succ_self _) hok
def mkTop : Int -> List C -> List C
 | _, [] => []
 | k, .sl rows :: cs => .sl (mkRows k rows) :: mkTop (k + cntRows rows) cs
 | k, c :: cs => c :: mkTop k cs
def cntTop : List C -> Nat
 | [] => 0
 | .sl rows :: cs => cntRows rows + cntTop cs
 | _ :: cs => cntTop cs
def MarkV (f : FuncId) (row : List C) : Prop := ∀ (k : Int) (E : Nat -> Prop) (us : List Value), us.length = row.length -> (litRow us).all okCell = true -> 0 <= k -> k + cntTop row <= 1000000000 -> ConP e0 f [.agg (litRow us), .one (.lit (.int .i64 k))] [.set E (fun w => OwnVals w row E us)] (fun r pm => ∃ E', r = [.one (.lit (.int .i64 (k + cntTop row)))] ∧ pm = [.set E' (fun w => OwnVals w (mkTop k row) E' us)])
theorem fd_vals {E : Nat -> Prop} {r : List C} {us : List Value} (hp : r.all plainC = true) : Found (ι := Unit) [.set E (fun w => OwnVals w r E us)] (fun _ => litsOk r us) (fun _ => [.set E (fun w => OwnVals w r E us)]) := fun w S h ha => by
 obtain ⟨h1, h2, h3⟩ : (∀ b, E b -> b < w.heap.size ∧ ¬ S b) ∧ OwnVals w r E us ∧ _ := h (.set E (fun w => OwnVals w r E us)) (by simp)
 obtain ⟨Es, hl, _⟩ := cells_of (S := S) hp h2 h1
 exact ⟨(), hl, h, ha, fun _ h => h⟩
theorem fd_cells {E : Nat -> Prop} {r : List C} {us : List Value} (hp : r.all plainC = true) : Found (ι := Nat -> Nat -> Prop) [.set E (fun w => OwnVals w r E us)] (fun _ => True) (fun i => cellSets r us i) := fun w S h ha => by
 obtain ⟨h1, h2, h3⟩ : (∀ b, E b -> b < w.heap.size ∧ ¬ S b) ∧ OwnVals w r E us ∧ _ := h (.set E (fun w => OwnVals w r E us)) (by simp)
 obtain ⟨Es, hl, q1, q2, q3⟩ := cells_of (S := S) hp h2 h1
 exact ⟨Es, trivial, q1, q2, fun g hg => ⟨_, List.mem_cons_self, q3 g hg⟩⟩
theorem re_cells {cs : List C} {us : List Value} {Es : Nat -> Nat -> Prop} (hp : cs.all plainC = true) (hl : litsOk cs us) : Retold (cellSets cs us Es) [.set (pblks (cellSets cs us Es)) (fun w => OwnVals w cs (pblks (cellSets cs us Es)) us)] := fun w S h ha => by
 have hv := OwnVals.of_cells (w := w) (S := S) hp hl h ha
 refine ⟨fun x hx => ?_, apart_1 _, fun g ⟨x, hx, hg⟩ => ?_⟩
 ·simp only [List.mem_cons, List.not_mem_nil, or_false] at hx
  subst hx
  refine ⟨fun b ⟨y, hy, hg⟩ => ?_, hv, OwnVals.stable _ _ _⟩
  obtain ⟨E', G', rfl⟩ := cellSets_set y hy
  exact (h _ hy).1 b hg
 ·simp only [List.mem_cons, List.not_mem_nil, or_false] at hx
  subst hx
  exact hg
set_option maxHeartbeats 8000000 in
theorem markTerm_all {row : List C} (hok : okRow (fieldsOf .term) row) : MarkV 18 row := by
 obtain ⟨i0, t1, i2, r3, rfl, _, _, _, g3⟩ := okRow_Term hok
 intro k E us hl hc hk hb
 obtain ⟨u0, u1, u2, u3, rfl⟩ := len4 hl
 obtain ⟨k0, k1, k2, k3⟩ := okc4 hc
 simp only [cntTop, Nat.add_zero] at hb ⊢
 rw [litRow4]
 refine gIP (ts := [.slot 4]) [1000] 23 Tryz.func18 ?_
 refine pEx [1000] [1000] (fd_vals rfl) ?_
 rintro ⟨⟩ ⟨rfl, rfl, rfl, _⟩
 refine pEx (f := fun (x : Nat -> Nat -> Prop) => [.set (x 0) (fun w => Own w (.sl r3) (x 0) u3)]) [1000] [1000] (fd_cells rfl) ?_
 rintro Es -
 (have F := ai @k0 (ai @k1 (ai @k2 @k3)); refine gG ?_; clear F)
 refine gB ?_
 (have F := ai @k0 (ai @k1 (ai @k2 @k3)); refine gCP [1000] [1000] (markTermS_all g3 k (Es 0) u3 hk hb) ?_; clear F)
 rintro r pm ⟨E5, rfl, rfl⟩
 simp only [setA, retA, zipM, List.cons_append, List.nil_append]
 (have F := ai @k0 (ai @k1 (ai @k2 @k3)); refine gR ?_; clear F)
 (have F := ai @k0 (ai @k1 (ai @k2 @k3)); refine gG ?_; clear F)
 obtain ⟨E6, hre⟩ : ∃ E6, Retold [.set E5 (fun w => Own w (.sl (mkRows k r3)) E5 u3)] [.set E6 (fun w => OwnVals w [.lit (.int .i64 i0), .lit (.string t1), .lit (.int .i64 i2), .sl (mkRows k r3)] E6 [.int .i64 i0, .string t1, .int .i64 i2, u3])] :=
  ⟨_, re_cells (cs := [.lit (.int .i64 i0), .lit (.string t1), .lit (.int .i64 i2), .sl (mkRows k r3)]) (us := [.int .i64 i0, .string t1, .int .i64 i2, u3]) (Es := fun _ => E5) rfl ⟨rfl, rfl, rfl, trivial⟩⟩
 refine pE [1000] [1000] hre ?_
 have F := hk
 exact gTP (R := fun r pm => ∃ E', r = [.one (.lit (.int .i64 (k + (cntRows r3 : Nat))))] ∧ pm = [.set E' (fun w => OwnVals w (mkTop k [.lit (.int .i64 i0), .lit (.string t1), .lit (.int .i64 i2), .sl r3]) E' [.int .i64 i0, .string t1, .int .i64 i2, u3])]) [1000] ⟨E6, rfl, by simp only [mkTop]; rfl⟩
end Go.Proofs.YtohilkmdjdfljaaGreat
namespace Go.Proofs.YtohilkmdjdfljaaGreat
open Go.RowKit
def HeldS (f : FuncId) (rows : List (List C)) : Prop := ∀ (k : Int), 0 <= k -> k + cntRows rows <= 1000000000 -> Con e0 f [.one (.sl (mkRows k rows)), .one (.lit (.int .i64 k))] [.one (.lit (.int .i64 (k + cntRows rows)))]
theorem mkRows_get : ∀ {rows : List (List C)} {i : Nat} {r : List C} (k : Int), rows[i]? = some r -> (mkRows k rows)[i]? = some (mkRow (k + cntRows (rows.take i)) r)
 | q :: rows, 0, r, k, h => by simp at h; subst h; simp [mkRows, cntRows]
 | q :: rows, i + 1, r, k, h => by
  simp only [List.getElem?_cons_succ] at h
  simp only [mkRows, List.getElem?_cons_succ, List.take_succ_cons, cntRows]
  rw [mkRows_get _ h]
  congr 2
  omega
 | [], _, _, _, h => by simp at h
theorem mkV_ok {v : Value} {k : Int} (h : okCell (.lit v) = true) : okCell (.lit (mkV k v)) = true := by
 cases v <;> first | rfl | exact h
theorem mkRow_cells : ∀ (cs : List C) (k : Int), cs.all okCell = true -> (mkRow k cs).all okCell = true
 | [], _, _ => by simp [mkRow]
 | c :: cs, k, h => by
  simp only [List.all_cons, Bool.and_eq_true] at h
  simp only [mkRow, List.all_cons, Bool.and_eq_true]
  refine ⟨?_, mkRow_cells cs _ h.2⟩
  cases c with
  | lit v => simp only [mkC]; exact mkV_ok h.1
  | _ => simp [mkC, okCell]
theorem rb_mk {n : Nat} : ∀ {rows : List (List C)} (k : Int), rowsLen n rows -> rowsB n (mkRows k rows) = true
 | [], k, _ => by simp [mkRows, rowsB]
 | r :: rows, k, h => by
  have h1 := h r List.mem_cons_self
  have h2 := rb_mk (k + cntRow r) (fun x hx => h x (List.mem_cons_of_mem _ hx) : rowsLen n rows)
  unfold rowsB at h2 ⊢
  simp only [mkRows, List.all_cons, Bool.and_eq_true]
  exact ⟨⟨by rw [mkRow_len, h1.1]; exact beq_self_eq_true n, mkRow_cells _ _ h1.2⟩, h2⟩
set_option maxHeartbeats 8000000 in
set_option maxRecDepth 100000 in
theorem held_TermS (rows : List (List C)) (hok : okRows (fieldsOf .term) rows) (hmx : rows.length <= 1048576) (h : ∀ r ∈ rows, ∀ i0 t1 i2 r3, r = [.lit (.int .i64 i0), .lit (.string t1), .lit (.int .i64 i2), .sl r3] -> HeldS 61 r3) : HeldS 61 rows := by
 intro k hk hb
 have hrb : rowsB 4 (mkRows k rows) = true := rb_mk k hok.rowsLen
 have hml := mkRows_len k rows
 refine gI (ts := [.slot 4]) 281612684362291 Tryz.func61 ?_
 (have F := @e0P; refine gG ?_; clear F)
 (have F := ai @mkRows_nil (ai @cnt_nil (ai @Int.add_zero @Int.natCast_zero)); refine gL (ι := Nat) [1, 4, 5, 9, 18, 28, 37, 48] [] (fun x => [(5, .d (.one (.lit (.int .i64 (x : Int))))), (1, .d (.one (.lit (.int .i64 (k + (cntRows (rows.take x) : Nat))))))]) (fun x => []) (fun x => x <= rows.length) (fun x => rows.length - x) (0) (Nat.zero_le _) (fun x hx => ?_); clear F)
 by_cases hlt : x < rows.length
 ·obtain ⟨r, hr⟩ : ∃ r, rows[x]? = some r := ⟨_, List.getElem?_eq_getElem hlt⟩
  obtain ⟨i0, t1, i2, r3, rfl, _, _, _, g3⟩ := okRow_Term (hok.get hr)
  have hm := h _ (List.mem_of_getElem? hr) i0 t1 i2 r3 rfl
  have hc1 : cntRows (rows.take (x + 1)) = cntRows (rows.take x) + (3 + cntRows r3) := by
   rw [tk_snoc hr, cnt_snoc]; simp only [cntRow, cntC]; omega
  have hc2 := cnt_take_le rows (x + 1)
  have hg := mkRows_get k hr
  simp only [mkRow, mkC, mkV, cntC, Int.natCast_one] at hg
  have e5 : k + (cntRows (rows.take (x + 1)) : Int) = k + (cntRows (rows.take x) : Int) + 1 + 1 + 1 + (cntRows r3 : Int) := by rw [hc1]; omega
  have b1 : k + (cntRows (rows.take x) : Int) + 3 + cntRows r3 <= 1000000000 := by omega
  have b0 : 0 <= k + (cntRows (rows.take x) : Int) := by omega
  generalize k + (cntRows (rows.take x) : Int) = kk at hg e5 b1 b0 ⊢
  have q1 : ((x : Int) < (rows.length : Int)) = True := eq_true (by omega)
  have w1 : IntKind.i64.wrap (kk + 1) = kk + 1 := IntWalk.i64_in _ (by omega)
  have w2 : IntKind.i64.wrap (kk + 1 + 1) = kk + 1 + 1 := IntWalk.i64_in _ (by omega)
  have w3 : IntKind.i64.wrap (kk + 1 + 1 + 1) = kk + 1 + 1 + 1 := IntWalk.i64_in _ (by omega)
  have w4 : IntKind.i64.wrap ((x : Int) + 1) = (x : Int) + 1 := IntWalk.i64_in _ (by omega)
  (have F := ai @q1 (ai @hml (ai @hrb (ai @hg (ai @beq_self_eq_true.{0} @w1)))); refine gG ?_; clear F)
  refine gB ?_
  (have F := ai @q1 (ai @hml (ai @hrb @hg)); refine gC (con_markText (kk + 1) (by omega) (by omega)) ?_; clear F)
  (have F := ai @q1 (ai @hml (ai @hrb (ai @hg @beq_self_eq_true.{0}))); refine gR ?_; clear F)
  (have F := ai @q1 (ai @hml (ai @hrb (ai @hg (ai @beq_self_eq_true.{0} (ai @w1 (ai @w2 @w3)))))); refine gG ?_; clear F)
  refine gB ?_
  (have F := ai @q1 (ai @hml (ai @hrb @hg)); refine gC (hm (kk + 1 + 1 + 1) (by omega) (by omega)) ?_; clear F)
  (have F := @q1; refine gR ?_; clear F)
  have q5 : (kk + 1 + 1 + 1 + (cntRows r3 : Int) < 0) = False := eq_false (by omega)
  (have F := ai @q5 (ai @w4 @e5); refine gG ?_; exact ⟨x + 1, hlt, gw, gw, by omega⟩)
 ·obtain rfl : x = rows.length := by omega
  have q1 : ((rows.length : Int) < (rows.length : Int)) = False := eq_false (by omega)
  rw [List.take_length]
  (have F := ai @q1 @hml; refine gG ?_; exact gTd)
theorem heldTermS_n (n : Nat) : ∀ rows, nodesRows rows < n -> okRows (fieldsOf .term) rows -> rows.length + bulkRows rows <= 1048576 -> HeldS 61 rows := by
 induction n with
 | zero => exact fun _ h => by omega
 | succ n ih =>
  intro rows hn hok hB
  refine held_TermS rows hok (by omega) fun r hr i0 t1 i2 r3 he => ?_
  subst he
  obtain ⟨i, hi⟩ := List.getElem?_of_mem hr
  have h1 := nodes_get hi
  have h2 := bulk_get hi
  obtain ⟨_, _, _, _, he, _, _, _, g3⟩ := okRow_Term (hok.get hi)
  injection he with _ he; injection he with _ he; injection he with _ he; injection he with he _; injection he with he; subst he
  simp only [nodesRow, nodesC] at h1
  simp only [bulkRow, bulkC] at h2
  exact ih _ (by omega) g3 (by omega)
theorem heldTermS_all {rows : List (List C)} (hok : okRows (fieldsOf .term) rows) (hB : rows.length + bulkRows rows <= 1048576) : HeldS 61 rows := heldTermS_n _ rows (Nat.lt_succ_self _) hok hB
theorem heldTerm_all {row : List C} (hok : okRow (fieldsOf .term) row) (hB : bulkRow row <= 1048576) (k : Int) (hk : 0 <= k) (hb : k + cntTop row <= 1000000000) : Con e0 20 [.agg (mkTop k row), .one (.lit (.int .i64 k))] [.one (.lit (.int .i64 (k + cntTop row)))] := by
 obtain ⟨i0, t1, i2, r3, rfl, _, _, _, g3⟩ := okRow_Term hok
 simp only [cntTop, Nat.add_zero] at hb ⊢
 simp only [bulkRow, bulkC] at hB
 simp only [mkTop]
 have q5 : (k + (cntRows r3 : Int) < 0) = False := eq_false (by omega)
 refine gI (ts := [.slot 4]) 1047 Tryz.func20 ?_
 (have F := @e0P; refine gG ?_; clear F)
 refine gB ?_
 (have F := @q5; refine gC (heldTermS_all g3 (by omega) k hk hb) ?_; clear F)
 (have F := @q5; refine gR ?_; clear F)
 (have F := @q5; refine gG ?_; exact gTd)
end Go.Proofs.YtohilkmdjdfljaaGreat
namespace Go.Proofs.YtohilkmdjdfljaaGreat
open Go.RowKit
theorem conP_toTerm {row : List C} (hok : okRow (fieldsOf .term) row) (hb : bulkRow row <= 1048576) : ConP e0 11 [.agg row] [] (RTree row) :=
 conP_tree (by kernel_rfl) hok.cells fun w S vs h => by
  match vs, h with
  | [v], h =>
   obtain ⟨⟨us, rfl, hu⟩, _⟩ := h
   exact toTerm_any row S us w hok hu hb
end Go.Proofs.YtohilkmdjdfljaaGreat
namespace Go.Proofs.YtohilkmdjdfljaaGreat
open Go.RowKit
theorem conP_toSignature {row : List C} (hok : okRow (sigF) row) (hb : bulkRow row <= 1048576) : ConP e0 10 [.agg row] [] (RTree row) :=
 conP_tree (by kernel_rfl) hok.cells fun w S vs h => by
  match vs, h with
  | [v], h =>
   obtain ⟨⟨us, rfl, hu⟩, _⟩ := h
   exact toSignature_any row S us w hok hu hb
end Go.Proofs.YtohilkmdjdfljaaGreat
namespace Go.Proofs.YtohilkmdjdfljaaGreat
open Go.RowKit
theorem conP_toOccurrence {row : List C} (hok : okRow occF row) (hb : bulkRow row <= 1048576) : ConP e0 12 [.agg row] [] (RTree row) :=
 conP_tree (by kernel_rfl) hok.cells fun w S vs h => by
  match vs, h with
  | [v], h =>
   obtain ⟨⟨us, rfl, hu⟩, _⟩ := h
   exact toOccurrence_any row S us w hok hu hb
end Go.Proofs.YtohilkmdjdfljaaGreat
namespace Go.Proofs.YtohilkmdjdfljaaGreat
open Go.RowKit
set_option maxHeartbeats 16000000 in
set_option maxRecDepth 100000 in
theorem mark_StringS_of {rows : List (List C)} (hok : okRows (fieldsOf .str) rows) : MarkS 30 rows := by
 intro k E v hk hb
 refine gIP (ts := [.slot 4]) [1000] 563 Tryz.func30 ?_
 (have F := @e0P; refine gG ?_; clear F)
 by_cases hne : rows = []
 ·subst hne
  refine pEx [1000] [1000] fd_nil ?_
  rintro ⟨a, cap⟩ rfl
  (have F := @hk; refine gL (ι := Unit) [1, 5, 9] [] (fun x => [(5, .d (.one (.lit (.int .i64 0)))), (1, .d (.one (.lit (.int .i64 k))))]) (fun x => []) (fun x => True) (fun x => 0) (()) (trivial) (fun x hx => ?_); clear F)
  have q1 : ((0 : Int) < 0) = False := eq_false (by decide)
  have q2 : ((0 : Int) < ((0 : Nat) : Int)) = False := eq_false (by decide)
  (have F := ai @q1 @q2; refine gG ?_; clear F)
  have F := hk
  refine gTP (R := fun r pm => ∃ E', r = [.one (.lit (.int .i64 (k + (cntRows [] : Nat))))] ∧ pm = [.set E' (fun w => Own w (.sl (mkRows k [])) E' (.slice a 0 cap))]) [1000] ⟨E, by simp only [cntRows, Int.natCast_zero, Int.add_zero]; rfl, by simp only [mkRows]; rfl⟩
 ·have hrl : rowsLen 1 rows := okRows.rowsLen hok
  refine pEx [1000] [1000, 1001] (fd_open hne hrl) ?_
  rintro ⟨a, cap, ety, uss, E1⟩ ⟨rfl, hl, hmx⟩
  simp only at hl ⊢
  unfold maxLen at hmx
  refine pE [] [1002] re_none ?_
  (have F := ai @mkRows_nil (ai @cnt_nil (ai @Int.add_zero @Int.natCast_zero)); refine gL (ι := Nat × List (List Value) × (Nat -> Prop) × (Nat -> Prop)) [1, 5, 9] [1000, 1001, 1002] (fun x => [(5, .d (.one (.lit (.int .i64 (x.1 : Int))))), (1, .d (.one (.lit (.int .i64 (k + (cntRows (rows.take x.1) : Nat))))))]) (fun x => [(1000, .buf (some (a, cap)) ety 1 (x.2.1.map litRow)), (1001, .set x.2.2.1 (fun w => OwnVs w (rows.drop x.1) x.2.2.1 (x.2.1.drop x.1))), (1002, .set x.2.2.2 (fun w => OwnVs w (mkRows k (rows.take x.1)) x.2.2.2 (x.2.1.take x.1)))]) (fun x => x.1 <= rows.length ∧ x.2.1.length = rows.length) (fun x => rows.length - x.1) ((0, uss, E1, fun _ => False)) (⟨Nat.zero_le _, hl⟩) (fun x hx => ?_); clear F)
  obtain ⟨i, us, E2, E3⟩ := x
  obtain ⟨hi, hn⟩ := hx
  simp only at hi hn
  dsimp only
  by_cases hlt : i < rows.length
  ·obtain ⟨r, hr⟩ : ∃ r, rows[i]? = some r := ⟨_, List.getElem?_eq_getElem hlt⟩
   obtain ⟨u, hu⟩ : ∃ u, us[i]? = some u := ⟨_, List.getElem?_eq_getElem (by omega)⟩
   obtain ⟨t0, rfl, g0⟩ := okRow_String (hok.get hr)
   have hc1 : cntRows (rows.take (i + 1)) = cntRows (rows.take i) + (1) := by
    rw [tk_snoc hr, cnt_snoc]; simp only [cntRow, cntC]; try omega
   have hc2 := cnt_take_le rows (i + 1)
   rw [drop_get hr, drop_get hu]
   refine pEx [1001] [1001] (fd_lits rfl) ?_
   rintro ⟨⟩ hlit
   obtain rfl : u = [.string t0] := by
    match u, hlit with
    | [_], ⟨rfl, _⟩ => rfl
   refine pEx (f := fun (x : (Nat -> Prop) × (Nat -> Nat -> Prop)) => [.set x.1 (fun w => OwnVs w (rows.drop (i + 1)) x.1 (us.drop (i + 1)))]) [1001] [1001] (fd_row rfl) ?_
   rintro ⟨E4, Es⟩ -
   dsimp only
   have hkk0 : 0 <= k + (cntRows (rows.take i) : Int) := by omega
   have hkk1 : k + (cntRows (rows.take i) : Int) + ((1 : Nat) : Int) <= 1000000000 := by omega
   generalize hkk : k + (cntRows (rows.take i) : Int) = kk at hkk0 hkk1 ⊢
   have q1 : ((i : Int) < (rows.length : Int)) = True := eq_true (by omega)
   have q2 : i < rows.length := hlt
   have hs : ∀ X : List C, ((us.map litRow).set i X)[i]? = some X := fun X => set_get (by rw [len_lits, hn]; omega) X
   have lr : litRow [.string t0] = [.lit (.string t0)] := rfl
   have w0 : IntKind.i64.wrap (kk + 1) = kk + 1 := IntWalk.i64_in _ (by omega)
   have wi : IntKind.i64.wrap ((i : Int) + 1) = (i : Int) + 1 := IntWalk.i64_in _ (by omega)
   (have F := ai @q1 (ai @hl (ai @hn (ai @hu (ai @lr (ai @len_lits (ai @set_len (ai @hs (ai @w0 (ai @q2 @set_set'))))))))); refine gG ?_; clear F)
   refine gB ?_
   (have F := ai @q1 (ai @hl (ai @hn (ai @hu (ai @lr (ai @len_lits (ai @set_len (ai @hs (ai @w0 (ai @q2 @set_set'))))))))); refine gC (con_markText (kk) (by omega) (by omega)) ?_; clear F)
   (have F := ai @q1 (ai @hl (ai @hn (ai @hu (ai @lr (ai @len_lits (ai @set_len (ai @hs (ai @w0 (ai @q2 @set_set'))))))))); refine gR ?_; clear F)
   obtain ⟨E6, hre⟩ : ∃ E6, Retold [.set E3 (fun w => OwnVs w (mkRows k (rows.take i)) E3 (us.take i))] [.set E6 (fun w => OwnVs w (mkRows k (rows.take (i + 1))) E6 ((us.set i [.string (txt (kk))]).take (i + 1)))] := by
    have hz := re_row (E := E3) (done := mkRows k (rows.take i)) (ud := us.take i) (cs := [.lit (.string (txt (kk)))]) (us := [.string (txt (kk))]) (Es := fun _ _ => False) rfl ⟨rfl, trivial⟩
    rw [tk_snoc hr, mkRows_snoc, hkk, set_take (by omega)]
    simp only [mkRow, mkC, mkV, cntC, Int.natCast_one]
    exact ⟨_, hz⟩
   refine pE [1002] [1002] hre ?_
   have e1 : ((us.set i [.string (txt (kk))]).map litRow) = (us.map litRow).set i [.lit (.string (txt (kk)))] := by rw [List.map_set]; rfl
   have e2 := set_drop us i [.string (txt (kk))]
   have e5 : k + (cntRows (rows.take (i + 1)) : Int) = kk + 1 := by rw [hc1]; omega
   have hn2 : (us.set i [.string (txt (kk))]).length = rows.length := by rw [set_len, hn]
   generalize us.set i [.string (txt (kk))] = us2 at e1 e2 hn2 ⊢
   rw [<- e1, <- e2]
   (have F := ai @wi (ai @e5 (ai @hl (ai @w0 @hn))); refine gG ?_; exact ⟨(i + 1, us2, E4, E6), ⟨hlt, hn2⟩, gw, gw, by omega⟩)
  ·obtain rfl : i = rows.length := by omega
   have q1 : ((rows.length : Int) < (rows.length : Int)) = False := eq_false (by omega)
   rw [List.take_length, List.take_of_length_le (Nat.le_of_eq hn)]
   (have F := ai @q1 (ai @hl @hn); refine gG ?_; clear F)
   obtain ⟨E6, hre⟩ : ∃ E6, Retold [.buf (some (a, cap)) ety 1 (us.map litRow), .set E3 (fun w => OwnVs w (mkRows k rows) E3 us)] [.set E6 (fun w => Own w (.sl (mkRows k rows)) E6 (.slice a uss.length cap))] := by
    rw [hl, <- hn]
    exact ⟨_, re_close (fun w h => h) (Own.stable _ _ _)⟩
   refine pE [1000, 1002] [1000] hre ?_
   have F := hk
   exact gTP (R := fun r pm => ∃ E', r = [.one (.lit (.int .i64 (k + (cntRows rows : Nat))))] ∧ pm = [.set E' (fun w => Own w (.sl (mkRows k rows)) E' (.slice a uss.length cap))]) [1000] ⟨E6, rfl, rfl⟩
theorem markStringS_all {rows : List (List C)} (hok : okRows (fieldsOf .str) rows) : MarkS 30 rows := mark_StringS_of hok
end Go.Proofs.YtohilkmdjdfljaaGreat
namespace Go.Proofs.YtohilkmdjdfljaaGreat
open Go.RowKit
set_option maxHeartbeats 16000000 in
set_option maxRecDepth 100000 in
theorem mark_SubS_of {rows : List (List C)} (hok : okRows (fieldsOf .sub) rows) : MarkS 102 rows := by
 intro k E v hk hb
 refine gIP (ts := [.slot 4]) [1000] 563 Tryz.func102 ?_
 (have F := @e0P; refine gG ?_; clear F)
 by_cases hne : rows = []
 ·subst hne
  refine pEx [1000] [1000] fd_nil ?_
  rintro ⟨a, cap⟩ rfl
  (have F := @hk; refine gL (ι := Unit) [1, 5, 9] [] (fun x => [(5, .d (.one (.lit (.int .i64 0)))), (1, .d (.one (.lit (.int .i64 k))))]) (fun x => []) (fun x => True) (fun x => 0) (()) (trivial) (fun x hx => ?_); clear F)
  have q1 : ((0 : Int) < 0) = False := eq_false (by decide)
  have q2 : ((0 : Int) < ((0 : Nat) : Int)) = False := eq_false (by decide)
  (have F := ai @q1 @q2; refine gG ?_; clear F)
  have F := hk
  refine gTP (R := fun r pm => ∃ E', r = [.one (.lit (.int .i64 (k + (cntRows [] : Nat))))] ∧ pm = [.set E' (fun w => Own w (.sl (mkRows k [])) E' (.slice a 0 cap))]) [1000] ⟨E, by simp only [cntRows, Int.natCast_zero, Int.add_zero]; rfl, by simp only [mkRows]; rfl⟩
 ·have hrl : rowsLen 2 rows := okRows.rowsLen hok
  refine pEx [1000] [1000, 1001] (fd_open hne hrl) ?_
  rintro ⟨a, cap, ety, uss, E1⟩ ⟨rfl, hl, hmx⟩
  simp only at hl ⊢
  unfold maxLen at hmx
  refine pE [] [1002] re_none ?_
  (have F := ai @mkRows_nil (ai @cnt_nil (ai @Int.add_zero @Int.natCast_zero)); refine gL (ι := Nat × List (List Value) × (Nat -> Prop) × (Nat -> Prop)) [1, 5, 9] [1000, 1001, 1002] (fun x => [(5, .d (.one (.lit (.int .i64 (x.1 : Int))))), (1, .d (.one (.lit (.int .i64 (k + (cntRows (rows.take x.1) : Nat))))))]) (fun x => [(1000, .buf (some (a, cap)) ety 2 (x.2.1.map litRow)), (1001, .set x.2.2.1 (fun w => OwnVs w (rows.drop x.1) x.2.2.1 (x.2.1.drop x.1))), (1002, .set x.2.2.2 (fun w => OwnVs w (mkRows k (rows.take x.1)) x.2.2.2 (x.2.1.take x.1)))]) (fun x => x.1 <= rows.length ∧ x.2.1.length = rows.length) (fun x => rows.length - x.1) ((0, uss, E1, fun _ => False)) (⟨Nat.zero_le _, hl⟩) (fun x hx => ?_); clear F)
  obtain ⟨i, us, E2, E3⟩ := x
  obtain ⟨hi, hn⟩ := hx
  simp only at hi hn
  dsimp only
  by_cases hlt : i < rows.length
  ·obtain ⟨r, hr⟩ : ∃ r, rows[i]? = some r := ⟨_, List.getElem?_eq_getElem hlt⟩
   obtain ⟨u, hu⟩ : ∃ u, us[i]? = some u := ⟨_, List.getElem?_eq_getElem (by omega)⟩
   obtain ⟨i0, i1, rfl, g0, g1⟩ := okRow_Sub (hok.get hr)
   have hc1 : cntRows (rows.take (i + 1)) = cntRows (rows.take i) + (2) := by
    rw [tk_snoc hr, cnt_snoc]; simp only [cntRow, cntC]; try omega
   have hc2 := cnt_take_le rows (i + 1)
   rw [drop_get hr, drop_get hu]
   refine pEx [1001] [1001] (fd_lits rfl) ?_
   rintro ⟨⟩ hlit
   obtain rfl : u = [.int .i64 i0, .int .i64 i1] := by
    match u, hlit with
    | [_, _], ⟨rfl, rfl, _⟩ => rfl
   refine pEx (f := fun (x : (Nat -> Prop) × (Nat -> Nat -> Prop)) => [.set x.1 (fun w => OwnVs w (rows.drop (i + 1)) x.1 (us.drop (i + 1)))]) [1001] [1001] (fd_row rfl) ?_
   rintro ⟨E4, Es⟩ -
   dsimp only
   have hkk0 : 0 <= k + (cntRows (rows.take i) : Int) := by omega
   have hkk1 : k + (cntRows (rows.take i) : Int) + ((2 : Nat) : Int) <= 1000000000 := by omega
   generalize hkk : k + (cntRows (rows.take i) : Int) = kk at hkk0 hkk1 ⊢
   have q1 : ((i : Int) < (rows.length : Int)) = True := eq_true (by omega)
   have q2 : i < rows.length := hlt
   have hs : ∀ X : List C, ((us.map litRow).set i X)[i]? = some X := fun X => set_get (by rw [len_lits, hn]; omega) X
   have lr : litRow [.int .i64 i0, .int .i64 i1] = [.lit (.int .i64 i0), .lit (.int .i64 i1)] := rfl
   have w0 : IntKind.i64.wrap (kk + 1) = kk + 1 := IntWalk.i64_in _ (by omega)
   have w1 : IntKind.i64.wrap (kk + 1 + 1) = kk + 1 + 1 := IntWalk.i64_in _ (by omega)
   have wi : IntKind.i64.wrap ((i : Int) + 1) = (i : Int) + 1 := IntWalk.i64_in _ (by omega)
   (have F := ai @q1 (ai @hl (ai @hn (ai @hu (ai @lr (ai @len_lits (ai @set_len (ai @hs (ai @w0 (ai @w1 (ai @q2 @set_set')))))))))); have NN : StopAt 3 := trivial; refine gGn ?_; clear F NN)
   obtain ⟨E6, hre⟩ : ∃ E6, Retold [.set E3 (fun w => OwnVs w (mkRows k (rows.take i)) E3 (us.take i))] [.set E6 (fun w => OwnVs w (mkRows k (rows.take (i + 1))) E6 ((us.set i [.int .i64 (kk), .int .i64 (kk + 1)]).take (i + 1)))] := by
    have hz := re_row (E := E3) (done := mkRows k (rows.take i)) (ud := us.take i) (cs := [.lit (.int .i64 (kk)), .lit (.int .i64 (kk + 1))]) (us := [.int .i64 (kk), .int .i64 (kk + 1)]) (Es := fun _ _ => False) rfl ⟨rfl, rfl, trivial⟩
    rw [tk_snoc hr, mkRows_snoc, hkk, set_take (by omega)]
    simp only [mkRow, mkC, mkV, cntC, Int.natCast_one]
    exact ⟨_, hz⟩
   refine pE [1002] [1002] hre ?_
   have e1 : ((us.set i [.int .i64 (kk), .int .i64 (kk + 1)]).map litRow) = (us.map litRow).set i [.lit (.int .i64 (kk)), .lit (.int .i64 (kk + 1))] := by rw [List.map_set]; rfl
   have e2 := set_drop us i [.int .i64 (kk), .int .i64 (kk + 1)]
   have e5 : k + (cntRows (rows.take (i + 1)) : Int) = kk + 1 + 1 := by rw [hc1]; omega
   have hn2 : (us.set i [.int .i64 (kk), .int .i64 (kk + 1)]).length = rows.length := by rw [set_len, hn]
   generalize us.set i [.int .i64 (kk), .int .i64 (kk + 1)] = us2 at e1 e2 hn2 ⊢
   rw [<- e1, <- e2]
   (have F := ai @wi (ai @e5 (ai @hl (ai @w0 (ai @w1 @hn)))); refine gG ?_; exact ⟨(i + 1, us2, E4, E6), ⟨hlt, hn2⟩, gw, gw, by omega⟩)
  ·obtain rfl : i = rows.length := by omega
   have q1 : ((rows.length : Int) < (rows.length : Int)) = False := eq_false (by omega)
   rw [List.take_length, List.take_of_length_le (Nat.le_of_eq hn)]
   (have F := ai @q1 (ai @hl @hn); refine gG ?_; clear F)
   obtain ⟨E6, hre⟩ : ∃ E6, Retold [.buf (some (a, cap)) ety 2 (us.map litRow), .set E3 (fun w => OwnVs w (mkRows k rows) E3 us)] [.set E6 (fun w => Own w (.sl (mkRows k rows)) E6 (.slice a uss.length cap))] := by
    rw [hl, <- hn]
    exact ⟨_, re_close (fun w h => h) (Own.stable _ _ _)⟩
   refine pE [1000, 1002] [1000] hre ?_
   have F := hk
   exact gTP (R := fun r pm => ∃ E', r = [.one (.lit (.int .i64 (k + (cntRows rows : Nat))))] ∧ pm = [.set E' (fun w => Own w (.sl (mkRows k rows)) E' (.slice a uss.length cap))]) [1000] ⟨E6, rfl, rfl⟩
theorem markSubS_all {rows : List (List C)} (hok : okRows (fieldsOf .sub) rows) : MarkS 102 rows := mark_SubS_of hok
end Go.Proofs.YtohilkmdjdfljaaGreat
namespace Go.Proofs.YtohilkmdjdfljaaGreat
open Go.RowKit
set_option maxHeartbeats 16000000 in
set_option maxRecDepth 100000 in
theorem markSorts_all {row : List C} (hok : okRow (sortsF) row) : MarkV 56 row := by
 obtain ⟨r0, r1, rfl, g0, g1⟩ := okRow_Sorts hok
 intro kk E us hl hc hk hb
 obtain ⟨u0, u1, rfl⟩ := len2 hl
 have kc : okCell (.lit u0) = true ∧ okCell (.lit u1) = true := by simpa [litRow, Bool.and_eq_true, and_assoc] using hc
 obtain ⟨k0, k1⟩ := kc
 simp only [cntTop, Nat.add_zero] at hb ⊢
 have lr : litRow [u0, u1] = [.lit u0, .lit u1] := rfl
 rw [lr]
 refine gIP (ts := [.slot 4]) [1000] 23 Tryz.func56 ?_
 refine pEx (f := fun (x : Nat -> Nat -> Prop) => [.set (x 0) (fun w => Own w (.sl r0) (x 0) u0), .set (x 1) (fun w => Own w (.sl r1) (x 1) u1)]) [1000] [1003, 1004] (fd_cells rfl) ?_
 rintro Es -
 try dsimp only
 (have F := ai @lr (ai @k0 @k1); refine gG ?_; clear F)
 refine gB ?_
 (have F := ai @lr (ai @k0 @k1); refine gCP [1003] [1003] (markStringS_all g0 (kk) (Es 0) u0 (by omega) (by omega)) ?_; clear F)
 rintro r pm ⟨F0, rfl, rfl⟩
 simp only [setA, retA, zipM, List.cons_append, List.nil_append]
 (have F := ai @lr (ai @k0 @k1); refine gR ?_; clear F)
 (have F := ai @lr (ai @k0 @k1); refine gG ?_; clear F)
 refine gB ?_
 (have F := ai @lr (ai @k0 @k1); refine gCP [1004] [1004] (markSubS_all g1 (kk + (cntRows r0 : Int)) (Es 1) u1 (by omega) (by omega)) ?_; clear F)
 rintro r pm ⟨F1, rfl, rfl⟩
 simp only [setA, retA, zipM, List.cons_append, List.nil_append]
 (have F := ai @lr (ai @k0 @k1); refine gR ?_; clear F)
 (have F := ai @lr (ai @k0 @k1); refine gG ?_; clear F)
 obtain ⟨E6, hre⟩ : ∃ E6, Retold [.set F0 (fun w => Own w (.sl (mkRows (kk) r0)) F0 u0), .set F1 (fun w => Own w (.sl (mkRows (kk + (cntRows r0 : Int)) r1)) F1 u1)] [.set E6 (fun w => OwnVals w [.sl (mkRows (kk) r0), .sl (mkRows (kk + (cntRows r0 : Int)) r1)] E6 [u0, u1])] := ⟨_, re_cells (cs := [.sl (mkRows (kk) r0), .sl (mkRows (kk + (cntRows r0 : Int)) r1)]) (us := [u0, u1]) (Es := fun k => match k with | 0 => F0 | _ => F1) rfl trivial⟩
 refine pE [1003, 1004] [1000] hre ?_
 have F := hk
 have ee : kk + (cntRows r0 : Int) + (cntRows r1 : Int) = kk + ((cntRows r0 + (cntRows r1) : Nat) : Int) := by omega
 rw [ee]
 exact gTP (R := fun r pm => ∃ E', r = [.one (.lit (.int .i64 (kk + ((cntRows r0 + (cntRows r1) : Nat) : Int))))] ∧ pm = [.set E' (fun w => OwnVals w (mkTop kk [.sl r0, .sl r1]) E' [u0, u1])]) [1000] ⟨E6, rfl, by simp only [mkTop]; rfl⟩
end Go.Proofs.YtohilkmdjdfljaaGreat
namespace Go.Proofs.YtohilkmdjdfljaaGreat
open Go.RowKit
theorem litRow1 (u0 : Value) : litRow [u0] = [.lit u0] := rfl
set_option maxHeartbeats 8000000 in
set_option maxRecDepth 100000 in
theorem mark_IntS {rows : List (List C)} (hok : okRows (fieldsOf .int) rows) : MarkS 59 rows := by
 intro k E v hk hb
 refine gIP (ts := [.slot 4]) [1000] 563 Tryz.func59 ?_
 (have F := @e0P; refine gG ?_; clear F)
 by_cases hne : rows = []
 ·subst hne
  refine pEx [1000] [1000] fd_nil ?_
  rintro ⟨a, cap⟩ rfl
  (have F := @hk; refine gL (ι := Unit) [1, 5, 9] [] (fun x => [(5, .d (.one (.lit (.int .i64 0)))), (1, .d (.one (.lit (.int .i64 k))))]) (fun x => []) (fun x => True) (fun x => 0) (()) (trivial) (fun x hx => ?_); clear F)
  have q1 : ((0 : Int) < 0) = False := eq_false (by decide)
  have q2 : ((0 : Int) < ((0 : Nat) : Int)) = False := eq_false (by decide)
  (have F := ai @q1 @q2; refine gG ?_; clear F)
  have F := hk
  refine gTP (R := fun r pm => ∃ E', r = [.one (.lit (.int .i64 (k + (cntRows [] : Nat))))] ∧ pm = [.set E' (fun w => Own w (.sl (mkRows k [])) E' (.slice a 0 cap))]) [1000] ⟨E, by simp only [cntRows, Int.natCast_zero, Int.add_zero]; rfl, by simp only [mkRows]; rfl⟩
 ·have hrl : rowsLen 1 rows := okRows.rowsLen hok
  refine pEx [1000] [1000, 1001] (fd_open hne hrl) ?_
  rintro ⟨a, cap, ety, uss, E1⟩ ⟨rfl, hl, hmx⟩
  simp only at hl ⊢
  unfold maxLen at hmx
  refine pE [] [1002] re_none ?_
  (have F := ai @mkRows_nil (ai @cnt_nil (ai @Int.add_zero @Int.natCast_zero)); refine gL (ι := Nat × List (List Value) × (Nat -> Prop) × (Nat -> Prop)) [1, 5, 9] [1000, 1001, 1002] (fun x => [(5, .d (.one (.lit (.int .i64 (x.1 : Int))))), (1, .d (.one (.lit (.int .i64 (k + (cntRows (rows.take x.1) : Nat))))))]) (fun x => [(1000, .buf (some (a, cap)) ety 1 (x.2.1.map litRow)), (1001, .set x.2.2.1 (fun w => OwnVs w (rows.drop x.1) x.2.2.1 (x.2.1.drop x.1))), (1002, .set x.2.2.2 (fun w => OwnVs w (mkRows k (rows.take x.1)) x.2.2.2 (x.2.1.take x.1)))]) (fun x => x.1 <= rows.length ∧ x.2.1.length = rows.length) (fun x => rows.length - x.1) ((0, uss, E1, fun _ => False)) (⟨Nat.zero_le _, hl⟩) (fun x hx => ?_); clear F)
  obtain ⟨i, us, E2, E3⟩ := x
  obtain ⟨hi, hn⟩ := hx
  simp only at hi hn
  dsimp only
  by_cases hlt : i < rows.length
  ·obtain ⟨r, hr⟩ : ∃ r, rows[i]? = some r := ⟨_, List.getElem?_eq_getElem hlt⟩
   obtain ⟨u, hu⟩ : ∃ u, us[i]? = some u := ⟨_, List.getElem?_eq_getElem (by omega)⟩
   obtain ⟨i0, rfl, _⟩ := okRow_Int (hok.get hr)
   have hc1 : cntRows (rows.take (i + 1)) = cntRows (rows.take i) + 1 := by
    rw [tk_snoc hr, cnt_snoc]; simp only [cntRow, cntC]
   have hc2 := cnt_take_le rows (i + 1)
   rw [drop_get hr, drop_get hu]
   refine pEx [1001] [1001] (fd_lits rfl) ?_
   rintro ⟨⟩ hlit
   obtain rfl : u = [.int .i64 i0] := by
    match u, hlit with
    | [_], ⟨rfl, _⟩ => rfl
   refine pEx (f := fun (x : (Nat -> Prop) × (Nat -> Nat -> Prop)) => [.set x.1 (fun w => OwnVs w (rows.drop (i + 1)) x.1 (us.drop (i + 1)))]) [1001] [1001] (fd_row rfl) ?_
   rintro ⟨E4, Es⟩ -
   dsimp only
   generalize hkk : k + (cntRows (rows.take i) : Int) = kk
   have q1 : ((i : Int) < (rows.length : Int)) = True := eq_true (by omega)
   have q2 : i < rows.length := hlt
   have w1 : IntKind.i64.wrap (kk + 1) = kk + 1 := IntWalk.i64_in _ (by omega)
   have w4 : IntKind.i64.wrap ((i : Int) + 1) = (i : Int) + 1 := IntWalk.i64_in _ (by omega)
   (have F := ai @q1 (ai @hl (ai @hn (ai @hu (ai @litRow1 (ai @len_lits (ai @set_len (ai @w1 @q2))))))); have NN : StopAt 3 := trivial; refine gGn ?_; clear F NN)
   obtain ⟨E6, hre⟩ : ∃ E6, Retold [.set E3 (fun w => OwnVs w (mkRows k (rows.take i)) E3 (us.take i))] [.set E6 (fun w => OwnVs w (mkRows k (rows.take (i + 1))) E6 ((us.set i [.int .i64 kk]).take (i + 1)))] := by
    have hz := re_row (E := E3) (done := mkRows k (rows.take i)) (ud := us.take i) (cs := [.lit (.int .i64 kk)]) (us := [.int .i64 kk]) (Es := fun _ _ => False) rfl ⟨rfl, trivial⟩
    rw [tk_snoc hr, mkRows_snoc, hkk, set_take (by omega)]
    simp only [mkRow, mkC, mkV]
    exact ⟨_, hz⟩
   refine pE [1002] [1002] hre ?_
   have e1 : ((us.set i [.int .i64 kk]).map litRow) = (us.map litRow).set i [.lit (.int .i64 kk)] := by rw [List.map_set, litRow1]
   have e2 := set_drop us i [.int .i64 kk]
   have e5 : k + (cntRows (rows.take (i + 1)) : Int) = kk + 1 := by rw [hc1]; omega
   have hn2 : (us.set i [.int .i64 kk]).length = rows.length := by rw [set_len, hn]
   generalize us.set i [.int .i64 kk] = us2 at e1 e2 hn2 ⊢
   rw [<- e1, <- e2]
   (have F := ai @w4 (ai @e5 @hl); refine gG ?_; exact ⟨(i + 1, us2, E4, E6), ⟨hlt, hn2⟩, gw, gw, by omega⟩)
  ·obtain rfl : i = rows.length := by omega
   have q1 : ((rows.length : Int) < (rows.length : Int)) = False := eq_false (by omega)
   rw [List.take_length, List.take_of_length_le (Nat.le_of_eq hn)]
   (have F := ai @q1 (ai @hl @hn); refine gG ?_; clear F)
   obtain ⟨E6, hre⟩ : ∃ E6, Retold [.buf (some (a, cap)) ety 1 (us.map litRow), .set E3 (fun w => OwnVs w (mkRows k rows) E3 us)] [.set E6 (fun w => Own w (.sl (mkRows k rows)) E6 (.slice a uss.length cap))] := by
    rw [hl, <- hn]
    exact ⟨_, re_close (fun w h => h) (Own.stable _ _ _)⟩
   refine pE [1000, 1002] [1000] hre ?_
   have F := hk
   exact gTP (R := fun r pm => ∃ E', r = [.one (.lit (.int .i64 (k + (cntRows rows : Nat))))] ∧ pm = [.set E' (fun w => Own w (.sl (mkRows k rows)) E' (.slice a uss.length cap))]) [1000] ⟨E6, rfl, rfl⟩
theorem markIntS_all {rows : List (List C)} (hok : okRows (fieldsOf .int) rows) : MarkS 59 rows := mark_IntS hok
end Go.Proofs.YtohilkmdjdfljaaGreat
namespace Go.Proofs.YtohilkmdjdfljaaGreat
open Go.RowKit
set_option maxHeartbeats 16000000 in
set_option maxRecDepth 100000 in
theorem mark_DeclS_of {rows : List (List C)} (hok : okRows (fieldsOf .decl) rows) : MarkS 103 rows := by
 intro k E v hk hb
 refine gIP (ts := [.slot 4]) [1000] 563 Tryz.func103 ?_
 (have F := @e0P; refine gG ?_; clear F)
 by_cases hne : rows = []
 ·subst hne
  refine pEx [1000] [1000] fd_nil ?_
  rintro ⟨a, cap⟩ rfl
  (have F := @hk; refine gL (ι := Unit) [1, 5, 9] [] (fun x => [(5, .d (.one (.lit (.int .i64 0)))), (1, .d (.one (.lit (.int .i64 k))))]) (fun x => []) (fun x => True) (fun x => 0) (()) (trivial) (fun x hx => ?_); clear F)
  have q1 : ((0 : Int) < 0) = False := eq_false (by decide)
  have q2 : ((0 : Int) < ((0 : Nat) : Int)) = False := eq_false (by decide)
  (have F := ai @q1 @q2; refine gG ?_; clear F)
  have F := hk
  refine gTP (R := fun r pm => ∃ E', r = [.one (.lit (.int .i64 (k + (cntRows [] : Nat))))] ∧ pm = [.set E' (fun w => Own w (.sl (mkRows k [])) E' (.slice a 0 cap))]) [1000] ⟨E, by simp only [cntRows, Int.natCast_zero, Int.add_zero]; rfl, by simp only [mkRows]; rfl⟩
 ·have hrl : rowsLen 2 rows := okRows.rowsLen hok
  refine pEx [1000] [1000, 1001] (fd_open hne hrl) ?_
  rintro ⟨a, cap, ety, uss, E1⟩ ⟨rfl, hl, hmx⟩
  simp only at hl ⊢
  unfold maxLen at hmx
  refine pE [] [1002] re_none ?_
  (have F := ai @mkRows_nil (ai @cnt_nil (ai @Int.add_zero @Int.natCast_zero)); refine gL (ι := Nat × List (List Value) × (Nat -> Prop) × (Nat -> Prop)) [1, 5, 9] [1000, 1001, 1002] (fun x => [(5, .d (.one (.lit (.int .i64 (x.1 : Int))))), (1, .d (.one (.lit (.int .i64 (k + (cntRows (rows.take x.1) : Nat))))))]) (fun x => [(1000, .buf (some (a, cap)) ety 2 (x.2.1.map litRow)), (1001, .set x.2.2.1 (fun w => OwnVs w (rows.drop x.1) x.2.2.1 (x.2.1.drop x.1))), (1002, .set x.2.2.2 (fun w => OwnVs w (mkRows k (rows.take x.1)) x.2.2.2 (x.2.1.take x.1)))]) (fun x => x.1 <= rows.length ∧ x.2.1.length = rows.length) (fun x => rows.length - x.1) ((0, uss, E1, fun _ => False)) (⟨Nat.zero_le _, hl⟩) (fun x hx => ?_); clear F)
  obtain ⟨i, us, E2, E3⟩ := x
  obtain ⟨hi, hn⟩ := hx
  simp only at hi hn
  dsimp only
  by_cases hlt : i < rows.length
  ·obtain ⟨r, hr⟩ : ∃ r, rows[i]? = some r := ⟨_, List.getElem?_eq_getElem hlt⟩
   obtain ⟨u, hu⟩ : ∃ u, us[i]? = some u := ⟨_, List.getElem?_eq_getElem (by omega)⟩
   obtain ⟨r0, i1, rfl, g0, g1⟩ := okRow_Decl (hok.get hr)
   have hm0 := markIntS_all g0
   have hc1 : cntRows (rows.take (i + 1)) = cntRows (rows.take i) + (1 + cntRows r0) := by
    rw [tk_snoc hr, cnt_snoc]; simp only [cntRow, cntC]; try omega
   have hc2 := cnt_take_le rows (i + 1)
   rw [drop_get hr, drop_get hu]
   refine pEx [1001] [1001] (fd_lits rfl) ?_
   rintro ⟨⟩ hlit
   obtain ⟨u0, rfl⟩ : ∃ u0, u = [u0, .int .i64 i1] := by
    match u, hlit with
    | [u0, _], ⟨rfl, _⟩ => exact ⟨u0, rfl⟩
   refine pEx (f := fun (x : (Nat -> Prop) × (Nat -> Nat -> Prop)) => [.set x.1 (fun w => OwnVs w (rows.drop (i + 1)) x.1 (us.drop (i + 1))), .set (x.2 0) (fun w => Own w (.sl r0) (x.2 0) u0)]) [1001] [1001, 1003] (fd_row rfl) ?_
   rintro ⟨E4, Es⟩ -
   dsimp only
   have hkk0 : 0 <= k + (cntRows (rows.take i) : Int) := by omega
   have hkk1 : k + (cntRows (rows.take i) : Int) + ((1 + cntRows r0 : Nat) : Int) <= 1000000000 := by omega
   generalize hkk : k + (cntRows (rows.take i) : Int) = kk at hkk0 hkk1 ⊢
   have q1 : ((i : Int) < (rows.length : Int)) = True := eq_true (by omega)
   have q2 : i < rows.length := hlt
   have hs : ∀ X : List C, ((us.map litRow).set i X)[i]? = some X := fun X => set_get (by rw [len_lits, hn]; omega) X
   have lr : litRow [u0, .int .i64 i1] = [.lit (u0), .lit (.int .i64 i1)] := rfl
   have w1 : IntKind.i64.wrap (kk + (cntRows r0 : Int) + 1) = kk + (cntRows r0 : Int) + 1 := IntWalk.i64_in _ (by omega)
   have wi : IntKind.i64.wrap ((i : Int) + 1) = (i : Int) + 1 := IntWalk.i64_in _ (by omega)
   (have F := ai @q1 (ai @hl (ai @hn (ai @hu (ai @lr (ai @len_lits (ai @set_len (ai @hs (ai @w1 (ai @q2 @set_set'))))))))); refine gG ?_; clear F)
   refine gB ?_
   (have F := ai @q1 (ai @hl (ai @hn (ai @hu (ai @lr (ai @len_lits (ai @set_len (ai @hs (ai @w1 (ai @q2 @set_set'))))))))); refine gCP [1003] [1003] (hm0 (kk) (Es 0) u0 (by omega) (by omega)) ?_; clear F)
   rintro r pm ⟨F0, rfl, rfl⟩
   simp only [setA, retA, zipM, List.cons_append, List.nil_append]
   (have F := ai @q1 (ai @hl (ai @hn (ai @hu (ai @lr (ai @len_lits (ai @set_len (ai @hs (ai @w1 (ai @q2 @set_set'))))))))); refine gR ?_; clear F)
   (have F := ai @q1 (ai @hl (ai @hn (ai @hu (ai @lr (ai @len_lits (ai @set_len (ai @hs (ai @w1 (ai @q2 @set_set'))))))))); have NN : StopAt 3 := trivial; refine gGn ?_; clear F NN)
   obtain ⟨E6, hre⟩ : ∃ E6, Retold [.set E3 (fun w => OwnVs w (mkRows k (rows.take i)) E3 (us.take i)), .set F0 (fun w => Own w (.sl (mkRows (kk) r0)) F0 u0)] [.set E6 (fun w => OwnVs w (mkRows k (rows.take (i + 1))) E6 ((us.set i [u0, .int .i64 (kk + (cntRows r0 : Int))]).take (i + 1)))] := by
    have hz := re_row (E := E3) (done := mkRows k (rows.take i)) (ud := us.take i) (cs := [.sl (mkRows (kk) r0), .lit (.int .i64 (kk + (cntRows r0 : Int)))]) (us := [u0, .int .i64 (kk + (cntRows r0 : Int))]) (Es := fun _ => F0) rfl ⟨rfl, trivial⟩
    rw [tk_snoc hr, mkRows_snoc, hkk, set_take (by omega)]
    simp only [mkRow, mkC, mkV, cntC, Int.natCast_one]
    exact ⟨_, hz⟩
   refine pE [1002, 1003] [1002] hre ?_
   have e1 : ((us.set i [u0, .int .i64 (kk + (cntRows r0 : Int))]).map litRow) = (us.map litRow).set i [.lit (u0), .lit (.int .i64 (kk + (cntRows r0 : Int)))] := by rw [List.map_set]; rfl
   have e2 := set_drop us i [u0, .int .i64 (kk + (cntRows r0 : Int))]
   have e5 : k + (cntRows (rows.take (i + 1)) : Int) = kk + (cntRows r0 : Int) + 1 := by rw [hc1]; omega
   have hn2 : (us.set i [u0, .int .i64 (kk + (cntRows r0 : Int))]).length = rows.length := by rw [set_len, hn]
   generalize us.set i [u0, .int .i64 (kk + (cntRows r0 : Int))] = us2 at e1 e2 hn2 ⊢
   rw [<- e1, <- e2]
   (have F := ai @wi (ai @e5 (ai @hl (ai @w1 @hn))); refine gG ?_; exact ⟨(i + 1, us2, E4, E6), ⟨hlt, hn2⟩, gw, gw, by omega⟩)
  ·obtain rfl : i = rows.length := by omega
   have q1 : ((rows.length : Int) < (rows.length : Int)) = False := eq_false (by omega)
   rw [List.take_length, List.take_of_length_le (Nat.le_of_eq hn)]
   (have F := ai @q1 (ai @hl @hn); refine gG ?_; clear F)
   obtain ⟨E6, hre⟩ : ∃ E6, Retold [.buf (some (a, cap)) ety 2 (us.map litRow), .set E3 (fun w => OwnVs w (mkRows k rows) E3 us)] [.set E6 (fun w => Own w (.sl (mkRows k rows)) E6 (.slice a uss.length cap))] := by
    rw [hl, <- hn]
    exact ⟨_, re_close (fun w h => h) (Own.stable _ _ _)⟩
   refine pE [1000, 1002] [1000] hre ?_
   have F := hk
   exact gTP (R := fun r pm => ∃ E', r = [.one (.lit (.int .i64 (k + (cntRows rows : Nat))))] ∧ pm = [.set E' (fun w => Own w (.sl (mkRows k rows)) E' (.slice a uss.length cap))]) [1000] ⟨E6, rfl, rfl⟩
theorem markDeclS_all {rows : List (List C)} (hok : okRows (fieldsOf .decl) rows) : MarkS 103 rows := mark_DeclS_of hok
end Go.Proofs.YtohilkmdjdfljaaGreat
namespace Go.Proofs.YtohilkmdjdfljaaGreat
open Go.RowKit
theorem tmod3Op {k : Int} (h : 0 <= k) : decide (k.tmod 3 = 0) = (k % 3 == 0) := by rw [Int.tmod_eq_emod_of_nonneg h, Bool.eq_iff_iff]; simp
set_option maxHeartbeats 16000000 in
set_option maxRecDepth 100000 in
theorem mark_OpS_of {rows : List (List C)} (hok : okRows (fieldsOf .op) rows) : MarkS 57 rows := by
 intro k E v hk hb
 refine gIP (ts := [.slot 4]) [1000] 563 Tryz.func57 ?_
 (have F := @e0P; refine gG ?_; clear F)
 by_cases hne : rows = []
 ·subst hne
  refine pEx [1000] [1000] fd_nil ?_
  rintro ⟨a, cap⟩ rfl
  (have F := @hk; refine gL (ι := Unit) [1, 5, 9] [] (fun x => [(5, .d (.one (.lit (.int .i64 0)))), (1, .d (.one (.lit (.int .i64 k))))]) (fun x => []) (fun x => True) (fun x => 0) (()) (trivial) (fun x hx => ?_); clear F)
  have q1 : ((0 : Int) < 0) = False := eq_false (by decide)
  have q2 : ((0 : Int) < ((0 : Nat) : Int)) = False := eq_false (by decide)
  (have F := ai @q1 @q2; refine gG ?_; clear F)
  have F := hk
  refine gTP (R := fun r pm => ∃ E', r = [.one (.lit (.int .i64 (k + (cntRows [] : Nat))))] ∧ pm = [.set E' (fun w => Own w (.sl (mkRows k [])) E' (.slice a 0 cap))]) [1000] ⟨E, by simp only [cntRows, Int.natCast_zero, Int.add_zero]; rfl, by simp only [mkRows]; rfl⟩
 ·have hrl : rowsLen 5 rows := okRows.rowsLen hok
  refine pEx [1000] [1000, 1001] (fd_open hne hrl) ?_
  rintro ⟨a, cap, ety, uss, E1⟩ ⟨rfl, hl, hmx⟩
  simp only at hl ⊢
  unfold maxLen at hmx
  refine pE [] [1002] re_none ?_
  (have F := ai @mkRows_nil (ai @cnt_nil (ai @Int.add_zero @Int.natCast_zero)); refine gL (ι := Nat × List (List Value) × (Nat -> Prop) × (Nat -> Prop)) [1, 5, 9] [1000, 1001, 1002] (fun x => [(5, .d (.one (.lit (.int .i64 (x.1 : Int))))), (1, .d (.one (.lit (.int .i64 (k + (cntRows (rows.take x.1) : Nat))))))]) (fun x => [(1000, .buf (some (a, cap)) ety 5 (x.2.1.map litRow)), (1001, .set x.2.2.1 (fun w => OwnVs w (rows.drop x.1) x.2.2.1 (x.2.1.drop x.1))), (1002, .set x.2.2.2 (fun w => OwnVs w (mkRows k (rows.take x.1)) x.2.2.2 (x.2.1.take x.1)))]) (fun x => x.1 <= rows.length ∧ x.2.1.length = rows.length) (fun x => rows.length - x.1) ((0, uss, E1, fun _ => False)) (⟨Nat.zero_le _, hl⟩) (fun x hx => ?_); clear F)
  obtain ⟨i, us, E2, E3⟩ := x
  obtain ⟨hi, hn⟩ := hx
  simp only at hi hn
  dsimp only
  by_cases hlt : i < rows.length
  ·obtain ⟨r, hr⟩ : ∃ r, rows[i]? = some r := ⟨_, List.getElem?_eq_getElem hlt⟩
   obtain ⟨u, hu⟩ : ∃ u, us[i]? = some u := ⟨_, List.getElem?_eq_getElem (by omega)⟩
   obtain ⟨t0, r1, p2, p3, i4, rfl, g0, g1, g2, g3, g4⟩ := okRow_Op (hok.get hr)
   have hm1 := markDeclS_all g1
   have hc1 : cntRows (rows.take (i + 1)) = cntRows (rows.take i) + (4 + cntRows r1) := by
    rw [tk_snoc hr, cnt_snoc]; simp only [cntRow, cntC]; try omega
   have hc2 := cnt_take_le rows (i + 1)
   rw [drop_get hr, drop_get hu]
   refine pEx [1001] [1001] (fd_lits rfl) ?_
   rintro ⟨⟩ hlit
   obtain ⟨u1, rfl⟩ : ∃ u1, u = [.string t0, u1, .bool p2, .bool p3, .int .i64 i4] := by
    match u, hlit with
    | [_, u1, _, _, _], ⟨rfl, rfl, rfl, rfl, _⟩ => exact ⟨u1, rfl⟩
   refine pEx (f := fun (x : (Nat -> Prop) × (Nat -> Nat -> Prop)) => [.set x.1 (fun w => OwnVs w (rows.drop (i + 1)) x.1 (us.drop (i + 1))), .set (x.2 0) (fun w => Own w (.sl r1) (x.2 0) u1)]) [1001] [1001, 1003] (fd_row rfl) ?_
   rintro ⟨E4, Es⟩ -
   dsimp only
   have hkk0 : 0 <= k + (cntRows (rows.take i) : Int) := by omega
   have hkk1 : k + (cntRows (rows.take i) : Int) + ((4 + cntRows r1 : Nat) : Int) <= 1000000000 := by omega
   generalize hkk : k + (cntRows (rows.take i) : Int) = kk at hkk0 hkk1 ⊢
   have q1 : ((i : Int) < (rows.length : Int)) = True := eq_true (by omega)
   have q2 : i < rows.length := hlt
   have hs : ∀ X : List C, ((us.map litRow).set i X)[i]? = some X := fun X => set_get (by rw [len_lits, hn]; omega) X
   have lr : litRow [.string t0, u1, .bool p2, .bool p3, .int .i64 i4] = [.lit (.string t0), .lit (u1), .lit (.bool p2), .lit (.bool p3), .lit (.int .i64 i4)] := rfl
   have w0 : IntKind.i64.wrap (kk + 1) = kk + 1 := IntWalk.i64_in _ (by omega)
   have w2 : IntKind.i64.wrap (kk + 1 + (cntRows r1 : Int) + 1) = kk + 1 + (cntRows r1 : Int) + 1 := IntWalk.i64_in _ (by omega)
   have b2 : decide (((kk + 1 + (cntRows r1 : Int)).tmod 3) = 0) = ((kk + 1 + (cntRows r1 : Int)) % 3 == 0) := tmod3Op (by omega)
   have w3 : IntKind.i64.wrap (kk + 1 + (cntRows r1 : Int) + 1 + 1) = kk + 1 + (cntRows r1 : Int) + 1 + 1 := IntWalk.i64_in _ (by omega)
   have b3 : decide (((kk + 1 + (cntRows r1 : Int) + 1).tmod 3) = 0) = ((kk + 1 + (cntRows r1 : Int) + 1) % 3 == 0) := tmod3Op (by omega)
   have w4 : IntKind.i64.wrap (kk + 1 + (cntRows r1 : Int) + 1 + 1 + 1) = kk + 1 + (cntRows r1 : Int) + 1 + 1 + 1 := IntWalk.i64_in _ (by omega)
   have wi : IntKind.i64.wrap ((i : Int) + 1) = (i : Int) + 1 := IntWalk.i64_in _ (by omega)
   (have F := ai @q1 (ai @hl (ai @hn (ai @hu (ai @lr (ai @len_lits (ai @set_len (ai @hs (ai @w0 (ai @w2 (ai @b2 (ai @w3 (ai @b3 (ai @w4 (ai @q2 @set_set')))))))))))))); refine gG ?_; clear F)
   refine gB ?_
   (have F := ai @q1 (ai @hl (ai @hn (ai @hu (ai @lr (ai @len_lits (ai @set_len (ai @hs (ai @w0 (ai @w2 (ai @b2 (ai @w3 (ai @b3 (ai @w4 (ai @q2 @set_set')))))))))))))); refine gC (con_markText (kk) (by omega) (by omega)) ?_; clear F)
   (have F := ai @q1 (ai @hl (ai @hn (ai @hu (ai @lr (ai @len_lits (ai @set_len (ai @hs (ai @w0 (ai @w2 (ai @b2 (ai @w3 (ai @b3 (ai @w4 (ai @q2 @set_set')))))))))))))); refine gR ?_; clear F)
   (have F := ai @q1 (ai @hl (ai @hn (ai @hu (ai @lr (ai @len_lits (ai @set_len (ai @hs (ai @w0 (ai @w2 (ai @b2 (ai @w3 (ai @b3 (ai @w4 (ai @q2 @set_set')))))))))))))); refine gG ?_; clear F)
   refine gB ?_
   (have F := ai @q1 (ai @hl (ai @hn (ai @hu (ai @lr (ai @len_lits (ai @set_len (ai @hs (ai @w0 (ai @w2 (ai @b2 (ai @w3 (ai @b3 (ai @w4 (ai @q2 @set_set')))))))))))))); refine gCP [1003] [1003] (hm1 (kk + 1) (Es 0) u1 (by omega) (by omega)) ?_; clear F)
   rintro r pm ⟨F1, rfl, rfl⟩
   simp only [setA, retA, zipM, List.cons_append, List.nil_append]
   (have F := ai @q1 (ai @hl (ai @hn (ai @hu (ai @lr (ai @len_lits (ai @set_len (ai @hs (ai @w0 (ai @w2 (ai @b2 (ai @w3 (ai @b3 (ai @w4 (ai @q2 @set_set')))))))))))))); refine gR ?_; clear F)
   (have F := ai @q1 (ai @hl (ai @hn (ai @hu (ai @lr (ai @len_lits (ai @set_len (ai @hs (ai @w0 (ai @w2 (ai @b2 (ai @w3 (ai @b3 (ai @w4 (ai @q2 @set_set')))))))))))))); have NN : StopAt 3 := trivial; refine gGn ?_; clear F NN)
   obtain ⟨E6, hre⟩ : ∃ E6, Retold [.set E3 (fun w => OwnVs w (mkRows k (rows.take i)) E3 (us.take i)), .set F1 (fun w => Own w (.sl (mkRows (kk + 1) r1)) F1 u1)] [.set E6 (fun w => OwnVs w (mkRows k (rows.take (i + 1))) E6 ((us.set i [.string (txt (kk)), u1, .bool ((kk + 1 + (cntRows r1 : Int)) % 3 == 0), .bool ((kk + 1 + (cntRows r1 : Int) + 1) % 3 == 0), .int .i64 (kk + 1 + (cntRows r1 : Int) + 1 + 1)]).take (i + 1)))] := by
    have hz := re_row (E := E3) (done := mkRows k (rows.take i)) (ud := us.take i) (cs := [.lit (.string (txt (kk))), .sl (mkRows (kk + 1) r1), .lit (.bool ((kk + 1 + (cntRows r1 : Int)) % 3 == 0)), .lit (.bool ((kk + 1 + (cntRows r1 : Int) + 1) % 3 == 0)), .lit (.int .i64 (kk + 1 + (cntRows r1 : Int) + 1 + 1))]) (us := [.string (txt (kk)), u1, .bool ((kk + 1 + (cntRows r1 : Int)) % 3 == 0), .bool ((kk + 1 + (cntRows r1 : Int) + 1) % 3 == 0), .int .i64 (kk + 1 + (cntRows r1 : Int) + 1 + 1)]) (Es := fun _ => F1) rfl ⟨rfl, rfl, rfl, rfl, trivial⟩
    rw [tk_snoc hr, mkRows_snoc, hkk, set_take (by omega)]
    simp only [mkRow, mkC, mkV, cntC, Int.natCast_one]
    exact ⟨_, hz⟩
   refine pE [1002, 1003] [1002] hre ?_
   have e1 : ((us.set i [.string (txt (kk)), u1, .bool ((kk + 1 + (cntRows r1 : Int)) % 3 == 0), .bool ((kk + 1 + (cntRows r1 : Int) + 1) % 3 == 0), .int .i64 (kk + 1 + (cntRows r1 : Int) + 1 + 1)]).map litRow) = (us.map litRow).set i [.lit (.string (txt (kk))), .lit (u1), .lit (.bool ((kk + 1 + (cntRows r1 : Int)) % 3 == 0)), .lit (.bool ((kk + 1 + (cntRows r1 : Int) + 1) % 3 == 0)), .lit (.int .i64 (kk + 1 + (cntRows r1 : Int) + 1 + 1))] := by rw [List.map_set]; rfl
   have e2 := set_drop us i [.string (txt (kk)), u1, .bool ((kk + 1 + (cntRows r1 : Int)) % 3 == 0), .bool ((kk + 1 + (cntRows r1 : Int) + 1) % 3 == 0), .int .i64 (kk + 1 + (cntRows r1 : Int) + 1 + 1)]
   have e5 : k + (cntRows (rows.take (i + 1)) : Int) = kk + 1 + (cntRows r1 : Int) + 1 + 1 + 1 := by rw [hc1]; omega
   have hn2 : (us.set i [.string (txt (kk)), u1, .bool ((kk + 1 + (cntRows r1 : Int)) % 3 == 0), .bool ((kk + 1 + (cntRows r1 : Int) + 1) % 3 == 0), .int .i64 (kk + 1 + (cntRows r1 : Int) + 1 + 1)]).length = rows.length := by rw [set_len, hn]
   generalize us.set i [.string (txt (kk)), u1, .bool ((kk + 1 + (cntRows r1 : Int)) % 3 == 0), .bool ((kk + 1 + (cntRows r1 : Int) + 1) % 3 == 0), .int .i64 (kk + 1 + (cntRows r1 : Int) + 1 + 1)] = us2 at e1 e2 hn2 ⊢
   rw [<- e1, <- e2]
   (have F := ai @wi (ai @e5 (ai @hl (ai @w0 (ai @w2 (ai @b2 (ai @w3 (ai @b3 (ai @w4 @hn)))))))); refine gG ?_; exact ⟨(i + 1, us2, E4, E6), ⟨hlt, hn2⟩, gw, gw, by omega⟩)
  ·obtain rfl : i = rows.length := by omega
   have q1 : ((rows.length : Int) < (rows.length : Int)) = False := eq_false (by omega)
   rw [List.take_length, List.take_of_length_le (Nat.le_of_eq hn)]
   (have F := ai @q1 (ai @hl @hn); refine gG ?_; clear F)
   obtain ⟨E6, hre⟩ : ∃ E6, Retold [.buf (some (a, cap)) ety 5 (us.map litRow), .set E3 (fun w => OwnVs w (mkRows k rows) E3 us)] [.set E6 (fun w => Own w (.sl (mkRows k rows)) E6 (.slice a uss.length cap))] := by
    rw [hl, <- hn]
    exact ⟨_, re_close (fun w h => h) (Own.stable _ _ _)⟩
   refine pE [1000, 1002] [1000] hre ?_
   have F := hk
   exact gTP (R := fun r pm => ∃ E', r = [.one (.lit (.int .i64 (k + (cntRows rows : Nat))))] ∧ pm = [.set E' (fun w => Own w (.sl (mkRows k rows)) E' (.slice a uss.length cap))]) [1000] ⟨E6, rfl, rfl⟩
theorem markOpS_all {rows : List (List C)} (hok : okRows (fieldsOf .op) rows) : MarkS 57 rows := mark_OpS_of hok
end Go.Proofs.YtohilkmdjdfljaaGreat
namespace Go.Proofs.YtohilkmdjdfljaaGreat
open Go.RowKit
set_option maxHeartbeats 16000000 in
set_option maxRecDepth 100000 in
theorem markSignature_all {row : List C} (hok : okRow (sigF) row) : MarkV 17 row := by
 obtain ⟨r0, r1, r2, rfl, g0, g1, g2⟩ := okRow_Signature hok
 intro kk E us hl hc hk hb
 obtain ⟨u0, u1, u2, rfl⟩ := len3 hl
 have kc : okCell (.lit u0) = true ∧ okCell (.lit u1) = true ∧ okCell (.lit u2) = true := by simpa [litRow, Bool.and_eq_true, and_assoc] using hc
 obtain ⟨k0, k1, k2⟩ := kc
 simp only [cntTop, Nat.add_zero] at hb ⊢
 have lr : litRow [u0, u1, u2] = [.lit u0, .lit u1, .lit u2] := rfl
 rw [lr]
 refine gIP (ts := [.slot 4]) [1000] 23 Tryz.func17 ?_
 refine pEx (f := fun (x : Nat -> Nat -> Prop) => [.set (x 0) (fun w => Own w (.sl r0) (x 0) u0), .set (x 1) (fun w => Own w (.sl r1) (x 1) u1), .set (x 2) (fun w => Own w (.sl r2) (x 2) u2)]) [1000] [1003, 1004, 1005] (fd_cells rfl) ?_
 rintro Es -
 try dsimp only
 obtain ⟨G0, hre0⟩ : ∃ G, Retold [.set (Es 0) (fun w => Own w (.sl r0) (Es 0) u0), .set (Es 1) (fun w => Own w (.sl r1) (Es 1) u1)] [.set G (fun w => OwnVals w [.sl r0, .sl r1] G [u0, u1])] := ⟨_, re_cells (cs := [.sl r0, .sl r1]) (us := [u0, u1]) (Es := fun k => Es (k + 0)) rfl trivial⟩
 refine pE [1003, 1004] [1003] hre0 ?_
 have lr0 : litRow [u0, u1] = [.lit u0, .lit u1] := rfl
 have hm0 := markSorts_all (row := [.sl r0, .sl r1]) (mkRow_Sorts g0 g1) (kk) G0 [u0, u1] rfl (by rw [lr0]; simp only [List.all_cons, List.all_nil, k0, k1, Bool.and_self]) (by omega) (by simp only [cntTop]; omega)
 rw [lr0] at hm0
 simp only [cntTop, mkTop, Nat.add_zero, Int.natCast_add, <- Int.add_assoc] at hm0
 (have F := ai @lr (ai @k0 (ai @k1 @k2)); refine gG ?_; clear F)
 refine gB ?_
 (have F := ai @lr (ai @k0 (ai @k1 @k2)); refine gCP [1003] [1003] (hm0) ?_; clear F)
 rintro r pm ⟨G0', rfl, rfl⟩
 simp only [setA, retA, zipM, List.cons_append, List.nil_append]
 (have F := ai @lr (ai @k0 (ai @k1 @k2)); refine gR ?_; clear F)
 refine pEx (f := fun (x : Nat -> Nat -> Prop) => [.set (x 0) (fun w => Own w (.sl (mkRows (kk) r0)) (x 0) u0), .set (x 1) (fun w => Own w (.sl (mkRows (kk + (cntRows r0 : Int)) r1)) (x 1) u1)]) [1003] [1003, 1004] (fd_cells (r := [.sl (mkRows (kk) r0), .sl (mkRows (kk + (cntRows r0 : Int)) r1)]) rfl) ?_
 rintro Fs0 -
 try dsimp only
 (have F := ai @lr (ai @k0 (ai @k1 @k2)); refine gG ?_; clear F)
 refine gB ?_
 (have F := ai @lr (ai @k0 (ai @k1 @k2)); refine gCP [1005] [1005] (markOpS_all g2 (kk + (cntRows r0 : Int) + (cntRows r1 : Int)) (Es 2) u2 (by omega) (by omega)) ?_; clear F)
 rintro r pm ⟨F2, rfl, rfl⟩
 simp only [setA, retA, zipM, List.cons_append, List.nil_append]
 (have F := ai @lr (ai @k0 (ai @k1 @k2)); refine gR ?_; clear F)
 (have F := ai @lr (ai @k0 (ai @k1 @k2)); refine gG ?_; clear F)
 obtain ⟨E6, hre⟩ : ∃ E6, Retold [.set (Fs0 0) (fun w => Own w (.sl (mkRows (kk) r0)) (Fs0 0) u0), .set (Fs0 1) (fun w => Own w (.sl (mkRows (kk + (cntRows r0 : Int)) r1)) (Fs0 1) u1), .set F2 (fun w => Own w (.sl (mkRows (kk + (cntRows r0 : Int) + (cntRows r1 : Int)) r2)) F2 u2)] [.set E6 (fun w => OwnVals w [.sl (mkRows (kk) r0), .sl (mkRows (kk + (cntRows r0 : Int)) r1), .sl (mkRows (kk + (cntRows r0 : Int) + (cntRows r1 : Int)) r2)] E6 [u0, u1, u2])] := ⟨_, re_cells (cs := [.sl (mkRows (kk) r0), .sl (mkRows (kk + (cntRows r0 : Int)) r1), .sl (mkRows (kk + (cntRows r0 : Int) + (cntRows r1 : Int)) r2)]) (us := [u0, u1, u2]) (Es := fun k => match k with | 0 => Fs0 0 | 1 => Fs0 1 | _ => F2) rfl trivial⟩
 refine pE [1003, 1004, 1005] [1000] hre ?_
 have F := hk
 have ee : kk + (cntRows r0 : Int) + (cntRows r1 : Int) + (cntRows r2 : Int) = kk + ((cntRows r0 + (cntRows r1 + (cntRows r2)) : Nat) : Int) := by omega
 rw [ee]
 exact gTP (R := fun r pm => ∃ E', r = [.one (.lit (.int .i64 (kk + ((cntRows r0 + (cntRows r1 + (cntRows r2)) : Nat) : Int))))] ∧ pm = [.set E' (fun w => OwnVals w (mkTop kk [.sl r0, .sl r1, .sl r2]) E' [u0, u1, u2])]) [1000] ⟨E6, rfl, by simp only [mkTop]; rfl⟩
end Go.Proofs.YtohilkmdjdfljaaGreat
namespace Go.Proofs.YtohilkmdjdfljaaGreat
open Go.RowKit
set_option maxHeartbeats 16000000 in
set_option maxRecDepth 100000 in
theorem mark_BindingS_of {rows : List (List C)} (hok : okRows (fieldsOf .binding) rows) : MarkS 60 rows := by
 intro k E v hk hb
 refine gIP (ts := [.slot 4]) [1000] 563 Tryz.func60 ?_
 (have F := @e0P; refine gG ?_; clear F)
 by_cases hne : rows = []
 ·subst hne
  refine pEx [1000] [1000] fd_nil ?_
  rintro ⟨a, cap⟩ rfl
  (have F := @hk; refine gL (ι := Unit) [1, 5, 9] [] (fun x => [(5, .d (.one (.lit (.int .i64 0)))), (1, .d (.one (.lit (.int .i64 k))))]) (fun x => []) (fun x => True) (fun x => 0) (()) (trivial) (fun x hx => ?_); clear F)
  have q1 : ((0 : Int) < 0) = False := eq_false (by decide)
  have q2 : ((0 : Int) < ((0 : Nat) : Int)) = False := eq_false (by decide)
  (have F := ai @q1 @q2; refine gG ?_; clear F)
  have F := hk
  refine gTP (R := fun r pm => ∃ E', r = [.one (.lit (.int .i64 (k + (cntRows [] : Nat))))] ∧ pm = [.set E' (fun w => Own w (.sl (mkRows k [])) E' (.slice a 0 cap))]) [1000] ⟨E, by simp only [cntRows, Int.natCast_zero, Int.add_zero]; rfl, by simp only [mkRows]; rfl⟩
 ·have hrl : rowsLen 8 rows := okRows.rowsLen hok
  refine pEx [1000] [1000, 1001] (fd_open hne hrl) ?_
  rintro ⟨a, cap, ety, uss, E1⟩ ⟨rfl, hl, hmx⟩
  simp only at hl ⊢
  unfold maxLen at hmx
  refine pE [] [1002] re_none ?_
  (have F := ai @mkRows_nil (ai @cnt_nil (ai @Int.add_zero @Int.natCast_zero)); refine gL (ι := Nat × List (List Value) × (Nat -> Prop) × (Nat -> Prop)) [1, 5, 9] [1000, 1001, 1002] (fun x => [(5, .d (.one (.lit (.int .i64 (x.1 : Int))))), (1, .d (.one (.lit (.int .i64 (k + (cntRows (rows.take x.1) : Nat))))))]) (fun x => [(1000, .buf (some (a, cap)) ety 8 (x.2.1.map litRow)), (1001, .set x.2.2.1 (fun w => OwnVs w (rows.drop x.1) x.2.2.1 (x.2.1.drop x.1))), (1002, .set x.2.2.2 (fun w => OwnVs w (mkRows k (rows.take x.1)) x.2.2.2 (x.2.1.take x.1)))]) (fun x => x.1 <= rows.length ∧ x.2.1.length = rows.length) (fun x => rows.length - x.1) ((0, uss, E1, fun _ => False)) (⟨Nat.zero_le _, hl⟩) (fun x hx => ?_); clear F)
  obtain ⟨i, us, E2, E3⟩ := x
  obtain ⟨hi, hn⟩ := hx
  simp only at hi hn
  dsimp only
  by_cases hlt : i < rows.length
  ·obtain ⟨r, hr⟩ : ∃ r, rows[i]? = some r := ⟨_, List.getElem?_eq_getElem hlt⟩
   obtain ⟨u, hu⟩ : ∃ u, us[i]? = some u := ⟨_, List.getElem?_eq_getElem (by omega)⟩
   obtain ⟨i0, t1, i2, r3, i4, t5, i6, r7, rfl, g0, g1, g2, g3, g4, g5, g6, g7⟩ := okRow_Binding (hok.get hr)
   have hm3 := markTermS_all g3
   have hm7 := markTermS_all g7
   have hc1 : cntRows (rows.take (i + 1)) = cntRows (rows.take i) + (6 + cntRows r3 + cntRows r7) := by
    rw [tk_snoc hr, cnt_snoc]; simp only [cntRow, cntC]; try omega
   have hc2 := cnt_take_le rows (i + 1)
   rw [drop_get hr, drop_get hu]
   refine pEx [1001] [1001] (fd_lits rfl) ?_
   rintro ⟨⟩ hlit
   obtain ⟨u3, u7, rfl⟩ : ∃ u3 u7, u = [.int .i64 i0, .string t1, .int .i64 i2, u3, .int .i64 i4, .string t5, .int .i64 i6, u7] := by
    match u, hlit with
    | [_, _, _, u3, _, _, _, u7], ⟨rfl, rfl, rfl, rfl, rfl, rfl, _⟩ => exact ⟨u3, u7, rfl⟩
   refine pEx (f := fun (x : (Nat -> Prop) × (Nat -> Nat -> Prop)) => [.set x.1 (fun w => OwnVs w (rows.drop (i + 1)) x.1 (us.drop (i + 1))), .set (x.2 0) (fun w => Own w (.sl r3) (x.2 0) u3), .set (x.2 1) (fun w => Own w (.sl r7) (x.2 1) u7)]) [1001] [1001, 1003, 1004] (fd_row rfl) ?_
   rintro ⟨E4, Es⟩ -
   dsimp only
   have hkk0 : 0 <= k + (cntRows (rows.take i) : Int) := by omega
   have hkk1 : k + (cntRows (rows.take i) : Int) + ((6 + cntRows r3 + cntRows r7 : Nat) : Int) <= 1000000000 := by omega
   generalize hkk : k + (cntRows (rows.take i) : Int) = kk at hkk0 hkk1 ⊢
   have q1 : ((i : Int) < (rows.length : Int)) = True := eq_true (by omega)
   have q2 : i < rows.length := hlt
   have hs : ∀ X : List C, ((us.map litRow).set i X)[i]? = some X := fun X => set_get (by rw [len_lits, hn]; omega) X
   have lr : litRow [.int .i64 i0, .string t1, .int .i64 i2, u3, .int .i64 i4, .string t5, .int .i64 i6, u7] = [.lit (.int .i64 i0), .lit (.string t1), .lit (.int .i64 i2), .lit (u3), .lit (.int .i64 i4), .lit (.string t5), .lit (.int .i64 i6), .lit (u7)] := rfl
   have w0 : IntKind.i64.wrap (kk + 1) = kk + 1 := IntWalk.i64_in _ (by omega)
   have w1 : IntKind.i64.wrap (kk + 1 + 1) = kk + 1 + 1 := IntWalk.i64_in _ (by omega)
   have w2 : IntKind.i64.wrap (kk + 1 + 1 + 1) = kk + 1 + 1 + 1 := IntWalk.i64_in _ (by omega)
   have w4 : IntKind.i64.wrap (kk + 1 + 1 + 1 + (cntRows r3 : Int) + 1) = kk + 1 + 1 + 1 + (cntRows r3 : Int) + 1 := IntWalk.i64_in _ (by omega)
   have w5 : IntKind.i64.wrap (kk + 1 + 1 + 1 + (cntRows r3 : Int) + 1 + 1) = kk + 1 + 1 + 1 + (cntRows r3 : Int) + 1 + 1 := IntWalk.i64_in _ (by omega)
   have w6 : IntKind.i64.wrap (kk + 1 + 1 + 1 + (cntRows r3 : Int) + 1 + 1 + 1) = kk + 1 + 1 + 1 + (cntRows r3 : Int) + 1 + 1 + 1 := IntWalk.i64_in _ (by omega)
   have wi : IntKind.i64.wrap ((i : Int) + 1) = (i : Int) + 1 := IntWalk.i64_in _ (by omega)
   (have F := ai @q1 (ai @hl (ai @hn (ai @hu (ai @lr (ai @len_lits (ai @set_len (ai @hs (ai @w0 (ai @w1 (ai @w2 (ai @w4 (ai @w5 (ai @w6 (ai @q2 @set_set')))))))))))))); refine gG ?_; clear F)
   refine gB ?_
   (have F := ai @q1 (ai @hl (ai @hn (ai @hu (ai @lr (ai @len_lits (ai @set_len (ai @hs (ai @w0 (ai @w1 (ai @w2 (ai @w4 (ai @w5 (ai @w6 (ai @q2 @set_set')))))))))))))); refine gC (con_markText (kk + 1) (by omega) (by omega)) ?_; clear F)
   (have F := ai @q1 (ai @hl (ai @hn (ai @hu (ai @lr (ai @len_lits (ai @set_len (ai @hs (ai @w0 (ai @w1 (ai @w2 (ai @w4 (ai @w5 (ai @w6 (ai @q2 @set_set')))))))))))))); refine gR ?_; clear F)
   (have F := ai @q1 (ai @hl (ai @hn (ai @hu (ai @lr (ai @len_lits (ai @set_len (ai @hs (ai @w0 (ai @w1 (ai @w2 (ai @w4 (ai @w5 (ai @w6 (ai @q2 @set_set')))))))))))))); refine gG ?_; clear F)
   refine gB ?_
   (have F := ai @q1 (ai @hl (ai @hn (ai @hu (ai @lr (ai @len_lits (ai @set_len (ai @hs (ai @w0 (ai @w1 (ai @w2 (ai @w4 (ai @w5 (ai @w6 (ai @q2 @set_set')))))))))))))); refine gCP [1003] [1003] (hm3 (kk + 1 + 1 + 1) (Es 0) u3 (by omega) (by omega)) ?_; clear F)
   rintro r pm ⟨F3, rfl, rfl⟩
   simp only [setA, retA, zipM, List.cons_append, List.nil_append]
   (have F := ai @q1 (ai @hl (ai @hn (ai @hu (ai @lr (ai @len_lits (ai @set_len (ai @hs (ai @w0 (ai @w1 (ai @w2 (ai @w4 (ai @w5 (ai @w6 (ai @q2 @set_set')))))))))))))); refine gR ?_; clear F)
   (have F := ai @q1 (ai @hl (ai @hn (ai @hu (ai @lr (ai @len_lits (ai @set_len (ai @hs (ai @w0 (ai @w1 (ai @w2 (ai @w4 (ai @w5 (ai @w6 (ai @q2 @set_set')))))))))))))); refine gG ?_; clear F)
   refine gB ?_
   (have F := ai @q1 (ai @hl (ai @hn (ai @hu (ai @lr (ai @len_lits (ai @set_len (ai @hs (ai @w0 (ai @w1 (ai @w2 (ai @w4 (ai @w5 (ai @w6 (ai @q2 @set_set')))))))))))))); refine gC (con_markText (kk + 1 + 1 + 1 + (cntRows r3 : Int) + 1) (by omega) (by omega)) ?_; clear F)
   (have F := ai @q1 (ai @hl (ai @hn (ai @hu (ai @lr (ai @len_lits (ai @set_len (ai @hs (ai @w0 (ai @w1 (ai @w2 (ai @w4 (ai @w5 (ai @w6 (ai @q2 @set_set')))))))))))))); refine gR ?_; clear F)
   (have F := ai @q1 (ai @hl (ai @hn (ai @hu (ai @lr (ai @len_lits (ai @set_len (ai @hs (ai @w0 (ai @w1 (ai @w2 (ai @w4 (ai @w5 (ai @w6 (ai @q2 @set_set')))))))))))))); refine gG ?_; clear F)
   refine gB ?_
   (have F := ai @q1 (ai @hl (ai @hn (ai @hu (ai @lr (ai @len_lits (ai @set_len (ai @hs (ai @w0 (ai @w1 (ai @w2 (ai @w4 (ai @w5 (ai @w6 (ai @q2 @set_set')))))))))))))); refine gCP [1004] [1004] (hm7 (kk + 1 + 1 + 1 + (cntRows r3 : Int) + 1 + 1 + 1) (Es 1) u7 (by omega) (by omega)) ?_; clear F)
   rintro r pm ⟨F7, rfl, rfl⟩
   simp only [setA, retA, zipM, List.cons_append, List.nil_append]
   (have F := ai @q1 (ai @hl (ai @hn (ai @hu (ai @lr (ai @len_lits (ai @set_len (ai @hs (ai @w0 (ai @w1 (ai @w2 (ai @w4 (ai @w5 (ai @w6 (ai @q2 @set_set')))))))))))))); refine gR ?_; clear F)
   obtain ⟨E6, hre⟩ : ∃ E6, Retold [.set E3 (fun w => OwnVs w (mkRows k (rows.take i)) E3 (us.take i)), .set F3 (fun w => Own w (.sl (mkRows (kk + 1 + 1 + 1) r3)) F3 u3), .set F7 (fun w => Own w (.sl (mkRows (kk + 1 + 1 + 1 + (cntRows r3 : Int) + 1 + 1 + 1) r7)) F7 u7)] [.set E6 (fun w => OwnVs w (mkRows k (rows.take (i + 1))) E6 ((us.set i [.int .i64 (kk), .string (txt (kk + 1)), .int .i64 (kk + 1 + 1), u3, .int .i64 (kk + 1 + 1 + 1 + (cntRows r3 : Int)), .string (txt (kk + 1 + 1 + 1 + (cntRows r3 : Int) + 1)), .int .i64 (kk + 1 + 1 + 1 + (cntRows r3 : Int) + 1 + 1), u7]).take (i + 1)))] := by
    have hz := re_row (E := E3) (done := mkRows k (rows.take i)) (ud := us.take i) (cs := [.lit (.int .i64 (kk)), .lit (.string (txt (kk + 1))), .lit (.int .i64 (kk + 1 + 1)), .sl (mkRows (kk + 1 + 1 + 1) r3), .lit (.int .i64 (kk + 1 + 1 + 1 + (cntRows r3 : Int))), .lit (.string (txt (kk + 1 + 1 + 1 + (cntRows r3 : Int) + 1))), .lit (.int .i64 (kk + 1 + 1 + 1 + (cntRows r3 : Int) + 1 + 1)), .sl (mkRows (kk + 1 + 1 + 1 + (cntRows r3 : Int) + 1 + 1 + 1) r7)]) (us := [.int .i64 (kk), .string (txt (kk + 1)), .int .i64 (kk + 1 + 1), u3, .int .i64 (kk + 1 + 1 + 1 + (cntRows r3 : Int)), .string (txt (kk + 1 + 1 + 1 + (cntRows r3 : Int) + 1)), .int .i64 (kk + 1 + 1 + 1 + (cntRows r3 : Int) + 1 + 1), u7]) (Es := fun k => match k with | 0 => F3 | _ => F7) rfl ⟨rfl, rfl, rfl, rfl, rfl, rfl, trivial⟩
    rw [tk_snoc hr, mkRows_snoc, hkk, set_take (by omega)]
    simp only [mkRow, mkC, mkV, cntC, Int.natCast_one]
    exact ⟨_, hz⟩
   refine pE [1002, 1003, 1004] [1002] hre ?_
   have e1 : ((us.set i [.int .i64 (kk), .string (txt (kk + 1)), .int .i64 (kk + 1 + 1), u3, .int .i64 (kk + 1 + 1 + 1 + (cntRows r3 : Int)), .string (txt (kk + 1 + 1 + 1 + (cntRows r3 : Int) + 1)), .int .i64 (kk + 1 + 1 + 1 + (cntRows r3 : Int) + 1 + 1), u7]).map litRow) = (us.map litRow).set i [.lit (.int .i64 (kk)), .lit (.string (txt (kk + 1))), .lit (.int .i64 (kk + 1 + 1)), .lit (u3), .lit (.int .i64 (kk + 1 + 1 + 1 + (cntRows r3 : Int))), .lit (.string (txt (kk + 1 + 1 + 1 + (cntRows r3 : Int) + 1))), .lit (.int .i64 (kk + 1 + 1 + 1 + (cntRows r3 : Int) + 1 + 1)), .lit (u7)] := by rw [List.map_set]; rfl
   have e2 := set_drop us i [.int .i64 (kk), .string (txt (kk + 1)), .int .i64 (kk + 1 + 1), u3, .int .i64 (kk + 1 + 1 + 1 + (cntRows r3 : Int)), .string (txt (kk + 1 + 1 + 1 + (cntRows r3 : Int) + 1)), .int .i64 (kk + 1 + 1 + 1 + (cntRows r3 : Int) + 1 + 1), u7]
   have e5 : k + (cntRows (rows.take (i + 1)) : Int) = kk + 1 + 1 + 1 + (cntRows r3 : Int) + 1 + 1 + 1 + (cntRows r7 : Int) := by rw [hc1]; omega
   have hn2 : (us.set i [.int .i64 (kk), .string (txt (kk + 1)), .int .i64 (kk + 1 + 1), u3, .int .i64 (kk + 1 + 1 + 1 + (cntRows r3 : Int)), .string (txt (kk + 1 + 1 + 1 + (cntRows r3 : Int) + 1)), .int .i64 (kk + 1 + 1 + 1 + (cntRows r3 : Int) + 1 + 1), u7]).length = rows.length := by rw [set_len, hn]
   generalize us.set i [.int .i64 (kk), .string (txt (kk + 1)), .int .i64 (kk + 1 + 1), u3, .int .i64 (kk + 1 + 1 + 1 + (cntRows r3 : Int)), .string (txt (kk + 1 + 1 + 1 + (cntRows r3 : Int) + 1)), .int .i64 (kk + 1 + 1 + 1 + (cntRows r3 : Int) + 1 + 1), u7] = us2 at e1 e2 hn2 ⊢
   rw [<- e1, <- e2]
   (have F := ai @wi (ai @e5 (ai @hl (ai @w0 (ai @w1 (ai @w2 (ai @w4 (ai @w5 (ai @w6 @hn)))))))); refine gG ?_; exact ⟨(i + 1, us2, E4, E6), ⟨hlt, hn2⟩, gw, gw, by omega⟩)
  ·obtain rfl : i = rows.length := by omega
   have q1 : ((rows.length : Int) < (rows.length : Int)) = False := eq_false (by omega)
   rw [List.take_length, List.take_of_length_le (Nat.le_of_eq hn)]
   (have F := ai @q1 (ai @hl @hn); refine gG ?_; clear F)
   obtain ⟨E6, hre⟩ : ∃ E6, Retold [.buf (some (a, cap)) ety 8 (us.map litRow), .set E3 (fun w => OwnVs w (mkRows k rows) E3 us)] [.set E6 (fun w => Own w (.sl (mkRows k rows)) E6 (.slice a uss.length cap))] := by
    rw [hl, <- hn]
    exact ⟨_, re_close (fun w h => h) (Own.stable _ _ _)⟩
   refine pE [1000, 1002] [1000] hre ?_
   have F := hk
   exact gTP (R := fun r pm => ∃ E', r = [.one (.lit (.int .i64 (k + (cntRows rows : Nat))))] ∧ pm = [.set E' (fun w => Own w (.sl (mkRows k rows)) E' (.slice a uss.length cap))]) [1000] ⟨E6, rfl, rfl⟩
theorem markBindingS_all {rows : List (List C)} (hok : okRows (fieldsOf .binding) rows) : MarkS 60 rows := mark_BindingS_of hok
end Go.Proofs.YtohilkmdjdfljaaGreat
namespace Go.Proofs.YtohilkmdjdfljaaGreat
open Go.RowKit
set_option maxHeartbeats 16000000 in
set_option maxRecDepth 100000 in
theorem markOccurrence_all {row : List C} (hok : okRow (fieldsOf .occ) row) : MarkV 19 row := by
 obtain ⟨r0, r1, r2, r3, rfl, g0, g1, g2, g3⟩ := okRow_Occurrence hok
 intro kk E us hl hc hk hb
 obtain ⟨u0, u1, u2, u3, rfl⟩ := len4 hl
 have kc : okCell (.lit u0) = true ∧ okCell (.lit u1) = true ∧ okCell (.lit u2) = true ∧ okCell (.lit u3) = true := by simpa [litRow, Bool.and_eq_true, and_assoc] using hc
 obtain ⟨k0, k1, k2, k3⟩ := kc
 simp only [cntTop, Nat.add_zero] at hb ⊢
 have lr : litRow [u0, u1, u2, u3] = [.lit u0, .lit u1, .lit u2, .lit u3] := rfl
 rw [lr]
 refine gIP (ts := [.slot 4]) [1000] 23 Tryz.func19 ?_
 refine pEx (f := fun (x : Nat -> Nat -> Prop) => [.set (x 0) (fun w => Own w (.sl r0) (x 0) u0), .set (x 1) (fun w => Own w (.sl r1) (x 1) u1), .set (x 2) (fun w => Own w (.sl r2) (x 2) u2), .set (x 3) (fun w => Own w (.sl r3) (x 3) u3)]) [1000] [1003, 1004, 1005, 1006] (fd_cells rfl) ?_
 rintro Es -
 try dsimp only
 (have F := ai @lr (ai @k0 (ai @k1 (ai @k2 @k3))); refine gG ?_; clear F)
 refine gB ?_
 (have F := ai @lr (ai @k0 (ai @k1 (ai @k2 @k3))); refine gCP [1003] [1003] (markIntS_all g0 (kk) (Es 0) u0 (by omega) (by omega)) ?_; clear F)
 rintro r pm ⟨F0, rfl, rfl⟩
 simp only [setA, retA, zipM, List.cons_append, List.nil_append]
 (have F := ai @lr (ai @k0 (ai @k1 (ai @k2 @k3))); refine gR ?_; clear F)
 (have F := ai @lr (ai @k0 (ai @k1 (ai @k2 @k3))); refine gG ?_; clear F)
 refine gB ?_
 (have F := ai @lr (ai @k0 (ai @k1 (ai @k2 @k3))); refine gCP [1004] [1004] (markTermS_all g1 (kk + (cntRows r0 : Int)) (Es 1) u1 (by omega) (by omega)) ?_; clear F)
 rintro r pm ⟨F1, rfl, rfl⟩
 simp only [setA, retA, zipM, List.cons_append, List.nil_append]
 (have F := ai @lr (ai @k0 (ai @k1 (ai @k2 @k3))); refine gR ?_; clear F)
 (have F := ai @lr (ai @k0 (ai @k1 (ai @k2 @k3))); refine gG ?_; clear F)
 refine gB ?_
 (have F := ai @lr (ai @k0 (ai @k1 (ai @k2 @k3))); refine gCP [1005] [1005] (markTermS_all g2 (kk + (cntRows r0 : Int) + (cntRows r1 : Int)) (Es 2) u2 (by omega) (by omega)) ?_; clear F)
 rintro r pm ⟨F2, rfl, rfl⟩
 simp only [setA, retA, zipM, List.cons_append, List.nil_append]
 (have F := ai @lr (ai @k0 (ai @k1 (ai @k2 @k3))); refine gR ?_; clear F)
 (have F := ai @lr (ai @k0 (ai @k1 (ai @k2 @k3))); refine gG ?_; clear F)
 refine gB ?_
 (have F := ai @lr (ai @k0 (ai @k1 (ai @k2 @k3))); refine gCP [1006] [1006] (markBindingS_all g3 (kk + (cntRows r0 : Int) + (cntRows r1 : Int) + (cntRows r2 : Int)) (Es 3) u3 (by omega) (by omega)) ?_; clear F)
 rintro r pm ⟨F3, rfl, rfl⟩
 simp only [setA, retA, zipM, List.cons_append, List.nil_append]
 (have F := ai @lr (ai @k0 (ai @k1 (ai @k2 @k3))); refine gR ?_; clear F)
 (have F := ai @lr (ai @k0 (ai @k1 (ai @k2 @k3))); refine gG ?_; clear F)
 obtain ⟨E6, hre⟩ : ∃ E6, Retold [.set F0 (fun w => Own w (.sl (mkRows (kk) r0)) F0 u0), .set F1 (fun w => Own w (.sl (mkRows (kk + (cntRows r0 : Int)) r1)) F1 u1), .set F2 (fun w => Own w (.sl (mkRows (kk + (cntRows r0 : Int) + (cntRows r1 : Int)) r2)) F2 u2), .set F3 (fun w => Own w (.sl (mkRows (kk + (cntRows r0 : Int) + (cntRows r1 : Int) + (cntRows r2 : Int)) r3)) F3 u3)] [.set E6 (fun w => OwnVals w [.sl (mkRows (kk) r0), .sl (mkRows (kk + (cntRows r0 : Int)) r1), .sl (mkRows (kk + (cntRows r0 : Int) + (cntRows r1 : Int)) r2), .sl (mkRows (kk + (cntRows r0 : Int) + (cntRows r1 : Int) + (cntRows r2 : Int)) r3)] E6 [u0, u1, u2, u3])] := ⟨_, re_cells (cs := [.sl (mkRows (kk) r0), .sl (mkRows (kk + (cntRows r0 : Int)) r1), .sl (mkRows (kk + (cntRows r0 : Int) + (cntRows r1 : Int)) r2), .sl (mkRows (kk + (cntRows r0 : Int) + (cntRows r1 : Int) + (cntRows r2 : Int)) r3)]) (us := [u0, u1, u2, u3]) (Es := fun k => match k with | 0 => F0 | 1 => F1 | 2 => F2 | _ => F3) rfl trivial⟩
 refine pE [1003, 1004, 1005, 1006] [1000] hre ?_
 have F := hk
 have ee : kk + (cntRows r0 : Int) + (cntRows r1 : Int) + (cntRows r2 : Int) + (cntRows r3 : Int) = kk + ((cntRows r0 + (cntRows r1 + (cntRows r2 + (cntRows r3))) : Nat) : Int) := by omega
 rw [ee]
 exact gTP (R := fun r pm => ∃ E', r = [.one (.lit (.int .i64 (kk + ((cntRows r0 + (cntRows r1 + (cntRows r2 + (cntRows r3))) : Nat) : Int))))] ∧ pm = [.set E' (fun w => OwnVals w (mkTop kk [.sl r0, .sl r1, .sl r2, .sl r3]) E' [u0, u1, u2, u3])]) [1000] ⟨E6, rfl, by simp only [mkTop]; rfl⟩
end Go.Proofs.YtohilkmdjdfljaaGreat
namespace Go.Proofs.YtohilkmdjdfljaaGreat
open Go.RowKit
theorem fields_le (t : TN) : (fieldsOf t).length <= 16 := by cases t <;> decide
mutual
theorem cnt_okC : ∀ (f : F) (c : C), okC f c -> cntC c <= 1 + 16 * bulkC c
 | f, .lit v, _ => by simp only [cntC]; omega
 | .sl t, .sl rows, h => by
  have := cnt_okRows (fieldsOf t) rows (fields_le t) (by simpa [okC] using h)
  simp only [cntC, bulkC]
  omega
 | .int, .sl _, h => by simp [okC] at h
 | .str, .sl _, h => by simp [okC] at h
 | .bool, .sl _, h => by simp [okC] at h
 | f, .ptr _, _ => by simp [cntC]
 | f, .fn _ _, _ => by simp [cntC]
theorem cnt_okRows : ∀ (fs : List F) (rows : List (List C)), fs.length <= 16 -> okRows fs rows -> cntRows rows <= 16 * (rows.length + bulkRows rows)
 | fs, [], _, _ => by simp [cntRows]
 | fs, r :: rs, hl, h => by
  simp only [okRows] at h
  have h1 := cnt_okRow fs r h.1
  have h2 := cnt_okRows fs rs hl h.2
  simp only [cntRows, bulkRows, List.length_cons]
  omega
theorem cnt_okRow : ∀ (fs : List F) (cs : List C), okRow fs cs -> cntRow cs <= fs.length + 16 * bulkRow cs
 | [], [], _ => by simp [cntRow]
 | f :: fs, c :: cs, h => by
  simp only [okRow] at h
  have h1 := cnt_okC f c h.1
  have h2 := cnt_okRow fs cs h.2
  simp only [cntRow, bulkRow, List.length_cons]
  omega
 | [], _ :: _, h => by simp [okRow] at h
 | _ :: _, [], h => by simp [okRow] at h
end
theorem cntTop_ok : ∀ (fs : List F) (cs : List C), okRow fs cs -> cntTop cs <= 16 * bulkRow cs
 | [], [], _ => by simp [cntTop]
 | f :: fs, c :: cs, h => by
  simp only [okRow] at h
  have h2 := cntTop_ok fs cs h.2
  cases c with
  | lit v => simp only [cntTop, bulkRow]; omega
  | sl rows =>
   cases f with
   | sl t =>
    have := cnt_okRows (fieldsOf t) rows (fields_le t) (by simpa [okC] using h.1)
    simp only [cntTop, bulkRow, bulkC]
    omega
   | _ => simp [okC] at h
  | ptr _ => simp only [cntTop, bulkRow]; omega
  | fn _ _ => simp only [cntTop, bulkRow]; omega
 | [], _ :: _, h => by simp [okRow] at h
 | _ :: _, [], h => by simp [okRow] at h
theorem lits_len {us : List Value} {n : Nat} (h : us.length = n) : (litRow us).length = n ∧ (litRow us).take n = litRow us ∧ (litRow us).drop n = [] := by
 have hl : (litRow us).length = n := by unfold litRow; rw [List.length_map]; exact h
 exact ⟨hl, List.take_of_length_le (Nat.le_of_eq hl), List.drop_of_length_le (Nat.le_of_eq hl)⟩
end Go.Proofs.YtohilkmdjdfljaaGreat
