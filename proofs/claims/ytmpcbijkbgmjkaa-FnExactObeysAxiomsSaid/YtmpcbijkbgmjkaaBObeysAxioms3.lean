/-
  Part 3 of a proof: O2, O3, Alg1, Decls2.
-/
import Derived.Test.YtmpcbijkbgmjkaaBObeysAxioms0
import Derived.Test.YtmpcbijkbgmjkaaBObeysAxioms1
import Derived.Test.YtmpcbijkbgmjkaaBObeysAxioms2
set_option linter.unusedSimpArgs false
set_option linter.unusedVariables false
namespace Go.Proofs.Ytmpcbijkbgmjkaa
open Go.RowKit

/-- What a table of two arguments gives. -/
def tw2 (a : Alg) (i : Nat) (x y : Int) : Int := (a.tables.getD i []).getD (x * a.size + y).toNat 0
def Inz (a : Alg) (x : Int) : Prop := 0 ≤ x ∧ x < a.size
/-- A table for two arguments. -/
structure Tab2 (a : Alg) (i : Nat) : Prop where
  lo : 1 ≤ a.size
  hi : a.size ≤ 4
  tab : ∃ l, a.tables[i]? = some l ∧ l.length = a.size.toNat * a.size.toNat ∧ ∀ x ∈ l, Inz a x
theorem Tab2.get {a : Alg} {i : Nat} (h : Tab2 a i) {x y : Int} (hx : Inz a x) (hy : Inz a y) : ∃ l, a.tables[i]? = some l ∧ IntKind.i64.wrap (x * a.size) = x * a.size ∧ IntKind.i64.wrap (x * a.size + y) = x * a.size + y ∧ 0 ≤ x * a.size + y ∧ l[(x * a.size + y).toNat]? = some (tw2 a i x y) ∧ Inz a (tw2 a i x y) := by
  obtain ⟨l, h1, h2, h3⟩ := h.tab
  have hlo := h.lo
  have hhi := h.hi
  obtain ⟨x0, x1⟩ := hx
  obtain ⟨y0, y1⟩ := hy
  have m0 : 0 ≤ x * a.size := Int.mul_nonneg x0 (by omega)
  have m1 : x * a.size + a.size ≤ a.size * a.size := by
    have : (x + 1) * a.size ≤ a.size * a.size := Int.mul_le_mul_of_nonneg_right (by omega) (by omega)
    rw [Int.add_mul] at this; omega
  have m2 : a.size * a.size ≤ 16 := by
    have := Int.mul_le_mul hhi hhi (by omega) (by omega)
    omega
  have hl : (x * a.size + y).toNat < l.length := by
    rw [h2]
    have e : ((a.size.toNat * a.size.toNat : Nat) : Int) = a.size * a.size := by rw [Int.natCast_mul, Int.toNat_of_nonneg (by omega)]
    omega
  have e1 : tw2 a i x y = l[(x * a.size + y).toNat] := by
    unfold tw2
    simp [List.getD_eq_getElem?_getD, h1, List.getElem?_eq_getElem hl]
  refine ⟨l, h1, wrapN rfl (by omega) (by omega), wrapN rfl (by omega) (by omega), by omega, ?_, ?_⟩
  · rw [e1]; exact List.getElem?_eq_getElem hl
  · rw [e1]; exact h3 _ (List.getElem_mem hl)
set_option maxHeartbeats 4000000 in
set_option maxRecDepth 100000 in
theorem con_l22Two {a : Alg} {i : Nat} {x y : Int} (ht : Tab2 a i) (hx : Inz a x) (hy : Inz a y) : Con e0 79 [.agg (encAlg a), .one (.lit (.int .i64 i)), .one (.lit (.int .i64 x)), .one (.lit (.int .i64 y))] [.one (.lit (.int .i64 (tw2 a i x y)))] := by
  obtain ⟨l, h, hw, hw2, h0, hv, _⟩ := ht.get hx hy
  refine con_of_pwp e0_ok 287 Try.func79 rfl (by kernel_rfl) (by kernel_rfl) rfl rfl ?_
  (repeat (with_reducible refine pwp_seq ?_))
  (refine region_0 (by simp only [List.map_cons, List.map_nil]; exact rfl) (runs_end (by simp only [tt_0, tt_1, tt_2, tt_3, tt_4, tt_5, tt_6, tt_7, pm_0, pm_1, pm_2, pm_3, pm_4, pm_5, pm_6, pm_7, e0P, gs, gm, initS, rb_int, rb_str, rb_sub, rb_dcl, rb_opr, rb_ints, rowsB_nil, rowsB_cons, bqtt, bqtf, bqft, bqff, List.map_cons, List.map_nil, List.getElem?_cons_zero, List.getElem?_cons_succ, List.getElem?_map, Option.map_some, Option.map_none, Option.join_some, Option.getD_some, Option.isNone_none, Option.isNone_some, Option.isSome_none, Option.isSome_some, List.drop_succ_cons, List.drop_zero, List.drop_nil, List.take_succ_cons, List.take_zero, List.length_cons, List.length_nil, List.length_map, List.length_append, List.all_cons, List.all_nil, List.isEmpty_cons, List.isEmpty_nil, List.cons_append, List.nil_append, List.append_nil, Bool.and_self, Bool.or_true, Bool.true_or, Bool.or_false, Bool.false_or, ↓reduceIte, Nat.reduceEqDiff, Nat.reduceAdd, Nat.reduceSub, Nat.reduceMul, Nat.reduceLeDiff, Nat.reduceBEq, Nat.zero_add, Nat.add_zero, and_self, true_and, and_true, Bool.not_true, Bool.not_false, Bool.false_eq_true, decide_true, decide_false, natInt, Int.natCast_nonneg, Int.toNat_zero, Int.toNat_one, Int.reduceLE, Int.reduceToNat, Int.reduceLT, Int.reduceEq, eq_self, Nat.le_refl, encAlg]; exact rfl) (by simp only [trimS, Nat.testBit, Nat.reduceShiftRight, Nat.reduceAnd, Nat.reduceBneDiff, Nat.reduceBEq, bne, Bool.not_true, Bool.not_false, ↓reduceIte, Bool.false_eq_true]; exact rfl) ?_)
   change pwp _ _ _ _ _)
  (repeat (with_reducible refine pwp_seq ?_))
  (refine region_D 13 (by kernel_rfl) (by simp only [List.map_cons, List.map_nil]; exact rfl) (runs_end (by simp only [tt_0, tt_1, tt_2, tt_3, tt_4, tt_5, tt_6, tt_7, pm_0, pm_1, pm_2, pm_3, pm_4, pm_5, pm_6, pm_7, e0P, gs, gm, initS, rb_int, rb_str, rb_sub, rb_dcl, rb_opr, rb_ints, rowsB_nil, rowsB_cons, bqtt, bqtf, bqft, bqff, List.map_cons, List.map_nil, List.getElem?_cons_zero, List.getElem?_cons_succ, List.getElem?_map, Option.map_some, Option.map_none, Option.join_some, Option.getD_some, Option.isNone_none, Option.isNone_some, Option.isSome_none, Option.isSome_some, List.drop_succ_cons, List.drop_zero, List.drop_nil, List.take_succ_cons, List.take_zero, List.length_cons, List.length_nil, List.length_map, List.length_append, List.all_cons, List.all_nil, List.isEmpty_cons, List.isEmpty_nil, List.cons_append, List.nil_append, List.append_nil, Bool.and_self, Bool.or_true, Bool.true_or, Bool.or_false, Bool.false_or, ↓reduceIte, Nat.reduceEqDiff, Nat.reduceAdd, Nat.reduceSub, Nat.reduceMul, Nat.reduceLeDiff, Nat.reduceBEq, Nat.zero_add, Nat.add_zero, and_self, true_and, and_true, Bool.not_true, Bool.not_false, Bool.false_eq_true, decide_true, decide_false, natInt, Int.natCast_nonneg, Int.toNat_zero, Int.toNat_one, Int.reduceLE, Int.reduceToNat, Int.reduceLT, Int.reduceEq, eq_self, Nat.le_refl, encAlg, encInts, encInt, h, hw, hw2, h0, hv]; exact rfl) (by simp only [trimS, Nat.testBit, Nat.reduceShiftRight, Nat.reduceAnd, Nat.reduceBneDiff, Nat.reduceBEq, bne, Bool.not_true, Bool.not_false, ↓reduceIte, Bool.false_eq_true]; exact rfl) ?_)
   change pwp _ _ _ _ _)
  (refine pwp_ret (ret_ok ?_))
  simp [resOk, resA, resSlots, gs]

/-- The unit's value. -/
def unv (a : Alg) (o : Opr) : Int := (a.tables.getD (o.unit.toNat - 1) []).getD 0 0
structure OpOk (a : Alg) (i : Nat) (o : Opr) : Prop where
  unit : o.unit ≠ 0 → ∀ x, Inz a x → tw2 a i x (unv a o) = x ∧ tw2 a i (unv a o) x = x
  comm : o.comm = true → ∀ x y, Inz a x → Inz a y → tw2 a i x y = tw2 a i y x
  assoc : o.assoc = true → ∀ x y z, Inz a x → Inz a y → Inz a z → tw2 a i (tw2 a i x y) z = tw2 a i x (tw2 a i y z)
open Classical in
noncomputable def isOp (a : Alg) (i : Nat) (o : Opr) : Bool := decide (OpOk a i o)
theorem isOp_true {a : Alg} {i : Nat} {o : Opr} (h : OpOk a i o) : isOp a i o = true := by simp [isOp, h]
theorem isOp_false {a : Alg} {i : Nat} {o : Opr} (h : ¬ OpOk a i o) : isOp a i o = false := by simp [isOp, h]
structure ObOk (g : Sgn) (a : Alg) : Prop where
  alg : AlgOk g a
  all : ∀ (i : Nat) (o : Opr), g.ops[i]? = some o → OpOk a i o
open Classical in
noncomputable def isOb (g : Sgn) (a : Alg) : Bool := decide (ObOk g a)
theorem isOb_true {g : Sgn} {a : Alg} (h : ObOk g a) : isOb g a = true := by simp [isOb, h]
theorem isOb_false {g : Sgn} {a : Alg} (h : ¬ ObOk g a) : isOb g a = false := by simp [isOb, h]

/-- What a valid algebra has for an operator. -/
structure AtOp (g : Sgn) (a : Alg) (i : Nat) (o : Opr) : Prop where
  lo : 1 ≤ a.size
  hi : a.size ≤ 4
  tab : (o.assoc = true ∨ o.comm = true ∨ o.unit ≠ 0) → Tab2 a i
  unit : o.unit ≠ 0 → ∃ (q : Nat) (l : List Int), o.unit = (q : Int) + 1 ∧ q < 14 ∧ a.tables[q]? = some l ∧ l[0]? = some (unv a o) ∧ Inz a (unv a o)
theorem AlgOk.atOp {g : Sgn} {a : Alg} (h : AlgOk g a) {i : Nat} {o : Opr} (ho : g.ops[i]? = some o) : AtOp g a i o := by
  have hm := List.mem_of_getElem? ho
  obtain ⟨d, hd, _⟩ := (h.sgn.decls o hm).first
  have hax := h.sgn.axs o hm
  have hil : i < g.ops.length := (List.getElem?_eq_some_iff.1 ho).1
  have hl14 := h.sgn.len
  refine ⟨h.lo, h.hi, fun ha => ?_, fun hu => ?_⟩
  · have h2 := (hax.two ha d hd).1
    obtain ⟨l, ht⟩ : ∃ l, a.tables[i]? = some l := ⟨_, List.getElem?_eq_getElem (by rw [h.len]; exact hil)⟩
    have hT := h.tab i o d l ho hd ht
    have hTl := hT.len
    rw [h2, Nat.pow_two] at hTl
    exact ⟨h.lo, h.hi, l, ht, hTl, hT.all⟩
  · have hlo := hax.lo
    have hhi := hax.hi
    have hq : o.unit.toNat - 1 < g.ops.length := by omega
    obtain ⟨p, hp⟩ : ∃ p, g.ops[o.unit.toNat - 1]? = some p := ⟨_, List.getElem?_eq_getElem hq⟩
    obtain ⟨u, hu', _⟩ := (h.sgn.decls p (List.mem_of_getElem? hp)).first
    obtain ⟨h2, h3⟩ := hax.two (.inr (.inr hu)) d hd
    obtain ⟨d0, hd0⟩ : ∃ x, d.args[0]? = some x := ⟨_, List.getElem?_eq_getElem (by omega)⟩
    obtain ⟨d1, hd1⟩ : ∃ x, d.args[1]? = some x := ⟨_, List.getElem?_eq_getElem (by omega)⟩
    have hz := ((h3 d0 d1 hd0 hd1).2.2 hu p u hp hu').1
    obtain ⟨l, ht⟩ : ∃ l, a.tables[o.unit.toNat - 1]? = some l := ⟨_, List.getElem?_eq_getElem (by rw [h.len]; exact hq)⟩
    have hT := h.tab _ p u l hp hu' ht
    have hTl := hT.len
    rw [hz, Nat.pow_zero] at hTl
    obtain ⟨v, hv⟩ : ∃ v, l[0]? = some v := ⟨_, List.getElem?_eq_getElem (by omega)⟩
    have e1 : unv a o = v := by unfold unv; simp [List.getD_eq_getElem?_getD, ht, hv]
    refine ⟨o.unit.toNat - 1, l, by omega, by omega, ht, by rw [e1]; exact hv, ?_⟩
    rw [e1]
    exact hT.all v (List.mem_of_getElem? hv)
theorem szN {a : Alg} (h0 : 1 ≤ a.size) (h1 : a.size ≤ 4) : ∃ n : Nat, a.size = (n : Int) ∧ 1 ≤ n ∧ n ≤ 4 := ⟨a.size.toNat, by omega, by omega, by omega⟩

set_option maxHeartbeats 40000000 in
set_option maxRecDepth 100000 in
theorem con_l22Axioms {g : Sgn} {a : Alg} {i : Nat} {o : Opr} (ho : g.ops[i]? = some o) (hA : AtOp g a i o) : Con e0 46 [.agg (encSgn g), .agg (encAlg a), .one (.lit (.int .i64 i))] [.one (.lit (.bool (isOp a i o)))] := by
  obtain ⟨n, hn, hn1, hn4⟩ := szN hA.lo hA.hi
  have inz : ∀ {x : Nat}, x < n → Inz a x := fun hx => ⟨by omega, by omega⟩
  have zin : ∀ {x : Int}, Inz a x → ∃ k : Nat, x = (k : Int) ∧ k < n := fun hx => ⟨_, (Int.toNat_of_nonneg hx.1).symm, by have := hx.2; omega⟩
  refine con_of_pwp e0_ok 324518709005399160074923339157471 Try.func46 rfl (by kernel_rfl) (by kernel_rfl) rfl rfl ?_
  (repeat (with_reducible refine pwp_seq ?_))
  (refine region_0 (by simp only [List.map_cons, List.map_nil]; exact rfl) (runs_end (by simp only [tt_0, tt_1, tt_2, tt_3, tt_4, tt_5, tt_6, tt_7, pm_0, pm_1, pm_2, pm_3, pm_4, pm_5, pm_6, pm_7, e0P, gs, gm, initS, rb_int, rb_str, rb_sub, rb_dcl, rb_opr, rb_ints, rowsB_nil, rowsB_cons, bqtt, bqtf, bqft, bqff, List.map_cons, List.map_nil, List.getElem?_cons_zero, List.getElem?_cons_succ, List.getElem?_map, Option.map_some, Option.map_none, Option.join_some, Option.getD_some, Option.isNone_none, Option.isNone_some, Option.isSome_none, Option.isSome_some, List.drop_succ_cons, List.drop_zero, List.drop_nil, List.take_succ_cons, List.take_zero, List.length_cons, List.length_nil, List.length_map, List.length_append, List.all_cons, List.all_nil, List.isEmpty_cons, List.isEmpty_nil, List.cons_append, List.nil_append, List.append_nil, Bool.and_self, Bool.or_true, Bool.true_or, Bool.or_false, Bool.false_or, ↓reduceIte, Nat.reduceEqDiff, Nat.reduceAdd, Nat.reduceSub, Nat.reduceMul, Nat.reduceLeDiff, Nat.reduceBEq, Nat.zero_add, Nat.add_zero, and_self, true_and, and_true, Bool.not_true, Bool.not_false, Bool.false_eq_true, decide_true, decide_false, natInt, Int.natCast_nonneg, Int.toNat_zero, Int.toNat_one, Int.reduceLE, Int.reduceToNat, Int.reduceLT, Int.reduceEq, eq_self, Nat.le_refl, encSgn, encAlg]; exact rfl) (by simp only [trimS, Nat.testBit, Nat.reduceShiftRight, Nat.reduceAnd, Nat.reduceBneDiff, Nat.reduceBEq, bne, Bool.not_true, Bool.not_false, ↓reduceIte, Bool.false_eq_true]; exact rfl) ?_)
   change pwp _ _ _ _ _)
  (repeat (with_reducible refine pwp_seq ?_))
  (refine region_0 (by simp only [List.map_cons, List.map_nil]; exact rfl) (runs_end (by simp only [tt_0, tt_1, tt_2, tt_3, tt_4, tt_5, tt_6, tt_7, pm_0, pm_1, pm_2, pm_3, pm_4, pm_5, pm_6, pm_7, e0P, gs, gm, initS, rb_int, rb_str, rb_sub, rb_dcl, rb_opr, rb_ints, rowsB_nil, rowsB_cons, bqtt, bqtf, bqft, bqff, List.map_cons, List.map_nil, List.getElem?_cons_zero, List.getElem?_cons_succ, List.getElem?_map, Option.map_some, Option.map_none, Option.join_some, Option.getD_some, Option.isNone_none, Option.isNone_some, Option.isSome_none, Option.isSome_some, List.drop_succ_cons, List.drop_zero, List.drop_nil, List.take_succ_cons, List.take_zero, List.length_cons, List.length_nil, List.length_map, List.length_append, List.all_cons, List.all_nil, List.isEmpty_cons, List.isEmpty_nil, List.cons_append, List.nil_append, List.append_nil, Bool.and_self, Bool.or_true, Bool.true_or, Bool.or_false, Bool.false_or, ↓reduceIte, Nat.reduceEqDiff, Nat.reduceAdd, Nat.reduceSub, Nat.reduceMul, Nat.reduceLeDiff, Nat.reduceBEq, Nat.zero_add, Nat.add_zero, and_self, true_and, and_true, Bool.not_true, Bool.not_false, Bool.false_eq_true, decide_true, decide_false, natInt, Int.natCast_nonneg, Int.toNat_zero, Int.toNat_one, Int.reduceLE, Int.reduceToNat, Int.reduceLT, Int.reduceEq, eq_self, Nat.le_refl, ho, encOpr]; exact rfl) (by simp only [trimS, Nat.testBit, Nat.reduceShiftRight, Nat.reduceAnd, Nat.reduceBneDiff, Nat.reduceBEq, bne, Bool.not_true, Bool.not_false, ↓reduceIte, Bool.false_eq_true]; exact rfl) ?_)
   change pwp _ _ _ _ _)
  (repeat (with_reducible refine pwp_seq ?_))
  (refine region_0 (by simp only [List.map_cons, List.map_nil]; exact rfl) (runs_end (by simp only [tt_0, tt_1, tt_2, tt_3, tt_4, tt_5, tt_6, tt_7, pm_0, pm_1, pm_2, pm_3, pm_4, pm_5, pm_6, pm_7, e0P, gs, gm, initS, rb_int, rb_str, rb_sub, rb_dcl, rb_opr, rb_ints, rowsB_nil, rowsB_cons, bqtt, bqtf, bqft, bqff, List.map_cons, List.map_nil, List.getElem?_cons_zero, List.getElem?_cons_succ, List.getElem?_map, Option.map_some, Option.map_none, Option.join_some, Option.getD_some, Option.isNone_none, Option.isNone_some, Option.isSome_none, Option.isSome_some, List.drop_succ_cons, List.drop_zero, List.drop_nil, List.take_succ_cons, List.take_zero, List.length_cons, List.length_nil, List.length_map, List.length_append, List.all_cons, List.all_nil, List.isEmpty_cons, List.isEmpty_nil, List.cons_append, List.nil_append, List.append_nil, Bool.and_self, Bool.or_true, Bool.true_or, Bool.or_false, Bool.false_or, ↓reduceIte, Nat.reduceEqDiff, Nat.reduceAdd, Nat.reduceSub, Nat.reduceMul, Nat.reduceLeDiff, Nat.reduceBEq, Nat.zero_add, Nat.add_zero, and_self, true_and, and_true, Bool.not_true, Bool.not_false, Bool.false_eq_true, decide_true, decide_false, natInt, Int.natCast_nonneg, Int.toNat_zero, Int.toNat_one, Int.reduceLE, Int.reduceToNat, Int.reduceLT, Int.reduceEq, eq_self, Nat.le_refl, e0P]; exact rfl) (by simp only [trimS, Nat.testBit, Nat.reduceShiftRight, Nat.reduceAnd, Nat.reduceBneDiff, Nat.reduceBEq, bne, Bool.not_true, Bool.not_false, ↓reduceIte, Bool.false_eq_true]; exact rfl) ?_)
   change pwp _ _ _ _ _)
  refine pwp_block ?_
  refine pwp_loop (ι := Nat) (fun x => ⟨[(8, A.d (.one (.lit (.int .i64 x)))), (2, A.d (.one (.lit (.int .i64 i)))), (4, .ref 4 0), (7, .ref 7 0)], [(7, .var (encOpr o)), (4, .var (encAlg a))]⟩)
    (fun x => x ≤ n ∧ (∀ (x' : Nat), x' < x → (o.unit ≠ 0 → tw2 a i x' (unv a o) = x' ∧ tw2 a i (unv a o) x' = x') ∧ ∀ (y : Nat), y < n → (o.comm = true → tw2 a i x' y = tw2 a i y x') ∧ (o.assoc = true → ∀ (z : Nat), z < n → tw2 a i (tw2 a i x' y) z = tw2 a i x' (tw2 a i y z)))) (fun x => n - x) 0 ⟨by omega, fun x' h => absurd h (by omega)⟩ (by simp [weakS, gs, e0P]) (by simp [weakM, gm, encOpr, encAlg]) fun x hx => ?_
  obtain ⟨hxn, hall⟩ := hx
  (repeat (with_reducible refine pwp_seq ?_))
  by_cases hlt : x < n
  rotate_left
  · have hlt' : ¬ ((x : Int) < a.size) := by omega
    have ht := isOp_true (a := a) (i := i) (o := o) ⟨fun hu x' hx' => by
        obtain ⟨k, rfl, hk⟩ := zin hx'
        exact (hall k (by omega)).1 hu, fun hc x' y hx' hy => by
        obtain ⟨k, rfl, hk⟩ := zin hx'
        obtain ⟨k2, rfl, hk2⟩ := zin hy
        exact ((hall k (by omega)).2 k2 hk2).1 hc, fun hc x' y z hx' hy hz => by
        obtain ⟨k, rfl, hk⟩ := zin hx'
        obtain ⟨k2, rfl, hk2⟩ := zin hy
        obtain ⟨k3, rfl, hk3⟩ := zin hz
        exact ((hall k (by omega)).2 k2 hk2).2 hc k3 hk3⟩
    (refine region_0 (by simp only [List.map_cons, List.map_nil]; exact rfl) (runs_end (by simp only [tt_0, tt_1, tt_2, tt_3, tt_4, tt_5, tt_6, tt_7, pm_0, pm_1, pm_2, pm_3, pm_4, pm_5, pm_6, pm_7, e0P, gs, gm, initS, rb_int, rb_str, rb_sub, rb_dcl, rb_opr, rb_ints, rowsB_nil, rowsB_cons, bqtt, bqtf, bqft, bqff, List.map_cons, List.map_nil, List.getElem?_cons_zero, List.getElem?_cons_succ, List.getElem?_map, Option.map_some, Option.map_none, Option.join_some, Option.getD_some, Option.isNone_none, Option.isNone_some, Option.isSome_none, Option.isSome_some, List.drop_succ_cons, List.drop_zero, List.drop_nil, List.take_succ_cons, List.take_zero, List.length_cons, List.length_nil, List.length_map, List.length_append, List.all_cons, List.all_nil, List.isEmpty_cons, List.isEmpty_nil, List.cons_append, List.nil_append, List.append_nil, Bool.and_self, Bool.or_true, Bool.true_or, Bool.or_false, Bool.false_or, ↓reduceIte, Nat.reduceEqDiff, Nat.reduceAdd, Nat.reduceSub, Nat.reduceMul, Nat.reduceLeDiff, Nat.reduceBEq, Nat.zero_add, Nat.add_zero, and_self, true_and, and_true, Bool.not_true, Bool.not_false, Bool.false_eq_true, decide_true, decide_false, natInt, Int.natCast_nonneg, Int.toNat_zero, Int.toNat_one, Int.reduceLE, Int.reduceToNat, Int.reduceLT, Int.reduceEq, eq_self, Nat.le_refl, encAlg, hlt']; exact rfl) (by simp only [trimS, Nat.testBit, Nat.reduceShiftRight, Nat.reduceAnd, Nat.reduceBneDiff, Nat.reduceBEq, bne, Bool.not_true, Bool.not_false, ↓reduceIte, Bool.false_eq_true]; exact rfl) ?_)
     change pwp _ _ _ _ _)
    (repeat (with_reducible refine pwp_seq ?_))
    (refine pwp_cf rfl ?_)
    (refine pwp_exit ?_
     change pwp _ _ _ _ _)
    ((repeat (with_reducible refine pwp_seq ?_))
     (refine region_0 (by simp only [List.map_cons, List.map_nil]; exact rfl) (runs_end (by simp only [tt_0, tt_1, tt_2, tt_3, tt_4, tt_5, tt_6, tt_7, pm_0, pm_1, pm_2, pm_3, pm_4, pm_5, pm_6, pm_7, e0P, gs, gm, initS, rb_int, rb_str, rb_sub, rb_dcl, rb_opr, rb_ints, rowsB_nil, rowsB_cons, bqtt, bqtf, bqft, bqff, List.map_cons, List.map_nil, List.getElem?_cons_zero, List.getElem?_cons_succ, List.getElem?_map, Option.map_some, Option.map_none, Option.join_some, Option.getD_some, Option.isNone_none, Option.isNone_some, Option.isSome_none, Option.isSome_some, List.drop_succ_cons, List.drop_zero, List.drop_nil, List.take_succ_cons, List.take_zero, List.length_cons, List.length_nil, List.length_map, List.length_append, List.all_cons, List.all_nil, List.isEmpty_cons, List.isEmpty_nil, List.cons_append, List.nil_append, List.append_nil, Bool.and_self, Bool.or_true, Bool.true_or, Bool.or_false, Bool.false_or, ↓reduceIte, Nat.reduceEqDiff, Nat.reduceAdd, Nat.reduceSub, Nat.reduceMul, Nat.reduceLeDiff, Nat.reduceBEq, Nat.zero_add, Nat.add_zero, and_self, true_and, and_true, Bool.not_true, Bool.not_false, Bool.false_eq_true, decide_true, decide_false, natInt, Int.natCast_nonneg, Int.toNat_zero, Int.toNat_one, Int.reduceLE, Int.reduceToNat, Int.reduceLT, Int.reduceEq, eq_self, Nat.le_refl, e0P]; exact rfl) (by simp only [trimS, Nat.testBit, Nat.reduceShiftRight, Nat.reduceAnd, Nat.reduceBneDiff, Nat.reduceBEq, bne, Bool.not_true, Bool.not_false, ↓reduceIte, Bool.false_eq_true]; exact rfl) ?_)
      change pwp _ _ _ _ _)
     (refine pwp_ret (ret_ok ?_))
     simp [resOk, resA, resSlots, gs, ht])
  have hlt' : ((x : Int) < a.size) := by omega
  have hX := inz hlt
  have hw := wrap1 (k := x) (by omega)
  (refine region_0 (by simp only [List.map_cons, List.map_nil]; exact rfl) (runs_end (by simp only [tt_0, tt_1, tt_2, tt_3, tt_4, tt_5, tt_6, tt_7, pm_0, pm_1, pm_2, pm_3, pm_4, pm_5, pm_6, pm_7, e0P, gs, gm, initS, rb_int, rb_str, rb_sub, rb_dcl, rb_opr, rb_ints, rowsB_nil, rowsB_cons, bqtt, bqtf, bqft, bqff, List.map_cons, List.map_nil, List.getElem?_cons_zero, List.getElem?_cons_succ, List.getElem?_map, Option.map_some, Option.map_none, Option.join_some, Option.getD_some, Option.isNone_none, Option.isNone_some, Option.isSome_none, Option.isSome_some, List.drop_succ_cons, List.drop_zero, List.drop_nil, List.take_succ_cons, List.take_zero, List.length_cons, List.length_nil, List.length_map, List.length_append, List.all_cons, List.all_nil, List.isEmpty_cons, List.isEmpty_nil, List.cons_append, List.nil_append, List.append_nil, Bool.and_self, Bool.or_true, Bool.true_or, Bool.or_false, Bool.false_or, ↓reduceIte, Nat.reduceEqDiff, Nat.reduceAdd, Nat.reduceSub, Nat.reduceMul, Nat.reduceLeDiff, Nat.reduceBEq, Nat.zero_add, Nat.add_zero, and_self, true_and, and_true, Bool.not_true, Bool.not_false, Bool.false_eq_true, decide_true, decide_false, natInt, Int.natCast_nonneg, Int.toNat_zero, Int.toNat_one, Int.reduceLE, Int.reduceToNat, Int.reduceLT, Int.reduceEq, eq_self, Nat.le_refl, encAlg, hlt']; exact rfl) (by simp only [trimS, Nat.testBit, Nat.reduceShiftRight, Nat.reduceAnd, Nat.reduceBneDiff, Nat.reduceBEq, bne, Bool.not_true, Bool.not_false, ↓reduceIte, Bool.false_eq_true]; exact rfl) ?_)
   change pwp _ _ _ _ _)
  (repeat (with_reducible refine pwp_seq ?_))
  (refine pwp_ct rfl ?_)
  (refine pwp_skip ?_
   change pwp _ _ _ _ _)
  (repeat (with_reducible refine pwp_seq ?_))
  refine pwp_block ?_
  have hno : ¬ OpOk a i o → isOp a i o = false := isOp_false
  refine pwp_to [(8, A.d (.one (.lit (.int .i64 x)))), (2, A.d (.one (.lit (.int .i64 i)))), (4, .ref 4 0), (7, .ref 7 0)] [(7, .var (encOpr o)), (4, .var (encAlg a))] (o.unit ≠ 0 → tw2 a i x (unv a o) = x ∧ tw2 a i (unv a o) x = x) (fun hU => ?_) ?_
  rotate_left
  · (repeat (with_reducible refine pwp_seq ?_))
    by_cases hu : o.unit = 0
    · have hpos : ¬ ((0 : Int) < 0) := by omega
      (refine region_0 (by simp only [List.map_cons, List.map_nil]; exact rfl) (runs_end (by simp only [tt_0, tt_1, tt_2, tt_3, tt_4, tt_5, tt_6, tt_7, pm_0, pm_1, pm_2, pm_3, pm_4, pm_5, pm_6, pm_7, e0P, gs, gm, initS, rb_int, rb_str, rb_sub, rb_dcl, rb_opr, rb_ints, rowsB_nil, rowsB_cons, bqtt, bqtf, bqft, bqff, List.map_cons, List.map_nil, List.getElem?_cons_zero, List.getElem?_cons_succ, List.getElem?_map, Option.map_some, Option.map_none, Option.join_some, Option.getD_some, Option.isNone_none, Option.isNone_some, Option.isSome_none, Option.isSome_some, List.drop_succ_cons, List.drop_zero, List.drop_nil, List.take_succ_cons, List.take_zero, List.length_cons, List.length_nil, List.length_map, List.length_append, List.all_cons, List.all_nil, List.isEmpty_cons, List.isEmpty_nil, List.cons_append, List.nil_append, List.append_nil, Bool.and_self, Bool.or_true, Bool.true_or, Bool.or_false, Bool.false_or, ↓reduceIte, Nat.reduceEqDiff, Nat.reduceAdd, Nat.reduceSub, Nat.reduceMul, Nat.reduceLeDiff, Nat.reduceBEq, Nat.zero_add, Nat.add_zero, and_self, true_and, and_true, Bool.not_true, Bool.not_false, Bool.false_eq_true, decide_true, decide_false, natInt, Int.natCast_nonneg, Int.toNat_zero, Int.toNat_one, Int.reduceLE, Int.reduceToNat, Int.reduceLT, Int.reduceEq, eq_self, Nat.le_refl, encOpr, hu, hpos]; exact rfl) (by simp only [trimS, Nat.testBit, Nat.reduceShiftRight, Nat.reduceAnd, Nat.reduceBneDiff, Nat.reduceBEq, bne, Bool.not_true, Bool.not_false, ↓reduceIte, Bool.false_eq_true]; exact rfl) ?_)
       change pwp _ _ _ _ _)
      (refine pwp_cf rfl ?_)
      (refine pwp_skip ?_
       exact ⟨by simp [weakS, gs, encOpr, encAlg, hu], by simp [weakM, gm, encOpr, encAlg, hu], fun h => absurd hu h⟩)
    obtain ⟨q, l, hq, hq14, hl, hl0, hE⟩ := hA.unit hu
    have ht := hA.tab (.inr (.inr hu))
    have hpos : (0 : Int) < (q : Int) + 1 := by omega
    have hsub : IntKind.i64.wrap ((q : Int) + 1 - 1) = (q : Int) := wrapN (by omega) (by omega) (by omega)
    (refine region_0 (by simp only [List.map_cons, List.map_nil]; exact rfl) (runs_end (by simp only [tt_0, tt_1, tt_2, tt_3, tt_4, tt_5, tt_6, tt_7, pm_0, pm_1, pm_2, pm_3, pm_4, pm_5, pm_6, pm_7, e0P, gs, gm, initS, rb_int, rb_str, rb_sub, rb_dcl, rb_opr, rb_ints, rowsB_nil, rowsB_cons, bqtt, bqtf, bqft, bqff, List.map_cons, List.map_nil, List.getElem?_cons_zero, List.getElem?_cons_succ, List.getElem?_map, Option.map_some, Option.map_none, Option.join_some, Option.getD_some, Option.isNone_none, Option.isNone_some, Option.isSome_none, Option.isSome_some, List.drop_succ_cons, List.drop_zero, List.drop_nil, List.take_succ_cons, List.take_zero, List.length_cons, List.length_nil, List.length_map, List.length_append, List.all_cons, List.all_nil, List.isEmpty_cons, List.isEmpty_nil, List.cons_append, List.nil_append, List.append_nil, Bool.and_self, Bool.or_true, Bool.true_or, Bool.or_false, Bool.false_or, ↓reduceIte, Nat.reduceEqDiff, Nat.reduceAdd, Nat.reduceSub, Nat.reduceMul, Nat.reduceLeDiff, Nat.reduceBEq, Nat.zero_add, Nat.add_zero, and_self, true_and, and_true, Bool.not_true, Bool.not_false, Bool.false_eq_true, decide_true, decide_false, natInt, Int.natCast_nonneg, Int.toNat_zero, Int.toNat_one, Int.reduceLE, Int.reduceToNat, Int.reduceLT, Int.reduceEq, eq_self, Nat.le_refl, encOpr, hq, hpos]; exact rfl) (by simp only [trimS, Nat.testBit, Nat.reduceShiftRight, Nat.reduceAnd, Nat.reduceBneDiff, Nat.reduceBEq, bne, Bool.not_true, Bool.not_false, ↓reduceIte, Bool.false_eq_true]; exact rfl) ?_)
     change pwp _ _ _ _ _)
    (repeat (with_reducible refine pwp_seq ?_))
    (refine pwp_ct rfl ?_)
    (repeat (with_reducible refine pwp_seq ?_))
    (refine region_0 (by simp only [List.map_cons, List.map_nil]; exact rfl) (runs_end (by simp only [tt_0, tt_1, tt_2, tt_3, tt_4, tt_5, tt_6, tt_7, pm_0, pm_1, pm_2, pm_3, pm_4, pm_5, pm_6, pm_7, e0P, gs, gm, initS, rb_int, rb_str, rb_sub, rb_dcl, rb_opr, rb_ints, rowsB_nil, rowsB_cons, bqtt, bqtf, bqft, bqff, List.map_cons, List.map_nil, List.getElem?_cons_zero, List.getElem?_cons_succ, List.getElem?_map, Option.map_some, Option.map_none, Option.join_some, Option.getD_some, Option.isNone_none, Option.isNone_some, Option.isSome_none, Option.isSome_some, List.drop_succ_cons, List.drop_zero, List.drop_nil, List.take_succ_cons, List.take_zero, List.length_cons, List.length_nil, List.length_map, List.length_append, List.all_cons, List.all_nil, List.isEmpty_cons, List.isEmpty_nil, List.cons_append, List.nil_append, List.append_nil, Bool.and_self, Bool.or_true, Bool.true_or, Bool.or_false, Bool.false_or, ↓reduceIte, Nat.reduceEqDiff, Nat.reduceAdd, Nat.reduceSub, Nat.reduceMul, Nat.reduceLeDiff, Nat.reduceBEq, Nat.zero_add, Nat.add_zero, and_self, true_and, and_true, Bool.not_true, Bool.not_false, Bool.false_eq_true, decide_true, decide_false, natInt, Int.natCast_nonneg, Int.toNat_zero, Int.toNat_one, Int.reduceLE, Int.reduceToNat, Int.reduceLT, Int.reduceEq, eq_self, Nat.le_refl, encAlg, encInts, encInt, hq, hsub, hl, hl0]; exact rfl) (by simp only [trimS, Nat.testBit, Nat.reduceShiftRight, Nat.reduceAnd, Nat.reduceBneDiff, Nat.reduceBEq, bne, Bool.not_true, Bool.not_false, ↓reduceIte, Bool.false_eq_true]; exact rfl) ?_)
     change pwp _ _ _ _ _)
    (repeat (with_reducible refine pwp_seq ?_))
    have c1 := con_l22Two ht hX hE
    have c2 := con_l22Two ht hE hX
    rw [encAlg] at c1 c2
    (refine region_0 (by simp only [List.map_cons, List.map_nil]; exact rfl) ?_)
    (refine runs_go (by simp only [tt_0, tt_1, tt_2, tt_3, tt_4, tt_5, tt_6, tt_7, pm_0, pm_1, pm_2, pm_3, pm_4, pm_5, pm_6, pm_7, e0P, gs, gm, initS, rb_int, rb_str, rb_sub, rb_dcl, rb_opr, rb_ints, rowsB_nil, rowsB_cons, bqtt, bqtf, bqft, bqff, List.map_cons, List.map_nil, List.getElem?_cons_zero, List.getElem?_cons_succ, List.getElem?_map, Option.map_some, Option.map_none, Option.join_some, Option.getD_some, Option.isNone_none, Option.isNone_some, Option.isSome_none, Option.isSome_some, List.drop_succ_cons, List.drop_zero, List.drop_nil, List.take_succ_cons, List.take_zero, List.length_cons, List.length_nil, List.length_map, List.length_append, List.all_cons, List.all_nil, List.isEmpty_cons, List.isEmpty_nil, List.cons_append, List.nil_append, List.append_nil, Bool.and_self, Bool.or_true, Bool.true_or, Bool.or_false, Bool.false_or, ↓reduceIte, Nat.reduceEqDiff, Nat.reduceAdd, Nat.reduceSub, Nat.reduceMul, Nat.reduceLeDiff, Nat.reduceBEq, Nat.zero_add, Nat.add_zero, and_self, true_and, and_true, Bool.not_true, Bool.not_false, Bool.false_eq_true, decide_true, decide_false, natInt, Int.natCast_nonneg, Int.toNat_zero, Int.toNat_one, Int.reduceLE, Int.reduceToNat, Int.reduceLT, Int.reduceEq, eq_self, Nat.le_refl, encAlg]; exact rfl) (by simp only [tt_0, tt_1, tt_2, tt_3, tt_4, tt_5, tt_6, tt_7, pm_0, pm_1, pm_2, pm_3, pm_4, pm_5, pm_6, pm_7, e0P, gs, gm, initS, rb_int, rb_str, rb_sub, rb_dcl, rb_opr, rb_ints, rowsB_nil, rowsB_cons, bqtt, bqtf, bqft, bqff, List.map_cons, List.map_nil, List.getElem?_cons_zero, List.getElem?_cons_succ, List.getElem?_map, Option.map_some, Option.map_none, Option.join_some, Option.getD_some, Option.isNone_none, Option.isNone_some, Option.isSome_none, Option.isSome_some, List.drop_succ_cons, List.drop_zero, List.drop_nil, List.take_succ_cons, List.take_zero, List.length_cons, List.length_nil, List.length_map, List.length_append, List.all_cons, List.all_nil, List.isEmpty_cons, List.isEmpty_nil, List.cons_append, List.nil_append, List.append_nil, Bool.and_self, Bool.or_true, Bool.true_or, Bool.or_false, Bool.false_or, ↓reduceIte, Nat.reduceEqDiff, Nat.reduceAdd, Nat.reduceSub, Nat.reduceMul, Nat.reduceLeDiff, Nat.reduceBEq, Nat.zero_add, Nat.add_zero, and_self, true_and, and_true, Bool.not_true, Bool.not_false, Bool.false_eq_true, decide_true, decide_false, natInt, Int.natCast_nonneg, Int.toNat_zero, Int.toNat_one, Int.reduceLE, Int.reduceToNat, Int.reduceLT, Int.reduceEq, eq_self, Nat.le_refl, encAlg]; exact rfl) (c1) (by simp only [setA, retA]; exact rfl) ?_)
    by_cases h1 : tw2 a i x (unv a o) = x
    rotate_left
    · have hf := hno fun hO => h1 (hO.unit hu x hX).1
      (refine runs_end (by simp only [tt_0, tt_1, tt_2, tt_3, tt_4, tt_5, tt_6, tt_7, pm_0, pm_1, pm_2, pm_3, pm_4, pm_5, pm_6, pm_7, e0P, gs, gm, initS, rb_int, rb_str, rb_sub, rb_dcl, rb_opr, rb_ints, rowsB_nil, rowsB_cons, bqtt, bqtf, bqft, bqff, List.map_cons, List.map_nil, List.getElem?_cons_zero, List.getElem?_cons_succ, List.getElem?_map, Option.map_some, Option.map_none, Option.join_some, Option.getD_some, Option.isNone_none, Option.isNone_some, Option.isSome_none, Option.isSome_some, List.drop_succ_cons, List.drop_zero, List.drop_nil, List.take_succ_cons, List.take_zero, List.length_cons, List.length_nil, List.length_map, List.length_append, List.all_cons, List.all_nil, List.isEmpty_cons, List.isEmpty_nil, List.cons_append, List.nil_append, List.append_nil, Bool.and_self, Bool.or_true, Bool.true_or, Bool.or_false, Bool.false_or, ↓reduceIte, Nat.reduceEqDiff, Nat.reduceAdd, Nat.reduceSub, Nat.reduceMul, Nat.reduceLeDiff, Nat.reduceBEq, Nat.zero_add, Nat.add_zero, and_self, true_and, and_true, Bool.not_true, Bool.not_false, Bool.false_eq_true, decide_true, decide_false, natInt, Int.natCast_nonneg, Int.toNat_zero, Int.toNat_one, Int.reduceLE, Int.reduceToNat, Int.reduceLT, Int.reduceEq, eq_self, Nat.le_refl, h1]; exact rfl) (by simp only [trimS, Nat.testBit, Nat.reduceShiftRight, Nat.reduceAnd, Nat.reduceBneDiff, Nat.reduceBEq, bne, Bool.not_true, Bool.not_false, ↓reduceIte, Bool.false_eq_true]; exact rfl) ?_
       change pwp _ _ _ _ _)
      (refine pwp_ct rfl ?_)
      ((repeat (with_reducible refine pwp_seq ?_))
       (refine region_0 (by simp only [List.map_cons, List.map_nil]; exact rfl) (runs_end (by simp only [tt_0, tt_1, tt_2, tt_3, tt_4, tt_5, tt_6, tt_7, pm_0, pm_1, pm_2, pm_3, pm_4, pm_5, pm_6, pm_7, e0P, gs, gm, initS, rb_int, rb_str, rb_sub, rb_dcl, rb_opr, rb_ints, rowsB_nil, rowsB_cons, bqtt, bqtf, bqft, bqff, List.map_cons, List.map_nil, List.getElem?_cons_zero, List.getElem?_cons_succ, List.getElem?_map, Option.map_some, Option.map_none, Option.join_some, Option.getD_some, Option.isNone_none, Option.isNone_some, Option.isSome_none, Option.isSome_some, List.drop_succ_cons, List.drop_zero, List.drop_nil, List.take_succ_cons, List.take_zero, List.length_cons, List.length_nil, List.length_map, List.length_append, List.all_cons, List.all_nil, List.isEmpty_cons, List.isEmpty_nil, List.cons_append, List.nil_append, List.append_nil, Bool.and_self, Bool.or_true, Bool.true_or, Bool.or_false, Bool.false_or, ↓reduceIte, Nat.reduceEqDiff, Nat.reduceAdd, Nat.reduceSub, Nat.reduceMul, Nat.reduceLeDiff, Nat.reduceBEq, Nat.zero_add, Nat.add_zero, and_self, true_and, and_true, Bool.not_true, Bool.not_false, Bool.false_eq_true, decide_true, decide_false, natInt, Int.natCast_nonneg, Int.toNat_zero, Int.toNat_one, Int.reduceLE, Int.reduceToNat, Int.reduceLT, Int.reduceEq, eq_self, Nat.le_refl, e0P]; exact rfl) (by simp only [trimS, Nat.testBit, Nat.reduceShiftRight, Nat.reduceAnd, Nat.reduceBneDiff, Nat.reduceBEq, bne, Bool.not_true, Bool.not_false, ↓reduceIte, Bool.false_eq_true]; exact rfl) ?_)
        change pwp _ _ _ _ _)
       (refine pwp_ret (ret_ok ?_))
       simp [resOk, resA, resSlots, gs, hf])
    (refine runs_go (by simp only [tt_0, tt_1, tt_2, tt_3, tt_4, tt_5, tt_6, tt_7, pm_0, pm_1, pm_2, pm_3, pm_4, pm_5, pm_6, pm_7, e0P, gs, gm, initS, rb_int, rb_str, rb_sub, rb_dcl, rb_opr, rb_ints, rowsB_nil, rowsB_cons, bqtt, bqtf, bqft, bqff, List.map_cons, List.map_nil, List.getElem?_cons_zero, List.getElem?_cons_succ, List.getElem?_map, Option.map_some, Option.map_none, Option.join_some, Option.getD_some, Option.isNone_none, Option.isNone_some, Option.isSome_none, Option.isSome_some, List.drop_succ_cons, List.drop_zero, List.drop_nil, List.take_succ_cons, List.take_zero, List.length_cons, List.length_nil, List.length_map, List.length_append, List.all_cons, List.all_nil, List.isEmpty_cons, List.isEmpty_nil, List.cons_append, List.nil_append, List.append_nil, Bool.and_self, Bool.or_true, Bool.true_or, Bool.or_false, Bool.false_or, ↓reduceIte, Nat.reduceEqDiff, Nat.reduceAdd, Nat.reduceSub, Nat.reduceMul, Nat.reduceLeDiff, Nat.reduceBEq, Nat.zero_add, Nat.add_zero, and_self, true_and, and_true, Bool.not_true, Bool.not_false, Bool.false_eq_true, decide_true, decide_false, natInt, Int.natCast_nonneg, Int.toNat_zero, Int.toNat_one, Int.reduceLE, Int.reduceToNat, Int.reduceLT, Int.reduceEq, eq_self, Nat.le_refl, h1, encAlg]; exact rfl) (by simp only [tt_0, tt_1, tt_2, tt_3, tt_4, tt_5, tt_6, tt_7, pm_0, pm_1, pm_2, pm_3, pm_4, pm_5, pm_6, pm_7, e0P, gs, gm, initS, rb_int, rb_str, rb_sub, rb_dcl, rb_opr, rb_ints, rowsB_nil, rowsB_cons, bqtt, bqtf, bqft, bqff, List.map_cons, List.map_nil, List.getElem?_cons_zero, List.getElem?_cons_succ, List.getElem?_map, Option.map_some, Option.map_none, Option.join_some, Option.getD_some, Option.isNone_none, Option.isNone_some, Option.isSome_none, Option.isSome_some, List.drop_succ_cons, List.drop_zero, List.drop_nil, List.take_succ_cons, List.take_zero, List.length_cons, List.length_nil, List.length_map, List.length_append, List.all_cons, List.all_nil, List.isEmpty_cons, List.isEmpty_nil, List.cons_append, List.nil_append, List.append_nil, Bool.and_self, Bool.or_true, Bool.true_or, Bool.or_false, Bool.false_or, ↓reduceIte, Nat.reduceEqDiff, Nat.reduceAdd, Nat.reduceSub, Nat.reduceMul, Nat.reduceLeDiff, Nat.reduceBEq, Nat.zero_add, Nat.add_zero, and_self, true_and, and_true, Bool.not_true, Bool.not_false, Bool.false_eq_true, decide_true, decide_false, natInt, Int.natCast_nonneg, Int.toNat_zero, Int.toNat_one, Int.reduceLE, Int.reduceToNat, Int.reduceLT, Int.reduceEq, eq_self, Nat.le_refl, h1, encAlg]; exact rfl) (c2) (by simp only [setA, retA]; exact rfl) ?_)
    by_cases h2 : tw2 a i (unv a o) x = x
    rotate_left
    · have hf := hno fun hO => h2 (hO.unit hu x hX).2
      (refine runs_end (by simp only [tt_0, tt_1, tt_2, tt_3, tt_4, tt_5, tt_6, tt_7, pm_0, pm_1, pm_2, pm_3, pm_4, pm_5, pm_6, pm_7, e0P, gs, gm, initS, rb_int, rb_str, rb_sub, rb_dcl, rb_opr, rb_ints, rowsB_nil, rowsB_cons, bqtt, bqtf, bqft, bqff, List.map_cons, List.map_nil, List.getElem?_cons_zero, List.getElem?_cons_succ, List.getElem?_map, Option.map_some, Option.map_none, Option.join_some, Option.getD_some, Option.isNone_none, Option.isNone_some, Option.isSome_none, Option.isSome_some, List.drop_succ_cons, List.drop_zero, List.drop_nil, List.take_succ_cons, List.take_zero, List.length_cons, List.length_nil, List.length_map, List.length_append, List.all_cons, List.all_nil, List.isEmpty_cons, List.isEmpty_nil, List.cons_append, List.nil_append, List.append_nil, Bool.and_self, Bool.or_true, Bool.true_or, Bool.or_false, Bool.false_or, ↓reduceIte, Nat.reduceEqDiff, Nat.reduceAdd, Nat.reduceSub, Nat.reduceMul, Nat.reduceLeDiff, Nat.reduceBEq, Nat.zero_add, Nat.add_zero, and_self, true_and, and_true, Bool.not_true, Bool.not_false, Bool.false_eq_true, decide_true, decide_false, natInt, Int.natCast_nonneg, Int.toNat_zero, Int.toNat_one, Int.reduceLE, Int.reduceToNat, Int.reduceLT, Int.reduceEq, eq_self, Nat.le_refl, h1, h2]; exact rfl) (by simp only [trimS, Nat.testBit, Nat.reduceShiftRight, Nat.reduceAnd, Nat.reduceBneDiff, Nat.reduceBEq, bne, Bool.not_true, Bool.not_false, ↓reduceIte, Bool.false_eq_true]; exact rfl) ?_
       change pwp _ _ _ _ _)
      (refine pwp_ct rfl ?_)
      ((repeat (with_reducible refine pwp_seq ?_))
       (refine region_0 (by simp only [List.map_cons, List.map_nil]; exact rfl) (runs_end (by simp only [tt_0, tt_1, tt_2, tt_3, tt_4, tt_5, tt_6, tt_7, pm_0, pm_1, pm_2, pm_3, pm_4, pm_5, pm_6, pm_7, e0P, gs, gm, initS, rb_int, rb_str, rb_sub, rb_dcl, rb_opr, rb_ints, rowsB_nil, rowsB_cons, bqtt, bqtf, bqft, bqff, List.map_cons, List.map_nil, List.getElem?_cons_zero, List.getElem?_cons_succ, List.getElem?_map, Option.map_some, Option.map_none, Option.join_some, Option.getD_some, Option.isNone_none, Option.isNone_some, Option.isSome_none, Option.isSome_some, List.drop_succ_cons, List.drop_zero, List.drop_nil, List.take_succ_cons, List.take_zero, List.length_cons, List.length_nil, List.length_map, List.length_append, List.all_cons, List.all_nil, List.isEmpty_cons, List.isEmpty_nil, List.cons_append, List.nil_append, List.append_nil, Bool.and_self, Bool.or_true, Bool.true_or, Bool.or_false, Bool.false_or, ↓reduceIte, Nat.reduceEqDiff, Nat.reduceAdd, Nat.reduceSub, Nat.reduceMul, Nat.reduceLeDiff, Nat.reduceBEq, Nat.zero_add, Nat.add_zero, and_self, true_and, and_true, Bool.not_true, Bool.not_false, Bool.false_eq_true, decide_true, decide_false, natInt, Int.natCast_nonneg, Int.toNat_zero, Int.toNat_one, Int.reduceLE, Int.reduceToNat, Int.reduceLT, Int.reduceEq, eq_self, Nat.le_refl, e0P]; exact rfl) (by simp only [trimS, Nat.testBit, Nat.reduceShiftRight, Nat.reduceAnd, Nat.reduceBneDiff, Nat.reduceBEq, bne, Bool.not_true, Bool.not_false, ↓reduceIte, Bool.false_eq_true]; exact rfl) ?_)
        change pwp _ _ _ _ _)
       (refine pwp_ret (ret_ok ?_))
       simp [resOk, resA, resSlots, gs, hf])
    (refine runs_end (by simp only [tt_0, tt_1, tt_2, tt_3, tt_4, tt_5, tt_6, tt_7, pm_0, pm_1, pm_2, pm_3, pm_4, pm_5, pm_6, pm_7, e0P, gs, gm, initS, rb_int, rb_str, rb_sub, rb_dcl, rb_opr, rb_ints, rowsB_nil, rowsB_cons, bqtt, bqtf, bqft, bqff, List.map_cons, List.map_nil, List.getElem?_cons_zero, List.getElem?_cons_succ, List.getElem?_map, Option.map_some, Option.map_none, Option.join_some, Option.getD_some, Option.isNone_none, Option.isNone_some, Option.isSome_none, Option.isSome_some, List.drop_succ_cons, List.drop_zero, List.drop_nil, List.take_succ_cons, List.take_zero, List.length_cons, List.length_nil, List.length_map, List.length_append, List.all_cons, List.all_nil, List.isEmpty_cons, List.isEmpty_nil, List.cons_append, List.nil_append, List.append_nil, Bool.and_self, Bool.or_true, Bool.true_or, Bool.or_false, Bool.false_or, ↓reduceIte, Nat.reduceEqDiff, Nat.reduceAdd, Nat.reduceSub, Nat.reduceMul, Nat.reduceLeDiff, Nat.reduceBEq, Nat.zero_add, Nat.add_zero, and_self, true_and, and_true, Bool.not_true, Bool.not_false, Bool.false_eq_true, decide_true, decide_false, natInt, Int.natCast_nonneg, Int.toNat_zero, Int.toNat_one, Int.reduceLE, Int.reduceToNat, Int.reduceLT, Int.reduceEq, eq_self, Nat.le_refl, h1, h2]; exact rfl) (by simp only [trimS, Nat.testBit, Nat.reduceShiftRight, Nat.reduceAnd, Nat.reduceBneDiff, Nat.reduceBEq, bne, Bool.not_true, Bool.not_false, ↓reduceIte, Bool.false_eq_true]; exact rfl) ?_
     change pwp _ _ _ _ _)
    (refine pwp_cf rfl ?_)
    (refine pwp_skip ?_
     exact ⟨by simp [weakS, gs, encOpr, encAlg, hq], by simp [weakM, gm, encOpr, encAlg, hq], fun _ => ⟨h1, h2⟩⟩)
  (repeat (with_reducible refine pwp_seq ?_))
  (refine region_0 (by simp only [List.map_cons, List.map_nil]; exact rfl) (runs_end (by simp only [tt_0, tt_1, tt_2, tt_3, tt_4, tt_5, tt_6, tt_7, pm_0, pm_1, pm_2, pm_3, pm_4, pm_5, pm_6, pm_7, e0P, gs, gm, initS, rb_int, rb_str, rb_sub, rb_dcl, rb_opr, rb_ints, rowsB_nil, rowsB_cons, bqtt, bqtf, bqft, bqff, List.map_cons, List.map_nil, List.getElem?_cons_zero, List.getElem?_cons_succ, List.getElem?_map, Option.map_some, Option.map_none, Option.join_some, Option.getD_some, Option.isNone_none, Option.isNone_some, Option.isSome_none, Option.isSome_some, List.drop_succ_cons, List.drop_zero, List.drop_nil, List.take_succ_cons, List.take_zero, List.length_cons, List.length_nil, List.length_map, List.length_append, List.all_cons, List.all_nil, List.isEmpty_cons, List.isEmpty_nil, List.cons_append, List.nil_append, List.append_nil, Bool.and_self, Bool.or_true, Bool.true_or, Bool.or_false, Bool.false_or, ↓reduceIte, Nat.reduceEqDiff, Nat.reduceAdd, Nat.reduceSub, Nat.reduceMul, Nat.reduceLeDiff, Nat.reduceBEq, Nat.zero_add, Nat.add_zero, and_self, true_and, and_true, Bool.not_true, Bool.not_false, Bool.false_eq_true, decide_true, decide_false, natInt, Int.natCast_nonneg, Int.toNat_zero, Int.toNat_one, Int.reduceLE, Int.reduceToNat, Int.reduceLT, Int.reduceEq, eq_self, Nat.le_refl, e0P]; exact rfl) (by simp only [trimS, Nat.testBit, Nat.reduceShiftRight, Nat.reduceAnd, Nat.reduceBneDiff, Nat.reduceBEq, bne, Bool.not_true, Bool.not_false, ↓reduceIte, Bool.false_eq_true]; exact rfl) ?_)
   change pwp _ _ _ _ _)
  refine pwp_block ?_
  refine pwp_loop (ι := Nat) (fun y => ⟨[(10, A.d (.one (.lit (.int .i64 y)))), (8, A.d (.one (.lit (.int .i64 x)))), (2, A.d (.one (.lit (.int .i64 i)))), (4, .ref 4 0), (7, .ref 7 0)], [(7, .var (encOpr o)), (4, .var (encAlg a))]⟩)
    (fun y => y ≤ n ∧ (∀ (y' : Nat), y' < y → (o.comm = true → tw2 a i x y' = tw2 a i y' x) ∧ (o.assoc = true → ∀ (z : Nat), z < n → tw2 a i (tw2 a i x y') z = tw2 a i x (tw2 a i y' z)))) (fun y => n - y) 0 ⟨by omega, fun x' h => absurd h (by omega)⟩ (by simp [weakS, gs, e0P]) (by simp [weakM, gm, encOpr, encAlg]) fun y hy => ?_
  obtain ⟨hyn, hally⟩ := hy
  have hwy := wrap1 (k := y) (by omega)
  have nxt : (∀ (y' : Nat), y' < n → (o.comm = true → tw2 a i x y' = tw2 a i y' x) ∧ (o.assoc = true → ∀ (z : Nat), z < n → tw2 a i (tw2 a i x y') z = tw2 a i x (tw2 a i y' z))) → x + 1 ≤ n ∧ (∀ (x' : Nat), x' < x + 1 → (o.unit ≠ 0 → tw2 a i x' (unv a o) = x' ∧ tw2 a i (unv a o) x' = x') ∧ ∀ (y : Nat), y < n → (o.comm = true → tw2 a i x' y = tw2 a i y x') ∧ (o.assoc = true → ∀ (z : Nat), z < n → tw2 a i (tw2 a i x' y) z = tw2 a i x' (tw2 a i y z))) := fun h => ⟨by omega, fun x' hx' => by
    by_cases e : x' = x
    · subst e; exact ⟨hU, h⟩
    · exact hall x' (by omega)⟩
  by_cases hyl : y < n
  rotate_left
  · have hyl' : ¬ ((y : Int) < a.size) := by omega
    have hx1 := nxt fun y' hy' => hally y' (by omega)
    (repeat (with_reducible refine pwp_seq ?_))
    (refine region_0 (by simp only [List.map_cons, List.map_nil]; exact rfl) (runs_end (by simp only [tt_0, tt_1, tt_2, tt_3, tt_4, tt_5, tt_6, tt_7, pm_0, pm_1, pm_2, pm_3, pm_4, pm_5, pm_6, pm_7, e0P, gs, gm, initS, rb_int, rb_str, rb_sub, rb_dcl, rb_opr, rb_ints, rowsB_nil, rowsB_cons, bqtt, bqtf, bqft, bqff, List.map_cons, List.map_nil, List.getElem?_cons_zero, List.getElem?_cons_succ, List.getElem?_map, Option.map_some, Option.map_none, Option.join_some, Option.getD_some, Option.isNone_none, Option.isNone_some, Option.isSome_none, Option.isSome_some, List.drop_succ_cons, List.drop_zero, List.drop_nil, List.take_succ_cons, List.take_zero, List.length_cons, List.length_nil, List.length_map, List.length_append, List.all_cons, List.all_nil, List.isEmpty_cons, List.isEmpty_nil, List.cons_append, List.nil_append, List.append_nil, Bool.and_self, Bool.or_true, Bool.true_or, Bool.or_false, Bool.false_or, ↓reduceIte, Nat.reduceEqDiff, Nat.reduceAdd, Nat.reduceSub, Nat.reduceMul, Nat.reduceLeDiff, Nat.reduceBEq, Nat.zero_add, Nat.add_zero, and_self, true_and, and_true, Bool.not_true, Bool.not_false, Bool.false_eq_true, decide_true, decide_false, natInt, Int.natCast_nonneg, Int.toNat_zero, Int.toNat_one, Int.reduceLE, Int.reduceToNat, Int.reduceLT, Int.reduceEq, eq_self, Nat.le_refl, encAlg, hyl']; exact rfl) (by simp only [trimS, Nat.testBit, Nat.reduceShiftRight, Nat.reduceAnd, Nat.reduceBneDiff, Nat.reduceBEq, bne, Bool.not_true, Bool.not_false, ↓reduceIte, Bool.false_eq_true]; exact rfl) ?_)
     change pwp _ _ _ _ _)
    (repeat (with_reducible refine pwp_seq ?_))
    (refine pwp_cf rfl ?_)
    (refine pwp_exit ?_
     change pwp _ _ _ _ _)
    (refine region_0 (by simp only [List.map_cons, List.map_nil]; exact rfl) (runs_end (by simp only [tt_0, tt_1, tt_2, tt_3, tt_4, tt_5, tt_6, tt_7, pm_0, pm_1, pm_2, pm_3, pm_4, pm_5, pm_6, pm_7, e0P, gs, gm, initS, rb_int, rb_str, rb_sub, rb_dcl, rb_opr, rb_ints, rowsB_nil, rowsB_cons, bqtt, bqtf, bqft, bqff, List.map_cons, List.map_nil, List.getElem?_cons_zero, List.getElem?_cons_succ, List.getElem?_map, Option.map_some, Option.map_none, Option.join_some, Option.getD_some, Option.isNone_none, Option.isNone_some, Option.isSome_none, Option.isSome_some, List.drop_succ_cons, List.drop_zero, List.drop_nil, List.take_succ_cons, List.take_zero, List.length_cons, List.length_nil, List.length_map, List.length_append, List.all_cons, List.all_nil, List.isEmpty_cons, List.isEmpty_nil, List.cons_append, List.nil_append, List.append_nil, Bool.and_self, Bool.or_true, Bool.true_or, Bool.or_false, Bool.false_or, ↓reduceIte, Nat.reduceEqDiff, Nat.reduceAdd, Nat.reduceSub, Nat.reduceMul, Nat.reduceLeDiff, Nat.reduceBEq, Nat.zero_add, Nat.add_zero, and_self, true_and, and_true, Bool.not_true, Bool.not_false, Bool.false_eq_true, decide_true, decide_false, natInt, Int.natCast_nonneg, Int.toNat_zero, Int.toNat_one, Int.reduceLE, Int.reduceToNat, Int.reduceLT, Int.reduceEq, eq_self, Nat.le_refl, hw]; exact rfl) (by simp only [trimS, Nat.testBit, Nat.reduceShiftRight, Nat.reduceAnd, Nat.reduceBneDiff, Nat.reduceBEq, bne, Bool.not_true, Bool.not_false, ↓reduceIte, Bool.false_eq_true]; exact rfl) ?_)
     exact ⟨x + 1, hx1, by simp [weakS, gs, encOpr, encAlg], by simp [weakM, gm, encOpr, encAlg], by omega⟩)
  have hyl' : ((y : Int) < a.size) := by omega
  have hY := inz hyl
  by_cases hcm : o.comm = true ∨ o.assoc = true
  rotate_left
  · have hc1 : o.comm = false := by simpa using fun h => hcm (.inl h)
    have hc2 : o.assoc = false := by simpa using fun h => hcm (.inr h)
    have hx1 := nxt fun y' hy' => ⟨fun h => absurd h (by simp [hc1]), fun h => absurd h (by simp [hc2])⟩
    (repeat (with_reducible refine pwp_seq ?_))
    (refine region_0 (by simp only [List.map_cons, List.map_nil]; exact rfl) (runs_end (by simp only [tt_0, tt_1, tt_2, tt_3, tt_4, tt_5, tt_6, tt_7, pm_0, pm_1, pm_2, pm_3, pm_4, pm_5, pm_6, pm_7, e0P, gs, gm, initS, rb_int, rb_str, rb_sub, rb_dcl, rb_opr, rb_ints, rowsB_nil, rowsB_cons, bqtt, bqtf, bqft, bqff, List.map_cons, List.map_nil, List.getElem?_cons_zero, List.getElem?_cons_succ, List.getElem?_map, Option.map_some, Option.map_none, Option.join_some, Option.getD_some, Option.isNone_none, Option.isNone_some, Option.isSome_none, Option.isSome_some, List.drop_succ_cons, List.drop_zero, List.drop_nil, List.take_succ_cons, List.take_zero, List.length_cons, List.length_nil, List.length_map, List.length_append, List.all_cons, List.all_nil, List.isEmpty_cons, List.isEmpty_nil, List.cons_append, List.nil_append, List.append_nil, Bool.and_self, Bool.or_true, Bool.true_or, Bool.or_false, Bool.false_or, ↓reduceIte, Nat.reduceEqDiff, Nat.reduceAdd, Nat.reduceSub, Nat.reduceMul, Nat.reduceLeDiff, Nat.reduceBEq, Nat.zero_add, Nat.add_zero, and_self, true_and, and_true, Bool.not_true, Bool.not_false, Bool.false_eq_true, decide_true, decide_false, natInt, Int.natCast_nonneg, Int.toNat_zero, Int.toNat_one, Int.reduceLE, Int.reduceToNat, Int.reduceLT, Int.reduceEq, eq_self, Nat.le_refl, encAlg, encOpr, hyl', hc1, hc2]; exact rfl) (by simp only [trimS, Nat.testBit, Nat.reduceShiftRight, Nat.reduceAnd, Nat.reduceBneDiff, Nat.reduceBEq, bne, Bool.not_true, Bool.not_false, ↓reduceIte, Bool.false_eq_true]; exact rfl) ?_)
     change pwp _ _ _ _ _)
    (repeat (with_reducible refine pwp_seq ?_))
    (refine pwp_cf rfl ?_)
    (refine pwp_exit ?_
     change pwp _ _ _ _ _)
    (refine region_0 (by simp only [List.map_cons, List.map_nil]; exact rfl) (runs_end (by simp only [tt_0, tt_1, tt_2, tt_3, tt_4, tt_5, tt_6, tt_7, pm_0, pm_1, pm_2, pm_3, pm_4, pm_5, pm_6, pm_7, e0P, gs, gm, initS, rb_int, rb_str, rb_sub, rb_dcl, rb_opr, rb_ints, rowsB_nil, rowsB_cons, bqtt, bqtf, bqft, bqff, List.map_cons, List.map_nil, List.getElem?_cons_zero, List.getElem?_cons_succ, List.getElem?_map, Option.map_some, Option.map_none, Option.join_some, Option.getD_some, Option.isNone_none, Option.isNone_some, Option.isSome_none, Option.isSome_some, List.drop_succ_cons, List.drop_zero, List.drop_nil, List.take_succ_cons, List.take_zero, List.length_cons, List.length_nil, List.length_map, List.length_append, List.all_cons, List.all_nil, List.isEmpty_cons, List.isEmpty_nil, List.cons_append, List.nil_append, List.append_nil, Bool.and_self, Bool.or_true, Bool.true_or, Bool.or_false, Bool.false_or, ↓reduceIte, Nat.reduceEqDiff, Nat.reduceAdd, Nat.reduceSub, Nat.reduceMul, Nat.reduceLeDiff, Nat.reduceBEq, Nat.zero_add, Nat.add_zero, and_self, true_and, and_true, Bool.not_true, Bool.not_false, Bool.false_eq_true, decide_true, decide_false, natInt, Int.natCast_nonneg, Int.toNat_zero, Int.toNat_one, Int.reduceLE, Int.reduceToNat, Int.reduceLT, Int.reduceEq, eq_self, Nat.le_refl, hw]; exact rfl) (by simp only [trimS, Nat.testBit, Nat.reduceShiftRight, Nat.reduceAnd, Nat.reduceBneDiff, Nat.reduceBEq, bne, Bool.not_true, Bool.not_false, ↓reduceIte, Bool.false_eq_true]; exact rfl) ?_)
     exact ⟨x + 1, hx1, by simp [weakS, gs, encOpr, encAlg, hc1, hc2], by simp [weakM, gm, encOpr, encAlg, hc1, hc2], by omega⟩)
  have ht := hA.tab (by rcases hcm with h | h; exact .inr (.inl h); exact .inl h)
  refine pwp_to [(10, A.d (.one (.lit (.int .i64 y)))), (8, A.d (.one (.lit (.int .i64 x)))), (2, A.d (.one (.lit (.int .i64 i)))), (4, .ref 4 0), (7, .ref 7 0)] [(7, .var (encOpr o)), (4, .var (encAlg a))] True (fun _ => ?_) ?_
  rotate_left
  · (repeat (with_reducible refine pwp_seq ?_))
    cases hc : o.comm with
    | true =>
      (refine region_0 (by simp only [List.map_cons, List.map_nil]; exact rfl) (runs_end (by simp only [tt_0, tt_1, tt_2, tt_3, tt_4, tt_5, tt_6, tt_7, pm_0, pm_1, pm_2, pm_3, pm_4, pm_5, pm_6, pm_7, e0P, gs, gm, initS, rb_int, rb_str, rb_sub, rb_dcl, rb_opr, rb_ints, rowsB_nil, rowsB_cons, bqtt, bqtf, bqft, bqff, List.map_cons, List.map_nil, List.getElem?_cons_zero, List.getElem?_cons_succ, List.getElem?_map, Option.map_some, Option.map_none, Option.join_some, Option.getD_some, Option.isNone_none, Option.isNone_some, Option.isSome_none, Option.isSome_some, List.drop_succ_cons, List.drop_zero, List.drop_nil, List.take_succ_cons, List.take_zero, List.length_cons, List.length_nil, List.length_map, List.length_append, List.all_cons, List.all_nil, List.isEmpty_cons, List.isEmpty_nil, List.cons_append, List.nil_append, List.append_nil, Bool.and_self, Bool.or_true, Bool.true_or, Bool.or_false, Bool.false_or, ↓reduceIte, Nat.reduceEqDiff, Nat.reduceAdd, Nat.reduceSub, Nat.reduceMul, Nat.reduceLeDiff, Nat.reduceBEq, Nat.zero_add, Nat.add_zero, and_self, true_and, and_true, Bool.not_true, Bool.not_false, Bool.false_eq_true, decide_true, decide_false, natInt, Int.natCast_nonneg, Int.toNat_zero, Int.toNat_one, Int.reduceLE, Int.reduceToNat, Int.reduceLT, Int.reduceEq, eq_self, Nat.le_refl, encAlg, encOpr, hyl', hc]; exact rfl) (by simp only [trimS, Nat.testBit, Nat.reduceShiftRight, Nat.reduceAnd, Nat.reduceBneDiff, Nat.reduceBEq, bne, Bool.not_true, Bool.not_false, ↓reduceIte, Bool.false_eq_true]; exact rfl) ?_)
       change pwp _ _ _ _ _)
      (refine pwp_ct rfl ?_)
      (refine pwp_skip ?_
       exact ⟨by simp [weakS, gs, encOpr, encAlg, hc], by simp [weakM, gm, encOpr, encAlg, hc], trivial⟩)
    | false =>
      have hc2 : o.assoc = true := by rcases hcm with h | h; simp [hc] at h; exact h
      (refine region_0 (by simp only [List.map_cons, List.map_nil]; exact rfl) (runs_end (by simp only [tt_0, tt_1, tt_2, tt_3, tt_4, tt_5, tt_6, tt_7, pm_0, pm_1, pm_2, pm_3, pm_4, pm_5, pm_6, pm_7, e0P, gs, gm, initS, rb_int, rb_str, rb_sub, rb_dcl, rb_opr, rb_ints, rowsB_nil, rowsB_cons, bqtt, bqtf, bqft, bqff, List.map_cons, List.map_nil, List.getElem?_cons_zero, List.getElem?_cons_succ, List.getElem?_map, Option.map_some, Option.map_none, Option.join_some, Option.getD_some, Option.isNone_none, Option.isNone_some, Option.isSome_none, Option.isSome_some, List.drop_succ_cons, List.drop_zero, List.drop_nil, List.take_succ_cons, List.take_zero, List.length_cons, List.length_nil, List.length_map, List.length_append, List.all_cons, List.all_nil, List.isEmpty_cons, List.isEmpty_nil, List.cons_append, List.nil_append, List.append_nil, Bool.and_self, Bool.or_true, Bool.true_or, Bool.or_false, Bool.false_or, ↓reduceIte, Nat.reduceEqDiff, Nat.reduceAdd, Nat.reduceSub, Nat.reduceMul, Nat.reduceLeDiff, Nat.reduceBEq, Nat.zero_add, Nat.add_zero, and_self, true_and, and_true, Bool.not_true, Bool.not_false, Bool.false_eq_true, decide_true, decide_false, natInt, Int.natCast_nonneg, Int.toNat_zero, Int.toNat_one, Int.reduceLE, Int.reduceToNat, Int.reduceLT, Int.reduceEq, eq_self, Nat.le_refl, encAlg, encOpr, hyl', hc, hc2]; exact rfl) (by simp only [trimS, Nat.testBit, Nat.reduceShiftRight, Nat.reduceAnd, Nat.reduceBneDiff, Nat.reduceBEq, bne, Bool.not_true, Bool.not_false, ↓reduceIte, Bool.false_eq_true]; exact rfl) ?_)
       change pwp _ _ _ _ _)
      (refine pwp_ct rfl ?_)
      (refine pwp_skip ?_
       exact ⟨by simp [weakS, gs, encOpr, encAlg, hc, hc2], by simp [weakM, gm, encOpr, encAlg, hc, hc2], trivial⟩)
  have c1 := con_l22Two ht hX hY
  have c2 := con_l22Two ht hY hX
  rw [encAlg] at c1 c2
  (repeat (with_reducible refine pwp_seq ?_))
  refine pwp_block ?_
  refine pwp_to [(10, A.d (.one (.lit (.int .i64 y)))), (8, A.d (.one (.lit (.int .i64 x)))), (2, A.d (.one (.lit (.int .i64 i)))), (4, .ref 4 0), (7, .ref 7 0)] [(7, .var (encOpr o)), (4, .var (encAlg a))] (o.comm = true → tw2 a i x y = tw2 a i y x) (fun hCM => ?_) ?_
  rotate_left
  · (repeat (with_reducible refine pwp_seq ?_))
    cases hc : o.comm with
    | false =>
      (refine region_D 15 (by kernel_rfl) (by simp only [List.map_cons, List.map_nil]; exact rfl) (runs_end (by simp only [tt_0, tt_1, tt_2, tt_3, tt_4, tt_5, tt_6, tt_7, pm_0, pm_1, pm_2, pm_3, pm_4, pm_5, pm_6, pm_7, e0P, gs, gm, initS, rb_int, rb_str, rb_sub, rb_dcl, rb_opr, rb_ints, rowsB_nil, rowsB_cons, bqtt, bqtf, bqft, bqff, List.map_cons, List.map_nil, List.getElem?_cons_zero, List.getElem?_cons_succ, List.getElem?_map, Option.map_some, Option.map_none, Option.join_some, Option.getD_some, Option.isNone_none, Option.isNone_some, Option.isSome_none, Option.isSome_some, List.drop_succ_cons, List.drop_zero, List.drop_nil, List.take_succ_cons, List.take_zero, List.length_cons, List.length_nil, List.length_map, List.length_append, List.all_cons, List.all_nil, List.isEmpty_cons, List.isEmpty_nil, List.cons_append, List.nil_append, List.append_nil, Bool.and_self, Bool.or_true, Bool.true_or, Bool.or_false, Bool.false_or, ↓reduceIte, Nat.reduceEqDiff, Nat.reduceAdd, Nat.reduceSub, Nat.reduceMul, Nat.reduceLeDiff, Nat.reduceBEq, Nat.zero_add, Nat.add_zero, and_self, true_and, and_true, Bool.not_true, Bool.not_false, Bool.false_eq_true, decide_true, decide_false, natInt, Int.natCast_nonneg, Int.toNat_zero, Int.toNat_one, Int.reduceLE, Int.reduceToNat, Int.reduceLT, Int.reduceEq, eq_self, Nat.le_refl, encAlg, encOpr, hc]; exact rfl) (by simp only [trimS, Nat.testBit, Nat.reduceShiftRight, Nat.reduceAnd, Nat.reduceBneDiff, Nat.reduceBEq, bne, Bool.not_true, Bool.not_false, ↓reduceIte, Bool.false_eq_true]; exact rfl) ?_)
       change pwp _ _ _ _ _)
      (refine pwp_cf rfl ?_)
      (refine pwp_skip ?_
       exact ⟨by simp [weakS, gs, encOpr, encAlg, hc], by simp [weakM, gm, encOpr, encAlg, hc], fun h => by cases h⟩)
    | true =>
      (refine region_D 15 (by kernel_rfl) (by simp only [List.map_cons, List.map_nil]; exact rfl) ?_)
      (refine runs_go (by simp only [tt_0, tt_1, tt_2, tt_3, tt_4, tt_5, tt_6, tt_7, pm_0, pm_1, pm_2, pm_3, pm_4, pm_5, pm_6, pm_7, e0P, gs, gm, initS, rb_int, rb_str, rb_sub, rb_dcl, rb_opr, rb_ints, rowsB_nil, rowsB_cons, bqtt, bqtf, bqft, bqff, List.map_cons, List.map_nil, List.getElem?_cons_zero, List.getElem?_cons_succ, List.getElem?_map, Option.map_some, Option.map_none, Option.join_some, Option.getD_some, Option.isNone_none, Option.isNone_some, Option.isSome_none, Option.isSome_some, List.drop_succ_cons, List.drop_zero, List.drop_nil, List.take_succ_cons, List.take_zero, List.length_cons, List.length_nil, List.length_map, List.length_append, List.all_cons, List.all_nil, List.isEmpty_cons, List.isEmpty_nil, List.cons_append, List.nil_append, List.append_nil, Bool.and_self, Bool.or_true, Bool.true_or, Bool.or_false, Bool.false_or, ↓reduceIte, Nat.reduceEqDiff, Nat.reduceAdd, Nat.reduceSub, Nat.reduceMul, Nat.reduceLeDiff, Nat.reduceBEq, Nat.zero_add, Nat.add_zero, and_self, true_and, and_true, Bool.not_true, Bool.not_false, Bool.false_eq_true, decide_true, decide_false, natInt, Int.natCast_nonneg, Int.toNat_zero, Int.toNat_one, Int.reduceLE, Int.reduceToNat, Int.reduceLT, Int.reduceEq, eq_self, Nat.le_refl, encAlg, encOpr, hc]; exact rfl) (by simp only [tt_0, tt_1, tt_2, tt_3, tt_4, tt_5, tt_6, tt_7, pm_0, pm_1, pm_2, pm_3, pm_4, pm_5, pm_6, pm_7, e0P, gs, gm, initS, rb_int, rb_str, rb_sub, rb_dcl, rb_opr, rb_ints, rowsB_nil, rowsB_cons, bqtt, bqtf, bqft, bqff, List.map_cons, List.map_nil, List.getElem?_cons_zero, List.getElem?_cons_succ, List.getElem?_map, Option.map_some, Option.map_none, Option.join_some, Option.getD_some, Option.isNone_none, Option.isNone_some, Option.isSome_none, Option.isSome_some, List.drop_succ_cons, List.drop_zero, List.drop_nil, List.take_succ_cons, List.take_zero, List.length_cons, List.length_nil, List.length_map, List.length_append, List.all_cons, List.all_nil, List.isEmpty_cons, List.isEmpty_nil, List.cons_append, List.nil_append, List.append_nil, Bool.and_self, Bool.or_true, Bool.true_or, Bool.or_false, Bool.false_or, ↓reduceIte, Nat.reduceEqDiff, Nat.reduceAdd, Nat.reduceSub, Nat.reduceMul, Nat.reduceLeDiff, Nat.reduceBEq, Nat.zero_add, Nat.add_zero, and_self, true_and, and_true, Bool.not_true, Bool.not_false, Bool.false_eq_true, decide_true, decide_false, natInt, Int.natCast_nonneg, Int.toNat_zero, Int.toNat_one, Int.reduceLE, Int.reduceToNat, Int.reduceLT, Int.reduceEq, eq_self, Nat.le_refl, encAlg, encOpr, hc]; exact rfl) (c1) (by simp only [setA, retA]; exact rfl) ?_)
      (refine runs_go (by simp only [tt_0, tt_1, tt_2, tt_3, tt_4, tt_5, tt_6, tt_7, pm_0, pm_1, pm_2, pm_3, pm_4, pm_5, pm_6, pm_7, e0P, gs, gm, initS, rb_int, rb_str, rb_sub, rb_dcl, rb_opr, rb_ints, rowsB_nil, rowsB_cons, bqtt, bqtf, bqft, bqff, List.map_cons, List.map_nil, List.getElem?_cons_zero, List.getElem?_cons_succ, List.getElem?_map, Option.map_some, Option.map_none, Option.join_some, Option.getD_some, Option.isNone_none, Option.isNone_some, Option.isSome_none, Option.isSome_some, List.drop_succ_cons, List.drop_zero, List.drop_nil, List.take_succ_cons, List.take_zero, List.length_cons, List.length_nil, List.length_map, List.length_append, List.all_cons, List.all_nil, List.isEmpty_cons, List.isEmpty_nil, List.cons_append, List.nil_append, List.append_nil, Bool.and_self, Bool.or_true, Bool.true_or, Bool.or_false, Bool.false_or, ↓reduceIte, Nat.reduceEqDiff, Nat.reduceAdd, Nat.reduceSub, Nat.reduceMul, Nat.reduceLeDiff, Nat.reduceBEq, Nat.zero_add, Nat.add_zero, and_self, true_and, and_true, Bool.not_true, Bool.not_false, Bool.false_eq_true, decide_true, decide_false, natInt, Int.natCast_nonneg, Int.toNat_zero, Int.toNat_one, Int.reduceLE, Int.reduceToNat, Int.reduceLT, Int.reduceEq, eq_self, Nat.le_refl, encAlg, encOpr, hc]; exact rfl) (by simp only [tt_0, tt_1, tt_2, tt_3, tt_4, tt_5, tt_6, tt_7, pm_0, pm_1, pm_2, pm_3, pm_4, pm_5, pm_6, pm_7, e0P, gs, gm, initS, rb_int, rb_str, rb_sub, rb_dcl, rb_opr, rb_ints, rowsB_nil, rowsB_cons, bqtt, bqtf, bqft, bqff, List.map_cons, List.map_nil, List.getElem?_cons_zero, List.getElem?_cons_succ, List.getElem?_map, Option.map_some, Option.map_none, Option.join_some, Option.getD_some, Option.isNone_none, Option.isNone_some, Option.isSome_none, Option.isSome_some, List.drop_succ_cons, List.drop_zero, List.drop_nil, List.take_succ_cons, List.take_zero, List.length_cons, List.length_nil, List.length_map, List.length_append, List.all_cons, List.all_nil, List.isEmpty_cons, List.isEmpty_nil, List.cons_append, List.nil_append, List.append_nil, Bool.and_self, Bool.or_true, Bool.true_or, Bool.or_false, Bool.false_or, ↓reduceIte, Nat.reduceEqDiff, Nat.reduceAdd, Nat.reduceSub, Nat.reduceMul, Nat.reduceLeDiff, Nat.reduceBEq, Nat.zero_add, Nat.add_zero, and_self, true_and, and_true, Bool.not_true, Bool.not_false, Bool.false_eq_true, decide_true, decide_false, natInt, Int.natCast_nonneg, Int.toNat_zero, Int.toNat_one, Int.reduceLE, Int.reduceToNat, Int.reduceLT, Int.reduceEq, eq_self, Nat.le_refl, encAlg, encOpr, hc]; exact rfl) (c2) (by simp only [setA, retA]; exact rfl) ?_)
      by_cases h1 : tw2 a i x y = tw2 a i y x
      · (refine runs_end (by simp only [tt_0, tt_1, tt_2, tt_3, tt_4, tt_5, tt_6, tt_7, pm_0, pm_1, pm_2, pm_3, pm_4, pm_5, pm_6, pm_7, e0P, gs, gm, initS, rb_int, rb_str, rb_sub, rb_dcl, rb_opr, rb_ints, rowsB_nil, rowsB_cons, bqtt, bqtf, bqft, bqff, List.map_cons, List.map_nil, List.getElem?_cons_zero, List.getElem?_cons_succ, List.getElem?_map, Option.map_some, Option.map_none, Option.join_some, Option.getD_some, Option.isNone_none, Option.isNone_some, Option.isSome_none, Option.isSome_some, List.drop_succ_cons, List.drop_zero, List.drop_nil, List.take_succ_cons, List.take_zero, List.length_cons, List.length_nil, List.length_map, List.length_append, List.all_cons, List.all_nil, List.isEmpty_cons, List.isEmpty_nil, List.cons_append, List.nil_append, List.append_nil, Bool.and_self, Bool.or_true, Bool.true_or, Bool.or_false, Bool.false_or, ↓reduceIte, Nat.reduceEqDiff, Nat.reduceAdd, Nat.reduceSub, Nat.reduceMul, Nat.reduceLeDiff, Nat.reduceBEq, Nat.zero_add, Nat.add_zero, and_self, true_and, and_true, Bool.not_true, Bool.not_false, Bool.false_eq_true, decide_true, decide_false, natInt, Int.natCast_nonneg, Int.toNat_zero, Int.toNat_one, Int.reduceLE, Int.reduceToNat, Int.reduceLT, Int.reduceEq, eq_self, Nat.le_refl, h1, hc]; exact rfl) (by simp only [trimS, Nat.testBit, Nat.reduceShiftRight, Nat.reduceAnd, Nat.reduceBneDiff, Nat.reduceBEq, bne, Bool.not_true, Bool.not_false, ↓reduceIte, Bool.false_eq_true]; exact rfl) ?_
         change pwp _ _ _ _ _)
        (refine pwp_cf rfl ?_)
        (refine pwp_skip ?_
         exact ⟨by simp [weakS, gs, encOpr, encAlg, hc], by simp [weakM, gm, encOpr, encAlg, hc], fun _ => h1⟩)
      · have hf := hno fun hO => h1 (hO.comm hc x y hX hY)
        (refine runs_end (by simp only [tt_0, tt_1, tt_2, tt_3, tt_4, tt_5, tt_6, tt_7, pm_0, pm_1, pm_2, pm_3, pm_4, pm_5, pm_6, pm_7, e0P, gs, gm, initS, rb_int, rb_str, rb_sub, rb_dcl, rb_opr, rb_ints, rowsB_nil, rowsB_cons, bqtt, bqtf, bqft, bqff, List.map_cons, List.map_nil, List.getElem?_cons_zero, List.getElem?_cons_succ, List.getElem?_map, Option.map_some, Option.map_none, Option.join_some, Option.getD_some, Option.isNone_none, Option.isNone_some, Option.isSome_none, Option.isSome_some, List.drop_succ_cons, List.drop_zero, List.drop_nil, List.take_succ_cons, List.take_zero, List.length_cons, List.length_nil, List.length_map, List.length_append, List.all_cons, List.all_nil, List.isEmpty_cons, List.isEmpty_nil, List.cons_append, List.nil_append, List.append_nil, Bool.and_self, Bool.or_true, Bool.true_or, Bool.or_false, Bool.false_or, ↓reduceIte, Nat.reduceEqDiff, Nat.reduceAdd, Nat.reduceSub, Nat.reduceMul, Nat.reduceLeDiff, Nat.reduceBEq, Nat.zero_add, Nat.add_zero, and_self, true_and, and_true, Bool.not_true, Bool.not_false, Bool.false_eq_true, decide_true, decide_false, natInt, Int.natCast_nonneg, Int.toNat_zero, Int.toNat_one, Int.reduceLE, Int.reduceToNat, Int.reduceLT, Int.reduceEq, eq_self, Nat.le_refl, h1, hc]; exact rfl) (by simp only [trimS, Nat.testBit, Nat.reduceShiftRight, Nat.reduceAnd, Nat.reduceBneDiff, Nat.reduceBEq, bne, Bool.not_true, Bool.not_false, ↓reduceIte, Bool.false_eq_true]; exact rfl) ?_
         change pwp _ _ _ _ _)
        (refine pwp_ct rfl ?_)
        ((repeat (with_reducible refine pwp_seq ?_))
         (refine region_0 (by simp only [List.map_cons, List.map_nil]; exact rfl) (runs_end (by simp only [tt_0, tt_1, tt_2, tt_3, tt_4, tt_5, tt_6, tt_7, pm_0, pm_1, pm_2, pm_3, pm_4, pm_5, pm_6, pm_7, e0P, gs, gm, initS, rb_int, rb_str, rb_sub, rb_dcl, rb_opr, rb_ints, rowsB_nil, rowsB_cons, bqtt, bqtf, bqft, bqff, List.map_cons, List.map_nil, List.getElem?_cons_zero, List.getElem?_cons_succ, List.getElem?_map, Option.map_some, Option.map_none, Option.join_some, Option.getD_some, Option.isNone_none, Option.isNone_some, Option.isSome_none, Option.isSome_some, List.drop_succ_cons, List.drop_zero, List.drop_nil, List.take_succ_cons, List.take_zero, List.length_cons, List.length_nil, List.length_map, List.length_append, List.all_cons, List.all_nil, List.isEmpty_cons, List.isEmpty_nil, List.cons_append, List.nil_append, List.append_nil, Bool.and_self, Bool.or_true, Bool.true_or, Bool.or_false, Bool.false_or, ↓reduceIte, Nat.reduceEqDiff, Nat.reduceAdd, Nat.reduceSub, Nat.reduceMul, Nat.reduceLeDiff, Nat.reduceBEq, Nat.zero_add, Nat.add_zero, and_self, true_and, and_true, Bool.not_true, Bool.not_false, Bool.false_eq_true, decide_true, decide_false, natInt, Int.natCast_nonneg, Int.toNat_zero, Int.toNat_one, Int.reduceLE, Int.reduceToNat, Int.reduceLT, Int.reduceEq, eq_self, Nat.le_refl, e0P]; exact rfl) (by simp only [trimS, Nat.testBit, Nat.reduceShiftRight, Nat.reduceAnd, Nat.reduceBneDiff, Nat.reduceBEq, bne, Bool.not_true, Bool.not_false, ↓reduceIte, Bool.false_eq_true]; exact rfl) ?_)
          change pwp _ _ _ _ _)
         (refine pwp_ret (ret_ok ?_))
         simp [resOk, resA, resSlots, gs, hf])
  have nyt : (o.assoc = true → ∀ (z : Nat), z < n → tw2 a i (tw2 a i x y) z = tw2 a i x (tw2 a i y z)) → y + 1 ≤ n ∧ (∀ (y' : Nat), y' < y + 1 → (o.comm = true → tw2 a i x y' = tw2 a i y' x) ∧ (o.assoc = true → ∀ (z : Nat), z < n → tw2 a i (tw2 a i x y') z = tw2 a i x (tw2 a i y' z))) := fun h => ⟨by omega, fun y' hy' => by
    by_cases e : y' = y
    · subst e; exact ⟨hCM, h⟩
    · exact hally y' (by omega)⟩
  (repeat (with_reducible refine pwp_seq ?_))
  (refine region_0 (by simp only [List.map_cons, List.map_nil]; exact rfl) (runs_end (by simp only [tt_0, tt_1, tt_2, tt_3, tt_4, tt_5, tt_6, tt_7, pm_0, pm_1, pm_2, pm_3, pm_4, pm_5, pm_6, pm_7, e0P, gs, gm, initS, rb_int, rb_str, rb_sub, rb_dcl, rb_opr, rb_ints, rowsB_nil, rowsB_cons, bqtt, bqtf, bqft, bqff, List.map_cons, List.map_nil, List.getElem?_cons_zero, List.getElem?_cons_succ, List.getElem?_map, Option.map_some, Option.map_none, Option.join_some, Option.getD_some, Option.isNone_none, Option.isNone_some, Option.isSome_none, Option.isSome_some, List.drop_succ_cons, List.drop_zero, List.drop_nil, List.take_succ_cons, List.take_zero, List.length_cons, List.length_nil, List.length_map, List.length_append, List.all_cons, List.all_nil, List.isEmpty_cons, List.isEmpty_nil, List.cons_append, List.nil_append, List.append_nil, Bool.and_self, Bool.or_true, Bool.true_or, Bool.or_false, Bool.false_or, ↓reduceIte, Nat.reduceEqDiff, Nat.reduceAdd, Nat.reduceSub, Nat.reduceMul, Nat.reduceLeDiff, Nat.reduceBEq, Nat.zero_add, Nat.add_zero, and_self, true_and, and_true, Bool.not_true, Bool.not_false, Bool.false_eq_true, decide_true, decide_false, natInt, Int.natCast_nonneg, Int.toNat_zero, Int.toNat_one, Int.reduceLE, Int.reduceToNat, Int.reduceLT, Int.reduceEq, eq_self, Nat.le_refl, e0P]; exact rfl) (by simp only [trimS, Nat.testBit, Nat.reduceShiftRight, Nat.reduceAnd, Nat.reduceBneDiff, Nat.reduceBEq, bne, Bool.not_true, Bool.not_false, ↓reduceIte, Bool.false_eq_true]; exact rfl) ?_)
   change pwp _ _ _ _ _)
  refine pwp_block ?_
  refine pwp_loop (ι := Nat) (fun z => ⟨[(11, A.d (.one (.lit (.int .i64 z)))), (10, A.d (.one (.lit (.int .i64 y)))), (8, A.d (.one (.lit (.int .i64 x)))), (2, A.d (.one (.lit (.int .i64 i)))), (4, .ref 4 0), (7, .ref 7 0)], [(7, .var (encOpr o)), (4, .var (encAlg a))]⟩)
    (fun z => z ≤ n ∧ (o.assoc = true → ∀ (z' : Nat), z' < z → tw2 a i (tw2 a i x y) z' = tw2 a i x (tw2 a i y z'))) (fun z => n - z) 0 ⟨by omega, fun _ z' h => absurd h (by omega)⟩ (by simp [weakS, gs, e0P]) (by simp [weakM, gm, encOpr, encAlg]) fun z hz => ?_
  obtain ⟨hzn, hallz⟩ := hz
  have hwz := wrap1 (k := z) (by omega)
  by_cases hzl : z < n
  rotate_left
  · have hzl' : ¬ ((z : Int) < a.size) := by omega
    have hy1 := nyt fun ha z' hz' => hallz ha z' (by omega)
    (repeat (with_reducible refine pwp_seq ?_))
    (refine region_0 (by simp only [List.map_cons, List.map_nil]; exact rfl) (runs_end (by simp only [tt_0, tt_1, tt_2, tt_3, tt_4, tt_5, tt_6, tt_7, pm_0, pm_1, pm_2, pm_3, pm_4, pm_5, pm_6, pm_7, e0P, gs, gm, initS, rb_int, rb_str, rb_sub, rb_dcl, rb_opr, rb_ints, rowsB_nil, rowsB_cons, bqtt, bqtf, bqft, bqff, List.map_cons, List.map_nil, List.getElem?_cons_zero, List.getElem?_cons_succ, List.getElem?_map, Option.map_some, Option.map_none, Option.join_some, Option.getD_some, Option.isNone_none, Option.isNone_some, Option.isSome_none, Option.isSome_some, List.drop_succ_cons, List.drop_zero, List.drop_nil, List.take_succ_cons, List.take_zero, List.length_cons, List.length_nil, List.length_map, List.length_append, List.all_cons, List.all_nil, List.isEmpty_cons, List.isEmpty_nil, List.cons_append, List.nil_append, List.append_nil, Bool.and_self, Bool.or_true, Bool.true_or, Bool.or_false, Bool.false_or, ↓reduceIte, Nat.reduceEqDiff, Nat.reduceAdd, Nat.reduceSub, Nat.reduceMul, Nat.reduceLeDiff, Nat.reduceBEq, Nat.zero_add, Nat.add_zero, and_self, true_and, and_true, Bool.not_true, Bool.not_false, Bool.false_eq_true, decide_true, decide_false, natInt, Int.natCast_nonneg, Int.toNat_zero, Int.toNat_one, Int.reduceLE, Int.reduceToNat, Int.reduceLT, Int.reduceEq, eq_self, Nat.le_refl, encAlg, hzl']; exact rfl) (by simp only [trimS, Nat.testBit, Nat.reduceShiftRight, Nat.reduceAnd, Nat.reduceBneDiff, Nat.reduceBEq, bne, Bool.not_true, Bool.not_false, ↓reduceIte, Bool.false_eq_true]; exact rfl) ?_)
     change pwp _ _ _ _ _)
    (repeat (with_reducible refine pwp_seq ?_))
    (refine pwp_cf rfl ?_)
    (refine pwp_exit ?_
     change pwp _ _ _ _ _)
    (refine region_0 (by simp only [List.map_cons, List.map_nil]; exact rfl) (runs_end (by simp only [tt_0, tt_1, tt_2, tt_3, tt_4, tt_5, tt_6, tt_7, pm_0, pm_1, pm_2, pm_3, pm_4, pm_5, pm_6, pm_7, e0P, gs, gm, initS, rb_int, rb_str, rb_sub, rb_dcl, rb_opr, rb_ints, rowsB_nil, rowsB_cons, bqtt, bqtf, bqft, bqff, List.map_cons, List.map_nil, List.getElem?_cons_zero, List.getElem?_cons_succ, List.getElem?_map, Option.map_some, Option.map_none, Option.join_some, Option.getD_some, Option.isNone_none, Option.isNone_some, Option.isSome_none, Option.isSome_some, List.drop_succ_cons, List.drop_zero, List.drop_nil, List.take_succ_cons, List.take_zero, List.length_cons, List.length_nil, List.length_map, List.length_append, List.all_cons, List.all_nil, List.isEmpty_cons, List.isEmpty_nil, List.cons_append, List.nil_append, List.append_nil, Bool.and_self, Bool.or_true, Bool.true_or, Bool.or_false, Bool.false_or, ↓reduceIte, Nat.reduceEqDiff, Nat.reduceAdd, Nat.reduceSub, Nat.reduceMul, Nat.reduceLeDiff, Nat.reduceBEq, Nat.zero_add, Nat.add_zero, and_self, true_and, and_true, Bool.not_true, Bool.not_false, Bool.false_eq_true, decide_true, decide_false, natInt, Int.natCast_nonneg, Int.toNat_zero, Int.toNat_one, Int.reduceLE, Int.reduceToNat, Int.reduceLT, Int.reduceEq, eq_self, Nat.le_refl, hwy]; exact rfl) (by simp only [trimS, Nat.testBit, Nat.reduceShiftRight, Nat.reduceAnd, Nat.reduceBneDiff, Nat.reduceBEq, bne, Bool.not_true, Bool.not_false, ↓reduceIte, Bool.false_eq_true]; exact rfl) ?_)
     exact ⟨y + 1, hy1, by simp [weakS, gs, encOpr, encAlg], by simp [weakM, gm, encOpr, encAlg], by omega⟩)
  have hzl' : ((z : Int) < a.size) := by omega
  have hZ := inz hzl
  rcases Bool.eq_false_or_eq_true o.assoc with ha | ha
  rotate_left
  · skip
    have hy1 := nyt fun h => by simp [ha] at h
    (repeat (with_reducible refine pwp_seq ?_))
    (refine region_0 (by simp only [List.map_cons, List.map_nil]; exact rfl) (runs_end (by simp only [tt_0, tt_1, tt_2, tt_3, tt_4, tt_5, tt_6, tt_7, pm_0, pm_1, pm_2, pm_3, pm_4, pm_5, pm_6, pm_7, e0P, gs, gm, initS, rb_int, rb_str, rb_sub, rb_dcl, rb_opr, rb_ints, rowsB_nil, rowsB_cons, bqtt, bqtf, bqft, bqff, List.map_cons, List.map_nil, List.getElem?_cons_zero, List.getElem?_cons_succ, List.getElem?_map, Option.map_some, Option.map_none, Option.join_some, Option.getD_some, Option.isNone_none, Option.isNone_some, Option.isSome_none, Option.isSome_some, List.drop_succ_cons, List.drop_zero, List.drop_nil, List.take_succ_cons, List.take_zero, List.length_cons, List.length_nil, List.length_map, List.length_append, List.all_cons, List.all_nil, List.isEmpty_cons, List.isEmpty_nil, List.cons_append, List.nil_append, List.append_nil, Bool.and_self, Bool.or_true, Bool.true_or, Bool.or_false, Bool.false_or, ↓reduceIte, Nat.reduceEqDiff, Nat.reduceAdd, Nat.reduceSub, Nat.reduceMul, Nat.reduceLeDiff, Nat.reduceBEq, Nat.zero_add, Nat.add_zero, and_self, true_and, and_true, Bool.not_true, Bool.not_false, Bool.false_eq_true, decide_true, decide_false, natInt, Int.natCast_nonneg, Int.toNat_zero, Int.toNat_one, Int.reduceLE, Int.reduceToNat, Int.reduceLT, Int.reduceEq, eq_self, Nat.le_refl, encAlg, encOpr, hzl', ha]; exact rfl) (by simp only [trimS, Nat.testBit, Nat.reduceShiftRight, Nat.reduceAnd, Nat.reduceBneDiff, Nat.reduceBEq, bne, Bool.not_true, Bool.not_false, ↓reduceIte, Bool.false_eq_true]; exact rfl) ?_)
     change pwp _ _ _ _ _)
    (repeat (with_reducible refine pwp_seq ?_))
    (refine pwp_cf rfl ?_)
    (refine pwp_exit ?_
     change pwp _ _ _ _ _)
    (refine region_0 (by simp only [List.map_cons, List.map_nil]; exact rfl) (runs_end (by simp only [tt_0, tt_1, tt_2, tt_3, tt_4, tt_5, tt_6, tt_7, pm_0, pm_1, pm_2, pm_3, pm_4, pm_5, pm_6, pm_7, e0P, gs, gm, initS, rb_int, rb_str, rb_sub, rb_dcl, rb_opr, rb_ints, rowsB_nil, rowsB_cons, bqtt, bqtf, bqft, bqff, List.map_cons, List.map_nil, List.getElem?_cons_zero, List.getElem?_cons_succ, List.getElem?_map, Option.map_some, Option.map_none, Option.join_some, Option.getD_some, Option.isNone_none, Option.isNone_some, Option.isSome_none, Option.isSome_some, List.drop_succ_cons, List.drop_zero, List.drop_nil, List.take_succ_cons, List.take_zero, List.length_cons, List.length_nil, List.length_map, List.length_append, List.all_cons, List.all_nil, List.isEmpty_cons, List.isEmpty_nil, List.cons_append, List.nil_append, List.append_nil, Bool.and_self, Bool.or_true, Bool.true_or, Bool.or_false, Bool.false_or, ↓reduceIte, Nat.reduceEqDiff, Nat.reduceAdd, Nat.reduceSub, Nat.reduceMul, Nat.reduceLeDiff, Nat.reduceBEq, Nat.zero_add, Nat.add_zero, and_self, true_and, and_true, Bool.not_true, Bool.not_false, Bool.false_eq_true, decide_true, decide_false, natInt, Int.natCast_nonneg, Int.toNat_zero, Int.toNat_one, Int.reduceLE, Int.reduceToNat, Int.reduceLT, Int.reduceEq, eq_self, Nat.le_refl, hwy]; exact rfl) (by simp only [trimS, Nat.testBit, Nat.reduceShiftRight, Nat.reduceAnd, Nat.reduceBneDiff, Nat.reduceBEq, bne, Bool.not_true, Bool.not_false, ↓reduceIte, Bool.false_eq_true]; exact rfl) ?_)
     exact ⟨y + 1, hy1, by simp [weakS, gs, encOpr, encAlg, ha], by simp [weakM, gm, encOpr, encAlg, ha], by omega⟩)
  · skip
    obtain ⟨_, _, _, _, _, _, hXY⟩ := ht.get hX hY
    obtain ⟨_, _, _, _, _, _, hYZ⟩ := ht.get hY hZ
    have c3 := con_l22Two ht hXY hZ
    have c4 := con_l22Two ht hY hZ
    have c5 := con_l22Two ht hX hYZ
    rw [encAlg] at c3 c4 c5
    (repeat (with_reducible refine pwp_seq ?_))
    (refine region_0 (by simp only [List.map_cons, List.map_nil]; exact rfl) (runs_end (by simp only [tt_0, tt_1, tt_2, tt_3, tt_4, tt_5, tt_6, tt_7, pm_0, pm_1, pm_2, pm_3, pm_4, pm_5, pm_6, pm_7, e0P, gs, gm, initS, rb_int, rb_str, rb_sub, rb_dcl, rb_opr, rb_ints, rowsB_nil, rowsB_cons, bqtt, bqtf, bqft, bqff, List.map_cons, List.map_nil, List.getElem?_cons_zero, List.getElem?_cons_succ, List.getElem?_map, Option.map_some, Option.map_none, Option.join_some, Option.getD_some, Option.isNone_none, Option.isNone_some, Option.isSome_none, Option.isSome_some, List.drop_succ_cons, List.drop_zero, List.drop_nil, List.take_succ_cons, List.take_zero, List.length_cons, List.length_nil, List.length_map, List.length_append, List.all_cons, List.all_nil, List.isEmpty_cons, List.isEmpty_nil, List.cons_append, List.nil_append, List.append_nil, Bool.and_self, Bool.or_true, Bool.true_or, Bool.or_false, Bool.false_or, ↓reduceIte, Nat.reduceEqDiff, Nat.reduceAdd, Nat.reduceSub, Nat.reduceMul, Nat.reduceLeDiff, Nat.reduceBEq, Nat.zero_add, Nat.add_zero, and_self, true_and, and_true, Bool.not_true, Bool.not_false, Bool.false_eq_true, decide_true, decide_false, natInt, Int.natCast_nonneg, Int.toNat_zero, Int.toNat_one, Int.reduceLE, Int.reduceToNat, Int.reduceLT, Int.reduceEq, eq_self, Nat.le_refl, encAlg, encOpr, hzl', ha]; exact rfl) (by simp only [trimS, Nat.testBit, Nat.reduceShiftRight, Nat.reduceAnd, Nat.reduceBneDiff, Nat.reduceBEq, bne, Bool.not_true, Bool.not_false, ↓reduceIte, Bool.false_eq_true]; exact rfl) ?_)
     change pwp _ _ _ _ _)
    (repeat (with_reducible refine pwp_seq ?_))
    (refine pwp_ct rfl ?_)
    (refine pwp_skip ?_
     change pwp _ _ _ _ _)
    (repeat (with_reducible refine pwp_seq ?_))
    refine pwp_block ?_
    (repeat (with_reducible refine pwp_seq ?_))
    (refine region_D 19 (by kernel_rfl) (by simp only [List.map_cons, List.map_nil]; exact rfl) ?_)
    (refine runs_go (by simp only [tt_0, tt_1, tt_2, tt_3, tt_4, tt_5, tt_6, tt_7, pm_0, pm_1, pm_2, pm_3, pm_4, pm_5, pm_6, pm_7, e0P, gs, gm, initS, rb_int, rb_str, rb_sub, rb_dcl, rb_opr, rb_ints, rowsB_nil, rowsB_cons, bqtt, bqtf, bqft, bqff, List.map_cons, List.map_nil, List.getElem?_cons_zero, List.getElem?_cons_succ, List.getElem?_map, Option.map_some, Option.map_none, Option.join_some, Option.getD_some, Option.isNone_none, Option.isNone_some, Option.isSome_none, Option.isSome_some, List.drop_succ_cons, List.drop_zero, List.drop_nil, List.take_succ_cons, List.take_zero, List.length_cons, List.length_nil, List.length_map, List.length_append, List.all_cons, List.all_nil, List.isEmpty_cons, List.isEmpty_nil, List.cons_append, List.nil_append, List.append_nil, Bool.and_self, Bool.or_true, Bool.true_or, Bool.or_false, Bool.false_or, ↓reduceIte, Nat.reduceEqDiff, Nat.reduceAdd, Nat.reduceSub, Nat.reduceMul, Nat.reduceLeDiff, Nat.reduceBEq, Nat.zero_add, Nat.add_zero, and_self, true_and, and_true, Bool.not_true, Bool.not_false, Bool.false_eq_true, decide_true, decide_false, natInt, Int.natCast_nonneg, Int.toNat_zero, Int.toNat_one, Int.reduceLE, Int.reduceToNat, Int.reduceLT, Int.reduceEq, eq_self, Nat.le_refl, encAlg]; exact rfl) (by simp only [tt_0, tt_1, tt_2, tt_3, tt_4, tt_5, tt_6, tt_7, pm_0, pm_1, pm_2, pm_3, pm_4, pm_5, pm_6, pm_7, e0P, gs, gm, initS, rb_int, rb_str, rb_sub, rb_dcl, rb_opr, rb_ints, rowsB_nil, rowsB_cons, bqtt, bqtf, bqft, bqff, List.map_cons, List.map_nil, List.getElem?_cons_zero, List.getElem?_cons_succ, List.getElem?_map, Option.map_some, Option.map_none, Option.join_some, Option.getD_some, Option.isNone_none, Option.isNone_some, Option.isSome_none, Option.isSome_some, List.drop_succ_cons, List.drop_zero, List.drop_nil, List.take_succ_cons, List.take_zero, List.length_cons, List.length_nil, List.length_map, List.length_append, List.all_cons, List.all_nil, List.isEmpty_cons, List.isEmpty_nil, List.cons_append, List.nil_append, List.append_nil, Bool.and_self, Bool.or_true, Bool.true_or, Bool.or_false, Bool.false_or, ↓reduceIte, Nat.reduceEqDiff, Nat.reduceAdd, Nat.reduceSub, Nat.reduceMul, Nat.reduceLeDiff, Nat.reduceBEq, Nat.zero_add, Nat.add_zero, and_self, true_and, and_true, Bool.not_true, Bool.not_false, Bool.false_eq_true, decide_true, decide_false, natInt, Int.natCast_nonneg, Int.toNat_zero, Int.toNat_one, Int.reduceLE, Int.reduceToNat, Int.reduceLT, Int.reduceEq, eq_self, Nat.le_refl, encAlg]; exact rfl) (c1) (by simp only [setA, retA]; exact rfl) ?_)
    (refine runs_go (by simp only [tt_0, tt_1, tt_2, tt_3, tt_4, tt_5, tt_6, tt_7, pm_0, pm_1, pm_2, pm_3, pm_4, pm_5, pm_6, pm_7, e0P, gs, gm, initS, rb_int, rb_str, rb_sub, rb_dcl, rb_opr, rb_ints, rowsB_nil, rowsB_cons, bqtt, bqtf, bqft, bqff, List.map_cons, List.map_nil, List.getElem?_cons_zero, List.getElem?_cons_succ, List.getElem?_map, Option.map_some, Option.map_none, Option.join_some, Option.getD_some, Option.isNone_none, Option.isNone_some, Option.isSome_none, Option.isSome_some, List.drop_succ_cons, List.drop_zero, List.drop_nil, List.take_succ_cons, List.take_zero, List.length_cons, List.length_nil, List.length_map, List.length_append, List.all_cons, List.all_nil, List.isEmpty_cons, List.isEmpty_nil, List.cons_append, List.nil_append, List.append_nil, Bool.and_self, Bool.or_true, Bool.true_or, Bool.or_false, Bool.false_or, ↓reduceIte, Nat.reduceEqDiff, Nat.reduceAdd, Nat.reduceSub, Nat.reduceMul, Nat.reduceLeDiff, Nat.reduceBEq, Nat.zero_add, Nat.add_zero, and_self, true_and, and_true, Bool.not_true, Bool.not_false, Bool.false_eq_true, decide_true, decide_false, natInt, Int.natCast_nonneg, Int.toNat_zero, Int.toNat_one, Int.reduceLE, Int.reduceToNat, Int.reduceLT, Int.reduceEq, eq_self, Nat.le_refl, encAlg]; exact rfl) (by simp only [tt_0, tt_1, tt_2, tt_3, tt_4, tt_5, tt_6, tt_7, pm_0, pm_1, pm_2, pm_3, pm_4, pm_5, pm_6, pm_7, e0P, gs, gm, initS, rb_int, rb_str, rb_sub, rb_dcl, rb_opr, rb_ints, rowsB_nil, rowsB_cons, bqtt, bqtf, bqft, bqff, List.map_cons, List.map_nil, List.getElem?_cons_zero, List.getElem?_cons_succ, List.getElem?_map, Option.map_some, Option.map_none, Option.join_some, Option.getD_some, Option.isNone_none, Option.isNone_some, Option.isSome_none, Option.isSome_some, List.drop_succ_cons, List.drop_zero, List.drop_nil, List.take_succ_cons, List.take_zero, List.length_cons, List.length_nil, List.length_map, List.length_append, List.all_cons, List.all_nil, List.isEmpty_cons, List.isEmpty_nil, List.cons_append, List.nil_append, List.append_nil, Bool.and_self, Bool.or_true, Bool.true_or, Bool.or_false, Bool.false_or, ↓reduceIte, Nat.reduceEqDiff, Nat.reduceAdd, Nat.reduceSub, Nat.reduceMul, Nat.reduceLeDiff, Nat.reduceBEq, Nat.zero_add, Nat.add_zero, and_self, true_and, and_true, Bool.not_true, Bool.not_false, Bool.false_eq_true, decide_true, decide_false, natInt, Int.natCast_nonneg, Int.toNat_zero, Int.toNat_one, Int.reduceLE, Int.reduceToNat, Int.reduceLT, Int.reduceEq, eq_self, Nat.le_refl, encAlg]; exact rfl) (c3) (by simp only [setA, retA]; exact rfl) ?_)
    (refine runs_go (by simp only [tt_0, tt_1, tt_2, tt_3, tt_4, tt_5, tt_6, tt_7, pm_0, pm_1, pm_2, pm_3, pm_4, pm_5, pm_6, pm_7, e0P, gs, gm, initS, rb_int, rb_str, rb_sub, rb_dcl, rb_opr, rb_ints, rowsB_nil, rowsB_cons, bqtt, bqtf, bqft, bqff, List.map_cons, List.map_nil, List.getElem?_cons_zero, List.getElem?_cons_succ, List.getElem?_map, Option.map_some, Option.map_none, Option.join_some, Option.getD_some, Option.isNone_none, Option.isNone_some, Option.isSome_none, Option.isSome_some, List.drop_succ_cons, List.drop_zero, List.drop_nil, List.take_succ_cons, List.take_zero, List.length_cons, List.length_nil, List.length_map, List.length_append, List.all_cons, List.all_nil, List.isEmpty_cons, List.isEmpty_nil, List.cons_append, List.nil_append, List.append_nil, Bool.and_self, Bool.or_true, Bool.true_or, Bool.or_false, Bool.false_or, ↓reduceIte, Nat.reduceEqDiff, Nat.reduceAdd, Nat.reduceSub, Nat.reduceMul, Nat.reduceLeDiff, Nat.reduceBEq, Nat.zero_add, Nat.add_zero, and_self, true_and, and_true, Bool.not_true, Bool.not_false, Bool.false_eq_true, decide_true, decide_false, natInt, Int.natCast_nonneg, Int.toNat_zero, Int.toNat_one, Int.reduceLE, Int.reduceToNat, Int.reduceLT, Int.reduceEq, eq_self, Nat.le_refl, encAlg]; exact rfl) (by simp only [tt_0, tt_1, tt_2, tt_3, tt_4, tt_5, tt_6, tt_7, pm_0, pm_1, pm_2, pm_3, pm_4, pm_5, pm_6, pm_7, e0P, gs, gm, initS, rb_int, rb_str, rb_sub, rb_dcl, rb_opr, rb_ints, rowsB_nil, rowsB_cons, bqtt, bqtf, bqft, bqff, List.map_cons, List.map_nil, List.getElem?_cons_zero, List.getElem?_cons_succ, List.getElem?_map, Option.map_some, Option.map_none, Option.join_some, Option.getD_some, Option.isNone_none, Option.isNone_some, Option.isSome_none, Option.isSome_some, List.drop_succ_cons, List.drop_zero, List.drop_nil, List.take_succ_cons, List.take_zero, List.length_cons, List.length_nil, List.length_map, List.length_append, List.all_cons, List.all_nil, List.isEmpty_cons, List.isEmpty_nil, List.cons_append, List.nil_append, List.append_nil, Bool.and_self, Bool.or_true, Bool.true_or, Bool.or_false, Bool.false_or, ↓reduceIte, Nat.reduceEqDiff, Nat.reduceAdd, Nat.reduceSub, Nat.reduceMul, Nat.reduceLeDiff, Nat.reduceBEq, Nat.zero_add, Nat.add_zero, and_self, true_and, and_true, Bool.not_true, Bool.not_false, Bool.false_eq_true, decide_true, decide_false, natInt, Int.natCast_nonneg, Int.toNat_zero, Int.toNat_one, Int.reduceLE, Int.reduceToNat, Int.reduceLT, Int.reduceEq, eq_self, Nat.le_refl, encAlg]; exact rfl) (c4) (by simp only [setA, retA]; exact rfl) ?_)
    (refine runs_go (by simp only [tt_0, tt_1, tt_2, tt_3, tt_4, tt_5, tt_6, tt_7, pm_0, pm_1, pm_2, pm_3, pm_4, pm_5, pm_6, pm_7, e0P, gs, gm, initS, rb_int, rb_str, rb_sub, rb_dcl, rb_opr, rb_ints, rowsB_nil, rowsB_cons, bqtt, bqtf, bqft, bqff, List.map_cons, List.map_nil, List.getElem?_cons_zero, List.getElem?_cons_succ, List.getElem?_map, Option.map_some, Option.map_none, Option.join_some, Option.getD_some, Option.isNone_none, Option.isNone_some, Option.isSome_none, Option.isSome_some, List.drop_succ_cons, List.drop_zero, List.drop_nil, List.take_succ_cons, List.take_zero, List.length_cons, List.length_nil, List.length_map, List.length_append, List.all_cons, List.all_nil, List.isEmpty_cons, List.isEmpty_nil, List.cons_append, List.nil_append, List.append_nil, Bool.and_self, Bool.or_true, Bool.true_or, Bool.or_false, Bool.false_or, ↓reduceIte, Nat.reduceEqDiff, Nat.reduceAdd, Nat.reduceSub, Nat.reduceMul, Nat.reduceLeDiff, Nat.reduceBEq, Nat.zero_add, Nat.add_zero, and_self, true_and, and_true, Bool.not_true, Bool.not_false, Bool.false_eq_true, decide_true, decide_false, natInt, Int.natCast_nonneg, Int.toNat_zero, Int.toNat_one, Int.reduceLE, Int.reduceToNat, Int.reduceLT, Int.reduceEq, eq_self, Nat.le_refl, encAlg]; exact rfl) (by simp only [tt_0, tt_1, tt_2, tt_3, tt_4, tt_5, tt_6, tt_7, pm_0, pm_1, pm_2, pm_3, pm_4, pm_5, pm_6, pm_7, e0P, gs, gm, initS, rb_int, rb_str, rb_sub, rb_dcl, rb_opr, rb_ints, rowsB_nil, rowsB_cons, bqtt, bqtf, bqft, bqff, List.map_cons, List.map_nil, List.getElem?_cons_zero, List.getElem?_cons_succ, List.getElem?_map, Option.map_some, Option.map_none, Option.join_some, Option.getD_some, Option.isNone_none, Option.isNone_some, Option.isSome_none, Option.isSome_some, List.drop_succ_cons, List.drop_zero, List.drop_nil, List.take_succ_cons, List.take_zero, List.length_cons, List.length_nil, List.length_map, List.length_append, List.all_cons, List.all_nil, List.isEmpty_cons, List.isEmpty_nil, List.cons_append, List.nil_append, List.append_nil, Bool.and_self, Bool.or_true, Bool.true_or, Bool.or_false, Bool.false_or, ↓reduceIte, Nat.reduceEqDiff, Nat.reduceAdd, Nat.reduceSub, Nat.reduceMul, Nat.reduceLeDiff, Nat.reduceBEq, Nat.zero_add, Nat.add_zero, and_self, true_and, and_true, Bool.not_true, Bool.not_false, Bool.false_eq_true, decide_true, decide_false, natInt, Int.natCast_nonneg, Int.toNat_zero, Int.toNat_one, Int.reduceLE, Int.reduceToNat, Int.reduceLT, Int.reduceEq, eq_self, Nat.le_refl, encAlg]; exact rfl) (c5) (by simp only [setA, retA]; exact rfl) ?_)
    by_cases h1 : tw2 a i (tw2 a i x y) z = tw2 a i x (tw2 a i y z)
    · (refine runs_end (by simp only [tt_0, tt_1, tt_2, tt_3, tt_4, tt_5, tt_6, tt_7, pm_0, pm_1, pm_2, pm_3, pm_4, pm_5, pm_6, pm_7, e0P, gs, gm, initS, rb_int, rb_str, rb_sub, rb_dcl, rb_opr, rb_ints, rowsB_nil, rowsB_cons, bqtt, bqtf, bqft, bqff, List.map_cons, List.map_nil, List.getElem?_cons_zero, List.getElem?_cons_succ, List.getElem?_map, Option.map_some, Option.map_none, Option.join_some, Option.getD_some, Option.isNone_none, Option.isNone_some, Option.isSome_none, Option.isSome_some, List.drop_succ_cons, List.drop_zero, List.drop_nil, List.take_succ_cons, List.take_zero, List.length_cons, List.length_nil, List.length_map, List.length_append, List.all_cons, List.all_nil, List.isEmpty_cons, List.isEmpty_nil, List.cons_append, List.nil_append, List.append_nil, Bool.and_self, Bool.or_true, Bool.true_or, Bool.or_false, Bool.false_or, ↓reduceIte, Nat.reduceEqDiff, Nat.reduceAdd, Nat.reduceSub, Nat.reduceMul, Nat.reduceLeDiff, Nat.reduceBEq, Nat.zero_add, Nat.add_zero, and_self, true_and, and_true, Bool.not_true, Bool.not_false, Bool.false_eq_true, decide_true, decide_false, natInt, Int.natCast_nonneg, Int.toNat_zero, Int.toNat_one, Int.reduceLE, Int.reduceToNat, Int.reduceLT, Int.reduceEq, eq_self, Nat.le_refl, h1]; exact rfl) (by simp only [trimS, Nat.testBit, Nat.reduceShiftRight, Nat.reduceAnd, Nat.reduceBneDiff, Nat.reduceBEq, bne, Bool.not_true, Bool.not_false, ↓reduceIte, Bool.false_eq_true]; exact rfl) ?_
       change pwp _ _ _ _ _)
      (refine pwp_cf rfl ?_)
      (refine pwp_skip ?_
       change pwp _ _ _ _ _)
      have hz1 : z + 1 ≤ n ∧ (o.assoc = true → ∀ (z' : Nat), z' < z + 1 → tw2 a i (tw2 a i x y) z' = tw2 a i x (tw2 a i y z')) := ⟨by omega, fun _ z' hz' => by
        by_cases e : z' = z
        · subst e; exact h1
        · exact hallz ha z' (by omega)⟩
      (refine region_0 (by simp only [List.map_cons, List.map_nil]; exact rfl) (runs_end (by simp only [tt_0, tt_1, tt_2, tt_3, tt_4, tt_5, tt_6, tt_7, pm_0, pm_1, pm_2, pm_3, pm_4, pm_5, pm_6, pm_7, e0P, gs, gm, initS, rb_int, rb_str, rb_sub, rb_dcl, rb_opr, rb_ints, rowsB_nil, rowsB_cons, bqtt, bqtf, bqft, bqff, List.map_cons, List.map_nil, List.getElem?_cons_zero, List.getElem?_cons_succ, List.getElem?_map, Option.map_some, Option.map_none, Option.join_some, Option.getD_some, Option.isNone_none, Option.isNone_some, Option.isSome_none, Option.isSome_some, List.drop_succ_cons, List.drop_zero, List.drop_nil, List.take_succ_cons, List.take_zero, List.length_cons, List.length_nil, List.length_map, List.length_append, List.all_cons, List.all_nil, List.isEmpty_cons, List.isEmpty_nil, List.cons_append, List.nil_append, List.append_nil, Bool.and_self, Bool.or_true, Bool.true_or, Bool.or_false, Bool.false_or, ↓reduceIte, Nat.reduceEqDiff, Nat.reduceAdd, Nat.reduceSub, Nat.reduceMul, Nat.reduceLeDiff, Nat.reduceBEq, Nat.zero_add, Nat.add_zero, and_self, true_and, and_true, Bool.not_true, Bool.not_false, Bool.false_eq_true, decide_true, decide_false, natInt, Int.natCast_nonneg, Int.toNat_zero, Int.toNat_one, Int.reduceLE, Int.reduceToNat, Int.reduceLT, Int.reduceEq, eq_self, Nat.le_refl, hwz]; exact rfl) (by simp only [trimS, Nat.testBit, Nat.reduceShiftRight, Nat.reduceAnd, Nat.reduceBneDiff, Nat.reduceBEq, bne, Bool.not_true, Bool.not_false, ↓reduceIte, Bool.false_eq_true]; exact rfl) ?_)
       exact ⟨z + 1, hz1, by simp [weakS, gs, encOpr, encAlg, ha], by simp [weakM, gm, encOpr, encAlg, ha], by omega⟩)
    · have hf := hno fun hO => h1 (hO.assoc ha x y z hX hY hZ)
      (refine runs_end (by simp only [tt_0, tt_1, tt_2, tt_3, tt_4, tt_5, tt_6, tt_7, pm_0, pm_1, pm_2, pm_3, pm_4, pm_5, pm_6, pm_7, e0P, gs, gm, initS, rb_int, rb_str, rb_sub, rb_dcl, rb_opr, rb_ints, rowsB_nil, rowsB_cons, bqtt, bqtf, bqft, bqff, List.map_cons, List.map_nil, List.getElem?_cons_zero, List.getElem?_cons_succ, List.getElem?_map, Option.map_some, Option.map_none, Option.join_some, Option.getD_some, Option.isNone_none, Option.isNone_some, Option.isSome_none, Option.isSome_some, List.drop_succ_cons, List.drop_zero, List.drop_nil, List.take_succ_cons, List.take_zero, List.length_cons, List.length_nil, List.length_map, List.length_append, List.all_cons, List.all_nil, List.isEmpty_cons, List.isEmpty_nil, List.cons_append, List.nil_append, List.append_nil, Bool.and_self, Bool.or_true, Bool.true_or, Bool.or_false, Bool.false_or, ↓reduceIte, Nat.reduceEqDiff, Nat.reduceAdd, Nat.reduceSub, Nat.reduceMul, Nat.reduceLeDiff, Nat.reduceBEq, Nat.zero_add, Nat.add_zero, and_self, true_and, and_true, Bool.not_true, Bool.not_false, Bool.false_eq_true, decide_true, decide_false, natInt, Int.natCast_nonneg, Int.toNat_zero, Int.toNat_one, Int.reduceLE, Int.reduceToNat, Int.reduceLT, Int.reduceEq, eq_self, Nat.le_refl, h1]; exact rfl) (by simp only [trimS, Nat.testBit, Nat.reduceShiftRight, Nat.reduceAnd, Nat.reduceBneDiff, Nat.reduceBEq, bne, Bool.not_true, Bool.not_false, ↓reduceIte, Bool.false_eq_true]; exact rfl) ?_
       change pwp _ _ _ _ _)
      (refine pwp_ct rfl ?_)
      ((repeat (with_reducible refine pwp_seq ?_))
       (refine region_0 (by simp only [List.map_cons, List.map_nil]; exact rfl) (runs_end (by simp only [tt_0, tt_1, tt_2, tt_3, tt_4, tt_5, tt_6, tt_7, pm_0, pm_1, pm_2, pm_3, pm_4, pm_5, pm_6, pm_7, e0P, gs, gm, initS, rb_int, rb_str, rb_sub, rb_dcl, rb_opr, rb_ints, rowsB_nil, rowsB_cons, bqtt, bqtf, bqft, bqff, List.map_cons, List.map_nil, List.getElem?_cons_zero, List.getElem?_cons_succ, List.getElem?_map, Option.map_some, Option.map_none, Option.join_some, Option.getD_some, Option.isNone_none, Option.isNone_some, Option.isSome_none, Option.isSome_some, List.drop_succ_cons, List.drop_zero, List.drop_nil, List.take_succ_cons, List.take_zero, List.length_cons, List.length_nil, List.length_map, List.length_append, List.all_cons, List.all_nil, List.isEmpty_cons, List.isEmpty_nil, List.cons_append, List.nil_append, List.append_nil, Bool.and_self, Bool.or_true, Bool.true_or, Bool.or_false, Bool.false_or, ↓reduceIte, Nat.reduceEqDiff, Nat.reduceAdd, Nat.reduceSub, Nat.reduceMul, Nat.reduceLeDiff, Nat.reduceBEq, Nat.zero_add, Nat.add_zero, and_self, true_and, and_true, Bool.not_true, Bool.not_false, Bool.false_eq_true, decide_true, decide_false, natInt, Int.natCast_nonneg, Int.toNat_zero, Int.toNat_one, Int.reduceLE, Int.reduceToNat, Int.reduceLT, Int.reduceEq, eq_self, Nat.le_refl, e0P]; exact rfl) (by simp only [trimS, Nat.testBit, Nat.reduceShiftRight, Nat.reduceAnd, Nat.reduceBneDiff, Nat.reduceBEq, bne, Bool.not_true, Bool.not_false, ↓reduceIte, Bool.false_eq_true]; exact rfl) ?_)
        change pwp _ _ _ _ _)
       (refine pwp_ret (ret_ok ?_))
       simp [resOk, resA, resSlots, gs, hf])

set_option maxHeartbeats 40000000 in
set_option maxRecDepth 100000 in
theorem con_specOb {g : Sgn} {a : Alg} (hal : Con e0 45 [.agg (encSgn g), .agg (encAlg a)] [.one (.lit (.bool (isAlg g a)))]) : Con e0 19 [.agg (encSgn g), .agg (encAlg a)] [.one (.lit (.bool (isOb g a)))] := by
  refine con_of_pwp e0_ok 2114111 Try.func19 rfl (by kernel_rfl) (by kernel_rfl) rfl rfl ?_
  have cs := fun (i : Nat) (o : Opr) (ho : g.ops[i]? = some o) (hA : AtOp g a i o) => con_l22Axioms ho hA
  rw [encSgn, encAlg] at hal cs
  (repeat (with_reducible refine pwp_seq ?_))
  (refine region_0 (by simp only [List.map_cons, List.map_nil]; exact rfl) (runs_end (by simp only [tt_0, tt_1, tt_2, tt_3, tt_4, tt_5, tt_6, tt_7, pm_0, pm_1, pm_2, pm_3, pm_4, pm_5, pm_6, pm_7, e0P, gs, gm, initS, rb_int, rb_str, rb_sub, rb_dcl, rb_opr, rb_ints, rowsB_nil, rowsB_cons, bqtt, bqtf, bqft, bqff, List.map_cons, List.map_nil, List.getElem?_cons_zero, List.getElem?_cons_succ, List.getElem?_map, Option.map_some, Option.map_none, Option.join_some, Option.getD_some, Option.isNone_none, Option.isNone_some, Option.isSome_none, Option.isSome_some, List.drop_succ_cons, List.drop_zero, List.drop_nil, List.take_succ_cons, List.take_zero, List.length_cons, List.length_nil, List.length_map, List.length_append, List.all_cons, List.all_nil, List.isEmpty_cons, List.isEmpty_nil, List.cons_append, List.nil_append, List.append_nil, Bool.and_self, Bool.or_true, Bool.true_or, Bool.or_false, Bool.false_or, ↓reduceIte, Nat.reduceEqDiff, Nat.reduceAdd, Nat.reduceSub, Nat.reduceMul, Nat.reduceLeDiff, Nat.reduceBEq, Nat.zero_add, Nat.add_zero, and_self, true_and, and_true, Bool.not_true, Bool.not_false, Bool.false_eq_true, decide_true, decide_false, natInt, Int.natCast_nonneg, Int.toNat_zero, Int.toNat_one, Int.reduceLE, Int.reduceToNat, Int.reduceLT, Int.reduceEq, eq_self, Nat.le_refl, encSgn, encAlg]; exact rfl) (by simp only [trimS, Nat.testBit, Nat.reduceShiftRight, Nat.reduceAnd, Nat.reduceBneDiff, Nat.reduceBEq, bne, Bool.not_true, Bool.not_false, ↓reduceIte, Bool.false_eq_true]; exact rfl) ?_)
   change pwp _ _ _ _ _)
  (repeat (with_reducible refine pwp_seq ?_))
  (refine region_0 (by simp only [List.map_cons, List.map_nil]; exact rfl) ?_)
  (refine runs_go (by simp only [tt_0, tt_1, tt_2, tt_3, tt_4, tt_5, tt_6, tt_7, pm_0, pm_1, pm_2, pm_3, pm_4, pm_5, pm_6, pm_7, e0P, gs, gm, initS, rb_int, rb_str, rb_sub, rb_dcl, rb_opr, rb_ints, rowsB_nil, rowsB_cons, bqtt, bqtf, bqft, bqff, List.map_cons, List.map_nil, List.getElem?_cons_zero, List.getElem?_cons_succ, List.getElem?_map, Option.map_some, Option.map_none, Option.join_some, Option.getD_some, Option.isNone_none, Option.isNone_some, Option.isSome_none, Option.isSome_some, List.drop_succ_cons, List.drop_zero, List.drop_nil, List.take_succ_cons, List.take_zero, List.length_cons, List.length_nil, List.length_map, List.length_append, List.all_cons, List.all_nil, List.isEmpty_cons, List.isEmpty_nil, List.cons_append, List.nil_append, List.append_nil, Bool.and_self, Bool.or_true, Bool.true_or, Bool.or_false, Bool.false_or, ↓reduceIte, Nat.reduceEqDiff, Nat.reduceAdd, Nat.reduceSub, Nat.reduceMul, Nat.reduceLeDiff, Nat.reduceBEq, Nat.zero_add, Nat.add_zero, and_self, true_and, and_true, Bool.not_true, Bool.not_false, Bool.false_eq_true, decide_true, decide_false, natInt, Int.natCast_nonneg, Int.toNat_zero, Int.toNat_one, Int.reduceLE, Int.reduceToNat, Int.reduceLT, Int.reduceEq, eq_self, Nat.le_refl, e0P]; exact rfl) (by simp only [tt_0, tt_1, tt_2, tt_3, tt_4, tt_5, tt_6, tt_7, pm_0, pm_1, pm_2, pm_3, pm_4, pm_5, pm_6, pm_7, e0P, gs, gm, initS, rb_int, rb_str, rb_sub, rb_dcl, rb_opr, rb_ints, rowsB_nil, rowsB_cons, bqtt, bqtf, bqft, bqff, List.map_cons, List.map_nil, List.getElem?_cons_zero, List.getElem?_cons_succ, List.getElem?_map, Option.map_some, Option.map_none, Option.join_some, Option.getD_some, Option.isNone_none, Option.isNone_some, Option.isSome_none, Option.isSome_some, List.drop_succ_cons, List.drop_zero, List.drop_nil, List.take_succ_cons, List.take_zero, List.length_cons, List.length_nil, List.length_map, List.length_append, List.all_cons, List.all_nil, List.isEmpty_cons, List.isEmpty_nil, List.cons_append, List.nil_append, List.append_nil, Bool.and_self, Bool.or_true, Bool.true_or, Bool.or_false, Bool.false_or, ↓reduceIte, Nat.reduceEqDiff, Nat.reduceAdd, Nat.reduceSub, Nat.reduceMul, Nat.reduceLeDiff, Nat.reduceBEq, Nat.zero_add, Nat.add_zero, and_self, true_and, and_true, Bool.not_true, Bool.not_false, Bool.false_eq_true, decide_true, decide_false, natInt, Int.natCast_nonneg, Int.toNat_zero, Int.toNat_one, Int.reduceLE, Int.reduceToNat, Int.reduceLT, Int.reduceEq, eq_self, Nat.le_refl, e0P]; exact rfl) (hal) (by simp only [setA, retA]; exact rfl) ?_)
  by_cases hA : isAlg g a = true
  rotate_left
  · have hA' : isAlg g a = false := by simpa using hA
    have hf := isOb_false (fun h : ObOk g a => hA (isAlg_true h.alg))
    (refine runs_end (by simp only [tt_0, tt_1, tt_2, tt_3, tt_4, tt_5, tt_6, tt_7, pm_0, pm_1, pm_2, pm_3, pm_4, pm_5, pm_6, pm_7, e0P, gs, gm, initS, rb_int, rb_str, rb_sub, rb_dcl, rb_opr, rb_ints, rowsB_nil, rowsB_cons, bqtt, bqtf, bqft, bqff, List.map_cons, List.map_nil, List.getElem?_cons_zero, List.getElem?_cons_succ, List.getElem?_map, Option.map_some, Option.map_none, Option.join_some, Option.getD_some, Option.isNone_none, Option.isNone_some, Option.isSome_none, Option.isSome_some, List.drop_succ_cons, List.drop_zero, List.drop_nil, List.take_succ_cons, List.take_zero, List.length_cons, List.length_nil, List.length_map, List.length_append, List.all_cons, List.all_nil, List.isEmpty_cons, List.isEmpty_nil, List.cons_append, List.nil_append, List.append_nil, Bool.and_self, Bool.or_true, Bool.true_or, Bool.or_false, Bool.false_or, ↓reduceIte, Nat.reduceEqDiff, Nat.reduceAdd, Nat.reduceSub, Nat.reduceMul, Nat.reduceLeDiff, Nat.reduceBEq, Nat.zero_add, Nat.add_zero, and_self, true_and, and_true, Bool.not_true, Bool.not_false, Bool.false_eq_true, decide_true, decide_false, natInt, Int.natCast_nonneg, Int.toNat_zero, Int.toNat_one, Int.reduceLE, Int.reduceToNat, Int.reduceLT, Int.reduceEq, eq_self, Nat.le_refl, hA']; exact rfl) (by simp only [trimS, Nat.testBit, Nat.reduceShiftRight, Nat.reduceAnd, Nat.reduceBneDiff, Nat.reduceBEq, bne, Bool.not_true, Bool.not_false, ↓reduceIte, Bool.false_eq_true]; exact rfl) ?_
     change pwp _ _ _ _ _)
    (refine pwp_ct rfl ?_)
    ((repeat (with_reducible refine pwp_seq ?_))
     (refine region_0 (by simp only [List.map_cons, List.map_nil]; exact rfl) (runs_end (by simp only [tt_0, tt_1, tt_2, tt_3, tt_4, tt_5, tt_6, tt_7, pm_0, pm_1, pm_2, pm_3, pm_4, pm_5, pm_6, pm_7, e0P, gs, gm, initS, rb_int, rb_str, rb_sub, rb_dcl, rb_opr, rb_ints, rowsB_nil, rowsB_cons, bqtt, bqtf, bqft, bqff, List.map_cons, List.map_nil, List.getElem?_cons_zero, List.getElem?_cons_succ, List.getElem?_map, Option.map_some, Option.map_none, Option.join_some, Option.getD_some, Option.isNone_none, Option.isNone_some, Option.isSome_none, Option.isSome_some, List.drop_succ_cons, List.drop_zero, List.drop_nil, List.take_succ_cons, List.take_zero, List.length_cons, List.length_nil, List.length_map, List.length_append, List.all_cons, List.all_nil, List.isEmpty_cons, List.isEmpty_nil, List.cons_append, List.nil_append, List.append_nil, Bool.and_self, Bool.or_true, Bool.true_or, Bool.or_false, Bool.false_or, ↓reduceIte, Nat.reduceEqDiff, Nat.reduceAdd, Nat.reduceSub, Nat.reduceMul, Nat.reduceLeDiff, Nat.reduceBEq, Nat.zero_add, Nat.add_zero, and_self, true_and, and_true, Bool.not_true, Bool.not_false, Bool.false_eq_true, decide_true, decide_false, natInt, Int.natCast_nonneg, Int.toNat_zero, Int.toNat_one, Int.reduceLE, Int.reduceToNat, Int.reduceLT, Int.reduceEq, eq_self, Nat.le_refl, e0P]; exact rfl) (by simp only [trimS, Nat.testBit, Nat.reduceShiftRight, Nat.reduceAnd, Nat.reduceBneDiff, Nat.reduceBEq, bne, Bool.not_true, Bool.not_false, ↓reduceIte, Bool.false_eq_true]; exact rfl) ?_)
      change pwp _ _ _ _ _)
     (refine pwp_ret (ret_ok ?_))
     simp [resOk, resA, resSlots, gs, hf])
  have hO := isAlg_iff.1 hA
  have hl14 := hO.sgn.len
  (refine runs_end (by simp only [tt_0, tt_1, tt_2, tt_3, tt_4, tt_5, tt_6, tt_7, pm_0, pm_1, pm_2, pm_3, pm_4, pm_5, pm_6, pm_7, e0P, gs, gm, initS, rb_int, rb_str, rb_sub, rb_dcl, rb_opr, rb_ints, rowsB_nil, rowsB_cons, bqtt, bqtf, bqft, bqff, List.map_cons, List.map_nil, List.getElem?_cons_zero, List.getElem?_cons_succ, List.getElem?_map, Option.map_some, Option.map_none, Option.join_some, Option.getD_some, Option.isNone_none, Option.isNone_some, Option.isSome_none, Option.isSome_some, List.drop_succ_cons, List.drop_zero, List.drop_nil, List.take_succ_cons, List.take_zero, List.length_cons, List.length_nil, List.length_map, List.length_append, List.all_cons, List.all_nil, List.isEmpty_cons, List.isEmpty_nil, List.cons_append, List.nil_append, List.append_nil, Bool.and_self, Bool.or_true, Bool.true_or, Bool.or_false, Bool.false_or, ↓reduceIte, Nat.reduceEqDiff, Nat.reduceAdd, Nat.reduceSub, Nat.reduceMul, Nat.reduceLeDiff, Nat.reduceBEq, Nat.zero_add, Nat.add_zero, and_self, true_and, and_true, Bool.not_true, Bool.not_false, Bool.false_eq_true, decide_true, decide_false, natInt, Int.natCast_nonneg, Int.toNat_zero, Int.toNat_one, Int.reduceLE, Int.reduceToNat, Int.reduceLT, Int.reduceEq, eq_self, Nat.le_refl, hA]; exact rfl) (by simp only [trimS, Nat.testBit, Nat.reduceShiftRight, Nat.reduceAnd, Nat.reduceBneDiff, Nat.reduceBEq, bne, Bool.not_true, Bool.not_false, ↓reduceIte, Bool.false_eq_true]; exact rfl) ?_
   change pwp _ _ _ _ _)
  (refine pwp_cf rfl ?_)
  (refine pwp_skip ?_
   change pwp _ _ _ _ _)
  (repeat (with_reducible refine pwp_seq ?_))
  (refine region_0 (by simp only [List.map_cons, List.map_nil]; exact rfl) (runs_end (by simp only [tt_0, tt_1, tt_2, tt_3, tt_4, tt_5, tt_6, tt_7, pm_0, pm_1, pm_2, pm_3, pm_4, pm_5, pm_6, pm_7, e0P, gs, gm, initS, rb_int, rb_str, rb_sub, rb_dcl, rb_opr, rb_ints, rowsB_nil, rowsB_cons, bqtt, bqtf, bqft, bqff, List.map_cons, List.map_nil, List.getElem?_cons_zero, List.getElem?_cons_succ, List.getElem?_map, Option.map_some, Option.map_none, Option.join_some, Option.getD_some, Option.isNone_none, Option.isNone_some, Option.isSome_none, Option.isSome_some, List.drop_succ_cons, List.drop_zero, List.drop_nil, List.take_succ_cons, List.take_zero, List.length_cons, List.length_nil, List.length_map, List.length_append, List.all_cons, List.all_nil, List.isEmpty_cons, List.isEmpty_nil, List.cons_append, List.nil_append, List.append_nil, Bool.and_self, Bool.or_true, Bool.true_or, Bool.or_false, Bool.false_or, ↓reduceIte, Nat.reduceEqDiff, Nat.reduceAdd, Nat.reduceSub, Nat.reduceMul, Nat.reduceLeDiff, Nat.reduceBEq, Nat.zero_add, Nat.add_zero, and_self, true_and, and_true, Bool.not_true, Bool.not_false, Bool.false_eq_true, decide_true, decide_false, natInt, Int.natCast_nonneg, Int.toNat_zero, Int.toNat_one, Int.reduceLE, Int.reduceToNat, Int.reduceLT, Int.reduceEq, eq_self, Nat.le_refl, e0P]; exact rfl) (by simp only [trimS, Nat.testBit, Nat.reduceShiftRight, Nat.reduceAnd, Nat.reduceBneDiff, Nat.reduceBEq, bne, Bool.not_true, Bool.not_false, ↓reduceIte, Bool.false_eq_true]; exact rfl) ?_)
   change pwp _ _ _ _ _)
  refine pwp_block ?_
  refine pwp_loop (ι := Nat) (fun i => ⟨[(5, A.d (.one (.lit (.int .i64 i)))), (2, .ref 2 0), (3, .ref 3 0)], [(3, .var (encAlg a)), (2, .var (encSgn g))]⟩)
    (fun i => i ≤ g.ops.length ∧ ∀ (i' : Nat) (o : Opr), i' < i → g.ops[i']? = some o → OpOk a i' o) (fun i => g.ops.length - i) 0 ⟨by omega, fun i' o h => absurd h (by omega)⟩ (by simp [weakS, gs, e0P]) (by simp [weakM, gm, encSgn, encAlg]) fun i hi => ?_
  obtain ⟨hin, hall⟩ := hi
  have hw := wrap1 (k := i) (by omega)
  by_cases hil : i < g.ops.length
  rotate_left
  · have hil' : ¬ ((i : Int) < (g.ops.length : Int)) := by omega
    have ht := isOb_true (g := g) (a := a) ⟨hO, fun i' o ho => hall i' o (by have := (List.getElem?_eq_some_iff.1 ho).1; omega) ho⟩
    (repeat (with_reducible refine pwp_seq ?_))
    (refine region_0 (by simp only [List.map_cons, List.map_nil]; exact rfl) (runs_end (by simp only [tt_0, tt_1, tt_2, tt_3, tt_4, tt_5, tt_6, tt_7, pm_0, pm_1, pm_2, pm_3, pm_4, pm_5, pm_6, pm_7, e0P, gs, gm, initS, rb_int, rb_str, rb_sub, rb_dcl, rb_opr, rb_ints, rowsB_nil, rowsB_cons, bqtt, bqtf, bqft, bqff, List.map_cons, List.map_nil, List.getElem?_cons_zero, List.getElem?_cons_succ, List.getElem?_map, Option.map_some, Option.map_none, Option.join_some, Option.getD_some, Option.isNone_none, Option.isNone_some, Option.isSome_none, Option.isSome_some, List.drop_succ_cons, List.drop_zero, List.drop_nil, List.take_succ_cons, List.take_zero, List.length_cons, List.length_nil, List.length_map, List.length_append, List.all_cons, List.all_nil, List.isEmpty_cons, List.isEmpty_nil, List.cons_append, List.nil_append, List.append_nil, Bool.and_self, Bool.or_true, Bool.true_or, Bool.or_false, Bool.false_or, ↓reduceIte, Nat.reduceEqDiff, Nat.reduceAdd, Nat.reduceSub, Nat.reduceMul, Nat.reduceLeDiff, Nat.reduceBEq, Nat.zero_add, Nat.add_zero, and_self, true_and, and_true, Bool.not_true, Bool.not_false, Bool.false_eq_true, decide_true, decide_false, natInt, Int.natCast_nonneg, Int.toNat_zero, Int.toNat_one, Int.reduceLE, Int.reduceToNat, Int.reduceLT, Int.reduceEq, eq_self, Nat.le_refl, encSgn, hil']; exact rfl) (by simp only [trimS, Nat.testBit, Nat.reduceShiftRight, Nat.reduceAnd, Nat.reduceBneDiff, Nat.reduceBEq, bne, Bool.not_true, Bool.not_false, ↓reduceIte, Bool.false_eq_true]; exact rfl) ?_)
     change pwp _ _ _ _ _)
    (repeat (with_reducible refine pwp_seq ?_))
    (refine pwp_cf rfl ?_)
    (refine pwp_exit ?_
     change pwp _ _ _ _ _)
    ((repeat (with_reducible refine pwp_seq ?_))
     (refine region_0 (by simp only [List.map_cons, List.map_nil]; exact rfl) (runs_end (by simp only [tt_0, tt_1, tt_2, tt_3, tt_4, tt_5, tt_6, tt_7, pm_0, pm_1, pm_2, pm_3, pm_4, pm_5, pm_6, pm_7, e0P, gs, gm, initS, rb_int, rb_str, rb_sub, rb_dcl, rb_opr, rb_ints, rowsB_nil, rowsB_cons, bqtt, bqtf, bqft, bqff, List.map_cons, List.map_nil, List.getElem?_cons_zero, List.getElem?_cons_succ, List.getElem?_map, Option.map_some, Option.map_none, Option.join_some, Option.getD_some, Option.isNone_none, Option.isNone_some, Option.isSome_none, Option.isSome_some, List.drop_succ_cons, List.drop_zero, List.drop_nil, List.take_succ_cons, List.take_zero, List.length_cons, List.length_nil, List.length_map, List.length_append, List.all_cons, List.all_nil, List.isEmpty_cons, List.isEmpty_nil, List.cons_append, List.nil_append, List.append_nil, Bool.and_self, Bool.or_true, Bool.true_or, Bool.or_false, Bool.false_or, ↓reduceIte, Nat.reduceEqDiff, Nat.reduceAdd, Nat.reduceSub, Nat.reduceMul, Nat.reduceLeDiff, Nat.reduceBEq, Nat.zero_add, Nat.add_zero, and_self, true_and, and_true, Bool.not_true, Bool.not_false, Bool.false_eq_true, decide_true, decide_false, natInt, Int.natCast_nonneg, Int.toNat_zero, Int.toNat_one, Int.reduceLE, Int.reduceToNat, Int.reduceLT, Int.reduceEq, eq_self, Nat.le_refl, e0P]; exact rfl) (by simp only [trimS, Nat.testBit, Nat.reduceShiftRight, Nat.reduceAnd, Nat.reduceBneDiff, Nat.reduceBEq, bne, Bool.not_true, Bool.not_false, ↓reduceIte, Bool.false_eq_true]; exact rfl) ?_)
      change pwp _ _ _ _ _)
     (refine pwp_ret (ret_ok ?_))
     simp [resOk, resA, resSlots, gs, ht])
  have hil' : ((i : Int) < (g.ops.length : Int)) := by omega
  obtain ⟨o, ho⟩ : ∃ o, g.ops[i]? = some o := ⟨_, List.getElem?_eq_getElem hil⟩
  (repeat (with_reducible refine pwp_seq ?_))
  (refine region_0 (by simp only [List.map_cons, List.map_nil]; exact rfl) (runs_end (by simp only [tt_0, tt_1, tt_2, tt_3, tt_4, tt_5, tt_6, tt_7, pm_0, pm_1, pm_2, pm_3, pm_4, pm_5, pm_6, pm_7, e0P, gs, gm, initS, rb_int, rb_str, rb_sub, rb_dcl, rb_opr, rb_ints, rowsB_nil, rowsB_cons, bqtt, bqtf, bqft, bqff, List.map_cons, List.map_nil, List.getElem?_cons_zero, List.getElem?_cons_succ, List.getElem?_map, Option.map_some, Option.map_none, Option.join_some, Option.getD_some, Option.isNone_none, Option.isNone_some, Option.isSome_none, Option.isSome_some, List.drop_succ_cons, List.drop_zero, List.drop_nil, List.take_succ_cons, List.take_zero, List.length_cons, List.length_nil, List.length_map, List.length_append, List.all_cons, List.all_nil, List.isEmpty_cons, List.isEmpty_nil, List.cons_append, List.nil_append, List.append_nil, Bool.and_self, Bool.or_true, Bool.true_or, Bool.or_false, Bool.false_or, ↓reduceIte, Nat.reduceEqDiff, Nat.reduceAdd, Nat.reduceSub, Nat.reduceMul, Nat.reduceLeDiff, Nat.reduceBEq, Nat.zero_add, Nat.add_zero, and_self, true_and, and_true, Bool.not_true, Bool.not_false, Bool.false_eq_true, decide_true, decide_false, natInt, Int.natCast_nonneg, Int.toNat_zero, Int.toNat_one, Int.reduceLE, Int.reduceToNat, Int.reduceLT, Int.reduceEq, eq_self, Nat.le_refl, encSgn, hil']; exact rfl) (by simp only [trimS, Nat.testBit, Nat.reduceShiftRight, Nat.reduceAnd, Nat.reduceBneDiff, Nat.reduceBEq, bne, Bool.not_true, Bool.not_false, ↓reduceIte, Bool.false_eq_true]; exact rfl) ?_)
   change pwp _ _ _ _ _)
  (repeat (with_reducible refine pwp_seq ?_))
  (refine pwp_ct rfl ?_)
  (refine pwp_skip ?_
   change pwp _ _ _ _ _)
  (repeat (with_reducible refine pwp_seq ?_))
  refine pwp_block ?_
  (repeat (with_reducible refine pwp_seq ?_))
  (refine region_0 (by simp only [List.map_cons, List.map_nil]; exact rfl) ?_)
  (refine runs_go (by simp only [tt_0, tt_1, tt_2, tt_3, tt_4, tt_5, tt_6, tt_7, pm_0, pm_1, pm_2, pm_3, pm_4, pm_5, pm_6, pm_7, e0P, gs, gm, initS, rb_int, rb_str, rb_sub, rb_dcl, rb_opr, rb_ints, rowsB_nil, rowsB_cons, bqtt, bqtf, bqft, bqff, List.map_cons, List.map_nil, List.getElem?_cons_zero, List.getElem?_cons_succ, List.getElem?_map, Option.map_some, Option.map_none, Option.join_some, Option.getD_some, Option.isNone_none, Option.isNone_some, Option.isSome_none, Option.isSome_some, List.drop_succ_cons, List.drop_zero, List.drop_nil, List.take_succ_cons, List.take_zero, List.length_cons, List.length_nil, List.length_map, List.length_append, List.all_cons, List.all_nil, List.isEmpty_cons, List.isEmpty_nil, List.cons_append, List.nil_append, List.append_nil, Bool.and_self, Bool.or_true, Bool.true_or, Bool.or_false, Bool.false_or, ↓reduceIte, Nat.reduceEqDiff, Nat.reduceAdd, Nat.reduceSub, Nat.reduceMul, Nat.reduceLeDiff, Nat.reduceBEq, Nat.zero_add, Nat.add_zero, and_self, true_and, and_true, Bool.not_true, Bool.not_false, Bool.false_eq_true, decide_true, decide_false, natInt, Int.natCast_nonneg, Int.toNat_zero, Int.toNat_one, Int.reduceLE, Int.reduceToNat, Int.reduceLT, Int.reduceEq, eq_self, Nat.le_refl, encAlg, encSgn]; exact rfl) (by simp only [tt_0, tt_1, tt_2, tt_3, tt_4, tt_5, tt_6, tt_7, pm_0, pm_1, pm_2, pm_3, pm_4, pm_5, pm_6, pm_7, e0P, gs, gm, initS, rb_int, rb_str, rb_sub, rb_dcl, rb_opr, rb_ints, rowsB_nil, rowsB_cons, bqtt, bqtf, bqft, bqff, List.map_cons, List.map_nil, List.getElem?_cons_zero, List.getElem?_cons_succ, List.getElem?_map, Option.map_some, Option.map_none, Option.join_some, Option.getD_some, Option.isNone_none, Option.isNone_some, Option.isSome_none, Option.isSome_some, List.drop_succ_cons, List.drop_zero, List.drop_nil, List.take_succ_cons, List.take_zero, List.length_cons, List.length_nil, List.length_map, List.length_append, List.all_cons, List.all_nil, List.isEmpty_cons, List.isEmpty_nil, List.cons_append, List.nil_append, List.append_nil, Bool.and_self, Bool.or_true, Bool.true_or, Bool.or_false, Bool.false_or, ↓reduceIte, Nat.reduceEqDiff, Nat.reduceAdd, Nat.reduceSub, Nat.reduceMul, Nat.reduceLeDiff, Nat.reduceBEq, Nat.zero_add, Nat.add_zero, and_self, true_and, and_true, Bool.not_true, Bool.not_false, Bool.false_eq_true, decide_true, decide_false, natInt, Int.natCast_nonneg, Int.toNat_zero, Int.toNat_one, Int.reduceLE, Int.reduceToNat, Int.reduceLT, Int.reduceEq, eq_self, Nat.le_refl, encAlg, encSgn]; exact rfl) (cs i o ho (hO.atOp ho)) (by simp only [setA, retA]; exact rfl) ?_)
  by_cases h1 : isOp a i o = true
  · have hi1 : i + 1 ≤ g.ops.length ∧ ∀ (i' : Nat) (o : Opr), i' < i + 1 → g.ops[i']? = some o → OpOk a i' o := ⟨by omega, fun i' o' h ho' => by
      by_cases e : i' = i
      · subst e; rw [ho] at ho'; injection ho' with ho'; subst ho'; simpa [isOp] using h1
      · exact hall i' o' (by omega) ho'⟩
    (refine runs_end (by simp only [tt_0, tt_1, tt_2, tt_3, tt_4, tt_5, tt_6, tt_7, pm_0, pm_1, pm_2, pm_3, pm_4, pm_5, pm_6, pm_7, e0P, gs, gm, initS, rb_int, rb_str, rb_sub, rb_dcl, rb_opr, rb_ints, rowsB_nil, rowsB_cons, bqtt, bqtf, bqft, bqff, List.map_cons, List.map_nil, List.getElem?_cons_zero, List.getElem?_cons_succ, List.getElem?_map, Option.map_some, Option.map_none, Option.join_some, Option.getD_some, Option.isNone_none, Option.isNone_some, Option.isSome_none, Option.isSome_some, List.drop_succ_cons, List.drop_zero, List.drop_nil, List.take_succ_cons, List.take_zero, List.length_cons, List.length_nil, List.length_map, List.length_append, List.all_cons, List.all_nil, List.isEmpty_cons, List.isEmpty_nil, List.cons_append, List.nil_append, List.append_nil, Bool.and_self, Bool.or_true, Bool.true_or, Bool.or_false, Bool.false_or, ↓reduceIte, Nat.reduceEqDiff, Nat.reduceAdd, Nat.reduceSub, Nat.reduceMul, Nat.reduceLeDiff, Nat.reduceBEq, Nat.zero_add, Nat.add_zero, and_self, true_and, and_true, Bool.not_true, Bool.not_false, Bool.false_eq_true, decide_true, decide_false, natInt, Int.natCast_nonneg, Int.toNat_zero, Int.toNat_one, Int.reduceLE, Int.reduceToNat, Int.reduceLT, Int.reduceEq, eq_self, Nat.le_refl, h1]; exact rfl) (by simp only [trimS, Nat.testBit, Nat.reduceShiftRight, Nat.reduceAnd, Nat.reduceBneDiff, Nat.reduceBEq, bne, Bool.not_true, Bool.not_false, ↓reduceIte, Bool.false_eq_true]; exact rfl) ?_
     change pwp _ _ _ _ _)
    (refine pwp_cf rfl ?_)
    (refine pwp_skip ?_
     change pwp _ _ _ _ _)
    (refine region_0 (by simp only [List.map_cons, List.map_nil]; exact rfl) (runs_end (by simp only [tt_0, tt_1, tt_2, tt_3, tt_4, tt_5, tt_6, tt_7, pm_0, pm_1, pm_2, pm_3, pm_4, pm_5, pm_6, pm_7, e0P, gs, gm, initS, rb_int, rb_str, rb_sub, rb_dcl, rb_opr, rb_ints, rowsB_nil, rowsB_cons, bqtt, bqtf, bqft, bqff, List.map_cons, List.map_nil, List.getElem?_cons_zero, List.getElem?_cons_succ, List.getElem?_map, Option.map_some, Option.map_none, Option.join_some, Option.getD_some, Option.isNone_none, Option.isNone_some, Option.isSome_none, Option.isSome_some, List.drop_succ_cons, List.drop_zero, List.drop_nil, List.take_succ_cons, List.take_zero, List.length_cons, List.length_nil, List.length_map, List.length_append, List.all_cons, List.all_nil, List.isEmpty_cons, List.isEmpty_nil, List.cons_append, List.nil_append, List.append_nil, Bool.and_self, Bool.or_true, Bool.true_or, Bool.or_false, Bool.false_or, ↓reduceIte, Nat.reduceEqDiff, Nat.reduceAdd, Nat.reduceSub, Nat.reduceMul, Nat.reduceLeDiff, Nat.reduceBEq, Nat.zero_add, Nat.add_zero, and_self, true_and, and_true, Bool.not_true, Bool.not_false, Bool.false_eq_true, decide_true, decide_false, natInt, Int.natCast_nonneg, Int.toNat_zero, Int.toNat_one, Int.reduceLE, Int.reduceToNat, Int.reduceLT, Int.reduceEq, eq_self, Nat.le_refl, hw]; exact rfl) (by simp only [trimS, Nat.testBit, Nat.reduceShiftRight, Nat.reduceAnd, Nat.reduceBneDiff, Nat.reduceBEq, bne, Bool.not_true, Bool.not_false, ↓reduceIte, Bool.false_eq_true]; exact rfl) ?_)
     exact ⟨i + 1, hi1, by simp [weakS, gs, encSgn, encAlg], by simp [weakM, gm, encSgn, encAlg], by omega⟩)
  · have h1' : isOp a i o = false := by simpa using h1
    have hf := isOb_false (fun h : ObOk g a => h1 (isOp_true (h.all i o ho)))
    (refine runs_end (by simp only [tt_0, tt_1, tt_2, tt_3, tt_4, tt_5, tt_6, tt_7, pm_0, pm_1, pm_2, pm_3, pm_4, pm_5, pm_6, pm_7, e0P, gs, gm, initS, rb_int, rb_str, rb_sub, rb_dcl, rb_opr, rb_ints, rowsB_nil, rowsB_cons, bqtt, bqtf, bqft, bqff, List.map_cons, List.map_nil, List.getElem?_cons_zero, List.getElem?_cons_succ, List.getElem?_map, Option.map_some, Option.map_none, Option.join_some, Option.getD_some, Option.isNone_none, Option.isNone_some, Option.isSome_none, Option.isSome_some, List.drop_succ_cons, List.drop_zero, List.drop_nil, List.take_succ_cons, List.take_zero, List.length_cons, List.length_nil, List.length_map, List.length_append, List.all_cons, List.all_nil, List.isEmpty_cons, List.isEmpty_nil, List.cons_append, List.nil_append, List.append_nil, Bool.and_self, Bool.or_true, Bool.true_or, Bool.or_false, Bool.false_or, ↓reduceIte, Nat.reduceEqDiff, Nat.reduceAdd, Nat.reduceSub, Nat.reduceMul, Nat.reduceLeDiff, Nat.reduceBEq, Nat.zero_add, Nat.add_zero, and_self, true_and, and_true, Bool.not_true, Bool.not_false, Bool.false_eq_true, decide_true, decide_false, natInt, Int.natCast_nonneg, Int.toNat_zero, Int.toNat_one, Int.reduceLE, Int.reduceToNat, Int.reduceLT, Int.reduceEq, eq_self, Nat.le_refl, h1']; exact rfl) (by simp only [trimS, Nat.testBit, Nat.reduceShiftRight, Nat.reduceAnd, Nat.reduceBneDiff, Nat.reduceBEq, bne, Bool.not_true, Bool.not_false, ↓reduceIte, Bool.false_eq_true]; exact rfl) ?_
     change pwp _ _ _ _ _)
    (refine pwp_ct rfl ?_)
    ((repeat (with_reducible refine pwp_seq ?_))
     (refine region_0 (by simp only [List.map_cons, List.map_nil]; exact rfl) (runs_end (by simp only [tt_0, tt_1, tt_2, tt_3, tt_4, tt_5, tt_6, tt_7, pm_0, pm_1, pm_2, pm_3, pm_4, pm_5, pm_6, pm_7, e0P, gs, gm, initS, rb_int, rb_str, rb_sub, rb_dcl, rb_opr, rb_ints, rowsB_nil, rowsB_cons, bqtt, bqtf, bqft, bqff, List.map_cons, List.map_nil, List.getElem?_cons_zero, List.getElem?_cons_succ, List.getElem?_map, Option.map_some, Option.map_none, Option.join_some, Option.getD_some, Option.isNone_none, Option.isNone_some, Option.isSome_none, Option.isSome_some, List.drop_succ_cons, List.drop_zero, List.drop_nil, List.take_succ_cons, List.take_zero, List.length_cons, List.length_nil, List.length_map, List.length_append, List.all_cons, List.all_nil, List.isEmpty_cons, List.isEmpty_nil, List.cons_append, List.nil_append, List.append_nil, Bool.and_self, Bool.or_true, Bool.true_or, Bool.or_false, Bool.false_or, ↓reduceIte, Nat.reduceEqDiff, Nat.reduceAdd, Nat.reduceSub, Nat.reduceMul, Nat.reduceLeDiff, Nat.reduceBEq, Nat.zero_add, Nat.add_zero, and_self, true_and, and_true, Bool.not_true, Bool.not_false, Bool.false_eq_true, decide_true, decide_false, natInt, Int.natCast_nonneg, Int.toNat_zero, Int.toNat_one, Int.reduceLE, Int.reduceToNat, Int.reduceLT, Int.reduceEq, eq_self, Nat.le_refl, e0P]; exact rfl) (by simp only [trimS, Nat.testBit, Nat.reduceShiftRight, Nat.reduceAnd, Nat.reduceBneDiff, Nat.reduceBEq, bne, Bool.not_true, Bool.not_false, ↓reduceIte, Bool.false_eq_true]; exact rfl) ?_)
      change pwp _ _ _ _ _)
     (refine pwp_ret (ret_ok ?_))
     simp [resOk, resA, resSlots, gs, hf])
end Go.Proofs.Ytmpcbijkbgmjkaa

namespace Go.Proofs.Ytmpcbijkbgmjkaa
open Go.RowKit

set_option maxHeartbeats 4000000 in
set_option maxRecDepth 100000 in
theorem con_implTwo {a : Alg} {i : Nat} {x y : Int} (ht : Tab2 a i) (hx : Inz a x) (hy : Inz a y) : Con e0 51 [.one (.lit (.int .i64 x)), .one (.lit (.int .i64 y)), .one (.ptr (encAlg a)), .one (.ptr [.lit (.int .i64 i)])] [.one (.lit (.int .i64 (tw2 a i x y)))] := by
  obtain ⟨l, h, hw, hw2, h0, hv, _⟩ := ht.get hx hy
  refine con_of_pwp e0_ok 79 Try.func51 rfl (by kernel_rfl) (by kernel_rfl) rfl rfl ?_
  (repeat (with_reducible refine pwp_seq ?_))
  (refine region_0 (by simp only [List.map_cons, List.map_nil]; exact rfl) (runs_end (by simp only [tt_0, tt_1, tt_2, tt_3, tt_4, tt_5, tt_6, tt_7, pm_0, pm_1, pm_2, pm_3, pm_4, pm_5, pm_6, pm_7, e0P, gs, gm, initS, rb_int, rb_str, rb_sub, rb_dcl, rb_opr, rb_ints, rowsB_nil, rowsB_cons, bqtt, bqtf, bqft, bqff, List.map_cons, List.map_nil, List.getElem?_cons_zero, List.getElem?_cons_succ, List.getElem?_map, Option.map_some, Option.map_none, Option.join_some, Option.getD_some, Option.isNone_none, Option.isNone_some, Option.isSome_none, Option.isSome_some, List.drop_succ_cons, List.drop_zero, List.drop_nil, List.take_succ_cons, List.take_zero, List.length_cons, List.length_nil, List.length_map, List.length_append, List.all_cons, List.all_nil, List.isEmpty_cons, List.isEmpty_nil, List.cons_append, List.nil_append, List.append_nil, Bool.and_self, Bool.or_true, Bool.true_or, Bool.or_false, Bool.false_or, ↓reduceIte, Nat.reduceEqDiff, Nat.reduceAdd, Nat.reduceSub, Nat.reduceMul, Nat.reduceLeDiff, Nat.reduceBEq, Nat.zero_add, Nat.add_zero, and_self, true_and, and_true, Bool.not_true, Bool.not_false, Bool.false_eq_true, decide_true, decide_false, natInt, Int.natCast_nonneg, Int.toNat_zero, Int.toNat_one, Int.reduceLE, Int.reduceToNat, Int.reduceLT, Int.reduceEq, eq_self, Nat.le_refl, encAlg]; exact rfl) (by simp only [trimS, Nat.testBit, Nat.reduceShiftRight, Nat.reduceAnd, Nat.reduceBneDiff, Nat.reduceBEq, bne, Bool.not_true, Bool.not_false, ↓reduceIte, Bool.false_eq_true]; exact rfl) ?_)
   change pwp _ _ _ _ _)
  (repeat (with_reducible refine pwp_seq ?_))
  (refine region_D 13 (by kernel_rfl) (by simp only [List.map_cons, List.map_nil]; exact rfl) (runs_end (by simp only [tt_0, tt_1, tt_2, tt_3, tt_4, tt_5, tt_6, tt_7, pm_0, pm_1, pm_2, pm_3, pm_4, pm_5, pm_6, pm_7, e0P, gs, gm, initS, rb_int, rb_str, rb_sub, rb_dcl, rb_opr, rb_ints, rowsB_nil, rowsB_cons, bqtt, bqtf, bqft, bqff, List.map_cons, List.map_nil, List.getElem?_cons_zero, List.getElem?_cons_succ, List.getElem?_map, Option.map_some, Option.map_none, Option.join_some, Option.getD_some, Option.isNone_none, Option.isNone_some, Option.isSome_none, Option.isSome_some, List.drop_succ_cons, List.drop_zero, List.drop_nil, List.take_succ_cons, List.take_zero, List.length_cons, List.length_nil, List.length_map, List.length_append, List.all_cons, List.all_nil, List.isEmpty_cons, List.isEmpty_nil, List.cons_append, List.nil_append, List.append_nil, Bool.and_self, Bool.or_true, Bool.true_or, Bool.or_false, Bool.false_or, ↓reduceIte, Nat.reduceEqDiff, Nat.reduceAdd, Nat.reduceSub, Nat.reduceMul, Nat.reduceLeDiff, Nat.reduceBEq, Nat.zero_add, Nat.add_zero, and_self, true_and, and_true, Bool.not_true, Bool.not_false, Bool.false_eq_true, decide_true, decide_false, natInt, Int.natCast_nonneg, Int.toNat_zero, Int.toNat_one, Int.reduceLE, Int.reduceToNat, Int.reduceLT, Int.reduceEq, eq_self, Nat.le_refl, encAlg, encInts, encInt, h, hw, hw2, h0, hv]; exact rfl) (by simp only [trimS, Nat.testBit, Nat.reduceShiftRight, Nat.reduceAnd, Nat.reduceBneDiff, Nat.reduceBEq, bne, Bool.not_true, Bool.not_false, ↓reduceIte, Bool.false_eq_true]; exact rfl) ?_)
   change pwp _ _ _ _ _)
  (refine pwp_ret (ret_ok ?_))
  simp [resOk, resA, resSlots, gs]
set_option maxHeartbeats 40000000 in
set_option maxRecDepth 100000 in
theorem con_implOb {g : Sgn} {a : Alg} (hal : Con e0 50 [.agg (encSgn g), .agg (encAlg a)] [.one (.lit (.bool (isAlg g a)))]) : Con e0 22 [.agg (encSgn g), .agg (encAlg a)] [.one (.lit (.bool (isOb g a)))] := by
  refine con_of_pwp e0_ok 158456598926829516744826982399 Try.func22 rfl (by kernel_rfl) (by kernel_rfl) rfl rfl ?_
  rw [encSgn, encAlg] at hal
  (repeat (with_reducible refine pwp_seq ?_))
  (refine region_0 (by simp only [List.map_cons, List.map_nil]; exact rfl) (runs_end (by simp only [tt_0, tt_1, tt_2, tt_3, tt_4, tt_5, tt_6, tt_7, pm_0, pm_1, pm_2, pm_3, pm_4, pm_5, pm_6, pm_7, e0P, gs, gm, initS, rb_int, rb_str, rb_sub, rb_dcl, rb_opr, rb_ints, rowsB_nil, rowsB_cons, bqtt, bqtf, bqft, bqff, List.map_cons, List.map_nil, List.getElem?_cons_zero, List.getElem?_cons_succ, List.getElem?_map, Option.map_some, Option.map_none, Option.join_some, Option.getD_some, Option.isNone_none, Option.isNone_some, Option.isSome_none, Option.isSome_some, List.drop_succ_cons, List.drop_zero, List.drop_nil, List.take_succ_cons, List.take_zero, List.length_cons, List.length_nil, List.length_map, List.length_append, List.all_cons, List.all_nil, List.isEmpty_cons, List.isEmpty_nil, List.cons_append, List.nil_append, List.append_nil, Bool.and_self, Bool.or_true, Bool.true_or, Bool.or_false, Bool.false_or, ↓reduceIte, Nat.reduceEqDiff, Nat.reduceAdd, Nat.reduceSub, Nat.reduceMul, Nat.reduceLeDiff, Nat.reduceBEq, Nat.zero_add, Nat.add_zero, and_self, true_and, and_true, Bool.not_true, Bool.not_false, Bool.false_eq_true, decide_true, decide_false, natInt, Int.natCast_nonneg, Int.toNat_zero, Int.toNat_one, Int.reduceLE, Int.reduceToNat, Int.reduceLT, Int.reduceEq, eq_self, Nat.le_refl, encSgn, encAlg]; exact rfl) (by simp only [trimS, Nat.testBit, Nat.reduceShiftRight, Nat.reduceAnd, Nat.reduceBneDiff, Nat.reduceBEq, bne, Bool.not_true, Bool.not_false, ↓reduceIte, Bool.false_eq_true]; exact rfl) ?_)
   change pwp _ _ _ _ _)
  (repeat (with_reducible refine pwp_seq ?_))
  (refine region_0 (by simp only [List.map_cons, List.map_nil]; exact rfl) ?_)
  (refine runs_go (by simp only [tt_0, tt_1, tt_2, tt_3, tt_4, tt_5, tt_6, tt_7, pm_0, pm_1, pm_2, pm_3, pm_4, pm_5, pm_6, pm_7, e0P, gs, gm, initS, rb_int, rb_str, rb_sub, rb_dcl, rb_opr, rb_ints, rowsB_nil, rowsB_cons, bqtt, bqtf, bqft, bqff, List.map_cons, List.map_nil, List.getElem?_cons_zero, List.getElem?_cons_succ, List.getElem?_map, Option.map_some, Option.map_none, Option.join_some, Option.getD_some, Option.isNone_none, Option.isNone_some, Option.isSome_none, Option.isSome_some, List.drop_succ_cons, List.drop_zero, List.drop_nil, List.take_succ_cons, List.take_zero, List.length_cons, List.length_nil, List.length_map, List.length_append, List.all_cons, List.all_nil, List.isEmpty_cons, List.isEmpty_nil, List.cons_append, List.nil_append, List.append_nil, Bool.and_self, Bool.or_true, Bool.true_or, Bool.or_false, Bool.false_or, ↓reduceIte, Nat.reduceEqDiff, Nat.reduceAdd, Nat.reduceSub, Nat.reduceMul, Nat.reduceLeDiff, Nat.reduceBEq, Nat.zero_add, Nat.add_zero, and_self, true_and, and_true, Bool.not_true, Bool.not_false, Bool.false_eq_true, decide_true, decide_false, natInt, Int.natCast_nonneg, Int.toNat_zero, Int.toNat_one, Int.reduceLE, Int.reduceToNat, Int.reduceLT, Int.reduceEq, eq_self, Nat.le_refl, e0P]; exact rfl) (by simp only [tt_0, tt_1, tt_2, tt_3, tt_4, tt_5, tt_6, tt_7, pm_0, pm_1, pm_2, pm_3, pm_4, pm_5, pm_6, pm_7, e0P, gs, gm, initS, rb_int, rb_str, rb_sub, rb_dcl, rb_opr, rb_ints, rowsB_nil, rowsB_cons, bqtt, bqtf, bqft, bqff, List.map_cons, List.map_nil, List.getElem?_cons_zero, List.getElem?_cons_succ, List.getElem?_map, Option.map_some, Option.map_none, Option.join_some, Option.getD_some, Option.isNone_none, Option.isNone_some, Option.isSome_none, Option.isSome_some, List.drop_succ_cons, List.drop_zero, List.drop_nil, List.take_succ_cons, List.take_zero, List.length_cons, List.length_nil, List.length_map, List.length_append, List.all_cons, List.all_nil, List.isEmpty_cons, List.isEmpty_nil, List.cons_append, List.nil_append, List.append_nil, Bool.and_self, Bool.or_true, Bool.true_or, Bool.or_false, Bool.false_or, ↓reduceIte, Nat.reduceEqDiff, Nat.reduceAdd, Nat.reduceSub, Nat.reduceMul, Nat.reduceLeDiff, Nat.reduceBEq, Nat.zero_add, Nat.add_zero, and_self, true_and, and_true, Bool.not_true, Bool.not_false, Bool.false_eq_true, decide_true, decide_false, natInt, Int.natCast_nonneg, Int.toNat_zero, Int.toNat_one, Int.reduceLE, Int.reduceToNat, Int.reduceLT, Int.reduceEq, eq_self, Nat.le_refl, e0P]; exact rfl) (hal) (by simp only [setA, retA]; exact rfl) ?_)
  by_cases hA : isAlg g a = true
  rotate_left
  · have hA' : isAlg g a = false := by simpa using hA
    have hf := isOb_false (fun h : ObOk g a => hA (isAlg_true h.alg))
    (refine runs_end (by simp only [tt_0, tt_1, tt_2, tt_3, tt_4, tt_5, tt_6, tt_7, pm_0, pm_1, pm_2, pm_3, pm_4, pm_5, pm_6, pm_7, e0P, gs, gm, initS, rb_int, rb_str, rb_sub, rb_dcl, rb_opr, rb_ints, rowsB_nil, rowsB_cons, bqtt, bqtf, bqft, bqff, List.map_cons, List.map_nil, List.getElem?_cons_zero, List.getElem?_cons_succ, List.getElem?_map, Option.map_some, Option.map_none, Option.join_some, Option.getD_some, Option.isNone_none, Option.isNone_some, Option.isSome_none, Option.isSome_some, List.drop_succ_cons, List.drop_zero, List.drop_nil, List.take_succ_cons, List.take_zero, List.length_cons, List.length_nil, List.length_map, List.length_append, List.all_cons, List.all_nil, List.isEmpty_cons, List.isEmpty_nil, List.cons_append, List.nil_append, List.append_nil, Bool.and_self, Bool.or_true, Bool.true_or, Bool.or_false, Bool.false_or, ↓reduceIte, Nat.reduceEqDiff, Nat.reduceAdd, Nat.reduceSub, Nat.reduceMul, Nat.reduceLeDiff, Nat.reduceBEq, Nat.zero_add, Nat.add_zero, and_self, true_and, and_true, Bool.not_true, Bool.not_false, Bool.false_eq_true, decide_true, decide_false, natInt, Int.natCast_nonneg, Int.toNat_zero, Int.toNat_one, Int.reduceLE, Int.reduceToNat, Int.reduceLT, Int.reduceEq, eq_self, Nat.le_refl, hA']; exact rfl) (by simp only [trimS, Nat.testBit, Nat.reduceShiftRight, Nat.reduceAnd, Nat.reduceBneDiff, Nat.reduceBEq, bne, Bool.not_true, Bool.not_false, ↓reduceIte, Bool.false_eq_true]; exact rfl) ?_
     change pwp _ _ _ _ _)
    (refine pwp_ct rfl ?_)
    ((repeat (with_reducible refine pwp_seq ?_))
     (refine region_0 (by simp only [List.map_cons, List.map_nil]; exact rfl) (runs_end (by simp only [tt_0, tt_1, tt_2, tt_3, tt_4, tt_5, tt_6, tt_7, pm_0, pm_1, pm_2, pm_3, pm_4, pm_5, pm_6, pm_7, e0P, gs, gm, initS, rb_int, rb_str, rb_sub, rb_dcl, rb_opr, rb_ints, rowsB_nil, rowsB_cons, bqtt, bqtf, bqft, bqff, List.map_cons, List.map_nil, List.getElem?_cons_zero, List.getElem?_cons_succ, List.getElem?_map, Option.map_some, Option.map_none, Option.join_some, Option.getD_some, Option.isNone_none, Option.isNone_some, Option.isSome_none, Option.isSome_some, List.drop_succ_cons, List.drop_zero, List.drop_nil, List.take_succ_cons, List.take_zero, List.length_cons, List.length_nil, List.length_map, List.length_append, List.all_cons, List.all_nil, List.isEmpty_cons, List.isEmpty_nil, List.cons_append, List.nil_append, List.append_nil, Bool.and_self, Bool.or_true, Bool.true_or, Bool.or_false, Bool.false_or, ↓reduceIte, Nat.reduceEqDiff, Nat.reduceAdd, Nat.reduceSub, Nat.reduceMul, Nat.reduceLeDiff, Nat.reduceBEq, Nat.zero_add, Nat.add_zero, and_self, true_and, and_true, Bool.not_true, Bool.not_false, Bool.false_eq_true, decide_true, decide_false, natInt, Int.natCast_nonneg, Int.toNat_zero, Int.toNat_one, Int.reduceLE, Int.reduceToNat, Int.reduceLT, Int.reduceEq, eq_self, Nat.le_refl, e0P]; exact rfl) (by simp only [trimS, Nat.testBit, Nat.reduceShiftRight, Nat.reduceAnd, Nat.reduceBneDiff, Nat.reduceBEq, bne, Bool.not_true, Bool.not_false, ↓reduceIte, Bool.false_eq_true]; exact rfl) ?_)
      change pwp _ _ _ _ _)
     (refine pwp_ret (ret_ok ?_))
     simp [resOk, resA, resSlots, gs, hf])
  have hO := isAlg_iff.1 hA
  have hl14 := hO.sgn.len
  obtain ⟨n, hn, hn1, hn4⟩ := szN hO.lo hO.hi
  have inz : ∀ {x : Nat}, x < n → Inz a x := fun hx => ⟨by omega, by omega⟩
  have zin : ∀ {x : Int}, Inz a x → ∃ k : Nat, x = (k : Int) ∧ k < n := fun hx => ⟨_, (Int.toNat_of_nonneg hx.1).symm, by have := hx.2; omega⟩
  (refine runs_end (by simp only [tt_0, tt_1, tt_2, tt_3, tt_4, tt_5, tt_6, tt_7, pm_0, pm_1, pm_2, pm_3, pm_4, pm_5, pm_6, pm_7, e0P, gs, gm, initS, rb_int, rb_str, rb_sub, rb_dcl, rb_opr, rb_ints, rowsB_nil, rowsB_cons, bqtt, bqtf, bqft, bqff, List.map_cons, List.map_nil, List.getElem?_cons_zero, List.getElem?_cons_succ, List.getElem?_map, Option.map_some, Option.map_none, Option.join_some, Option.getD_some, Option.isNone_none, Option.isNone_some, Option.isSome_none, Option.isSome_some, List.drop_succ_cons, List.drop_zero, List.drop_nil, List.take_succ_cons, List.take_zero, List.length_cons, List.length_nil, List.length_map, List.length_append, List.all_cons, List.all_nil, List.isEmpty_cons, List.isEmpty_nil, List.cons_append, List.nil_append, List.append_nil, Bool.and_self, Bool.or_true, Bool.true_or, Bool.or_false, Bool.false_or, ↓reduceIte, Nat.reduceEqDiff, Nat.reduceAdd, Nat.reduceSub, Nat.reduceMul, Nat.reduceLeDiff, Nat.reduceBEq, Nat.zero_add, Nat.add_zero, and_self, true_and, and_true, Bool.not_true, Bool.not_false, Bool.false_eq_true, decide_true, decide_false, natInt, Int.natCast_nonneg, Int.toNat_zero, Int.toNat_one, Int.reduceLE, Int.reduceToNat, Int.reduceLT, Int.reduceEq, eq_self, Nat.le_refl, hA]; exact rfl) (by simp only [trimS, Nat.testBit, Nat.reduceShiftRight, Nat.reduceAnd, Nat.reduceBneDiff, Nat.reduceBEq, bne, Bool.not_true, Bool.not_false, ↓reduceIte, Bool.false_eq_true]; exact rfl) ?_
   change pwp _ _ _ _ _)
  (refine pwp_cf rfl ?_)
  (refine pwp_skip ?_
   change pwp _ _ _ _ _)
  (repeat (with_reducible refine pwp_seq ?_))
  (refine region_F [3] (by simp only [tt_0, tt_1, tt_2, tt_3, tt_4, tt_5, tt_6, tt_7, pm_0, pm_1, pm_2, pm_3, pm_4, pm_5, pm_6, pm_7, e0P, gs, gm, initS, rb_int, rb_str, rb_sub, rb_dcl, rb_opr, rb_ints, rowsB_nil, rowsB_cons, bqtt, bqtf, bqft, bqff, List.map_cons, List.map_nil, List.getElem?_cons_zero, List.getElem?_cons_succ, List.getElem?_map, Option.map_some, Option.map_none, Option.join_some, Option.getD_some, Option.isNone_none, Option.isNone_some, Option.isSome_none, Option.isSome_some, List.drop_succ_cons, List.drop_zero, List.drop_nil, List.take_succ_cons, List.take_zero, List.length_cons, List.length_nil, List.length_map, List.length_append, List.all_cons, List.all_nil, List.isEmpty_cons, List.isEmpty_nil, List.cons_append, List.nil_append, List.append_nil, Bool.and_self, Bool.or_true, Bool.true_or, Bool.or_false, Bool.false_or, ↓reduceIte, Nat.reduceEqDiff, Nat.reduceAdd, Nat.reduceSub, Nat.reduceMul, Nat.reduceLeDiff, Nat.reduceBEq, Nat.zero_add, Nat.add_zero, and_self, true_and, and_true, Bool.not_true, Bool.not_false, Bool.false_eq_true, decide_true, decide_false, natInt, Int.natCast_nonneg, Int.toNat_zero, Int.toNat_one, Int.reduceLE, Int.reduceToNat, Int.reduceLT, Int.reduceEq, eq_self, Nat.le_refl]; exact rfl) (by simp only [List.map_cons, List.map_nil]; exact rfl) (runs_end (by simp only [tt_0, tt_1, tt_2, tt_3, tt_4, tt_5, tt_6, tt_7, pm_0, pm_1, pm_2, pm_3, pm_4, pm_5, pm_6, pm_7, e0P, gs, gm, initS, rb_int, rb_str, rb_sub, rb_dcl, rb_opr, rb_ints, rowsB_nil, rowsB_cons, bqtt, bqtf, bqft, bqff, List.map_cons, List.map_nil, List.getElem?_cons_zero, List.getElem?_cons_succ, List.getElem?_map, Option.map_some, Option.map_none, Option.join_some, Option.getD_some, Option.isNone_none, Option.isNone_some, Option.isSome_none, Option.isSome_some, List.drop_succ_cons, List.drop_zero, List.drop_nil, List.take_succ_cons, List.take_zero, List.length_cons, List.length_nil, List.length_map, List.length_append, List.all_cons, List.all_nil, List.isEmpty_cons, List.isEmpty_nil, List.cons_append, List.nil_append, List.append_nil, Bool.and_self, Bool.or_true, Bool.true_or, Bool.or_false, Bool.false_or, ↓reduceIte, Nat.reduceEqDiff, Nat.reduceAdd, Nat.reduceSub, Nat.reduceMul, Nat.reduceLeDiff, Nat.reduceBEq, Nat.zero_add, Nat.add_zero, and_self, true_and, and_true, Bool.not_true, Bool.not_false, Bool.false_eq_true, decide_true, decide_false, natInt, Int.natCast_nonneg, Int.toNat_zero, Int.toNat_one, Int.reduceLE, Int.reduceToNat, Int.reduceLT, Int.reduceEq, eq_self, Nat.le_refl, encSgn]; exact rfl) (by simp only [trimS, Nat.testBit, Nat.reduceShiftRight, Nat.reduceAnd, Nat.reduceBneDiff, Nat.reduceBEq, bne, Bool.not_true, Bool.not_false, ↓reduceIte, Bool.false_eq_true]; exact rfl) ?_)
   change pwp _ _ _ _ _)
  refine pwp_block ?_
  refine pwp_loop (ι := Nat) (fun i => ⟨[(19, A.d (.one (.lit (.int .i64 i)))), (18, A.d (.one (.lit (.int .i64 g.ops.length)))), (17, A.d (.one (.sl (g.ops.map encOpr)))), (3, A.d (.one (.ptr (encAlg a))))], []⟩)
    (fun i => i ≤ g.ops.length ∧ ∀ (i' : Nat) (o : Opr), i' < i → g.ops[i']? = some o → OpOk a i' o) (fun i => g.ops.length - i) 0 ⟨by omega, fun i' o h => absurd h (by omega)⟩ (by simp [weakS, gs, encAlg]) (by simp [weakM, gm, e0P]) fun i hi => ?_
  obtain ⟨hin, hall⟩ := hi
  have hw := wrap1 (k := i) (by omega)
  by_cases hil : i < g.ops.length
  rotate_left
  · have hil' : ¬ ((i : Int) < (g.ops.length : Int)) := by omega
    have ht := isOb_true (g := g) (a := a) ⟨hO, fun i' o ho => hall i' o (by have := (List.getElem?_eq_some_iff.1 ho).1; omega) ho⟩
    (repeat (with_reducible refine pwp_seq ?_))
    (refine region_0 (by simp only [List.map_cons, List.map_nil]; exact rfl) (runs_end (by simp only [tt_0, tt_1, tt_2, tt_3, tt_4, tt_5, tt_6, tt_7, pm_0, pm_1, pm_2, pm_3, pm_4, pm_5, pm_6, pm_7, e0P, gs, gm, initS, rb_int, rb_str, rb_sub, rb_dcl, rb_opr, rb_ints, rowsB_nil, rowsB_cons, bqtt, bqtf, bqft, bqff, List.map_cons, List.map_nil, List.getElem?_cons_zero, List.getElem?_cons_succ, List.getElem?_map, Option.map_some, Option.map_none, Option.join_some, Option.getD_some, Option.isNone_none, Option.isNone_some, Option.isSome_none, Option.isSome_some, List.drop_succ_cons, List.drop_zero, List.drop_nil, List.take_succ_cons, List.take_zero, List.length_cons, List.length_nil, List.length_map, List.length_append, List.all_cons, List.all_nil, List.isEmpty_cons, List.isEmpty_nil, List.cons_append, List.nil_append, List.append_nil, Bool.and_self, Bool.or_true, Bool.true_or, Bool.or_false, Bool.false_or, ↓reduceIte, Nat.reduceEqDiff, Nat.reduceAdd, Nat.reduceSub, Nat.reduceMul, Nat.reduceLeDiff, Nat.reduceBEq, Nat.zero_add, Nat.add_zero, and_self, true_and, and_true, Bool.not_true, Bool.not_false, Bool.false_eq_true, decide_true, decide_false, natInt, Int.natCast_nonneg, Int.toNat_zero, Int.toNat_one, Int.reduceLE, Int.reduceToNat, Int.reduceLT, Int.reduceEq, eq_self, Nat.le_refl, hil']; exact rfl) (by simp only [trimS, Nat.testBit, Nat.reduceShiftRight, Nat.reduceAnd, Nat.reduceBneDiff, Nat.reduceBEq, bne, Bool.not_true, Bool.not_false, ↓reduceIte, Bool.false_eq_true]; exact rfl) ?_)
     change pwp _ _ _ _ _)
    (repeat (with_reducible refine pwp_seq ?_))
    (refine pwp_cf rfl ?_)
    (refine pwp_exit ?_
     change pwp _ _ _ _ _)
    ((repeat (with_reducible refine pwp_seq ?_))
     (refine region_0 (by simp only [List.map_cons, List.map_nil]; exact rfl) (runs_end (by simp only [tt_0, tt_1, tt_2, tt_3, tt_4, tt_5, tt_6, tt_7, pm_0, pm_1, pm_2, pm_3, pm_4, pm_5, pm_6, pm_7, e0P, gs, gm, initS, rb_int, rb_str, rb_sub, rb_dcl, rb_opr, rb_ints, rowsB_nil, rowsB_cons, bqtt, bqtf, bqft, bqff, List.map_cons, List.map_nil, List.getElem?_cons_zero, List.getElem?_cons_succ, List.getElem?_map, Option.map_some, Option.map_none, Option.join_some, Option.getD_some, Option.isNone_none, Option.isNone_some, Option.isSome_none, Option.isSome_some, List.drop_succ_cons, List.drop_zero, List.drop_nil, List.take_succ_cons, List.take_zero, List.length_cons, List.length_nil, List.length_map, List.length_append, List.all_cons, List.all_nil, List.isEmpty_cons, List.isEmpty_nil, List.cons_append, List.nil_append, List.append_nil, Bool.and_self, Bool.or_true, Bool.true_or, Bool.or_false, Bool.false_or, ↓reduceIte, Nat.reduceEqDiff, Nat.reduceAdd, Nat.reduceSub, Nat.reduceMul, Nat.reduceLeDiff, Nat.reduceBEq, Nat.zero_add, Nat.add_zero, and_self, true_and, and_true, Bool.not_true, Bool.not_false, Bool.false_eq_true, decide_true, decide_false, natInt, Int.natCast_nonneg, Int.toNat_zero, Int.toNat_one, Int.reduceLE, Int.reduceToNat, Int.reduceLT, Int.reduceEq, eq_self, Nat.le_refl, e0P]; exact rfl) (by simp only [trimS, Nat.testBit, Nat.reduceShiftRight, Nat.reduceAnd, Nat.reduceBneDiff, Nat.reduceBEq, bne, Bool.not_true, Bool.not_false, ↓reduceIte, Bool.false_eq_true]; exact rfl) ?_)
      change pwp _ _ _ _ _)
     (refine pwp_ret (ret_ok ?_))
     simp [resOk, resA, resSlots, gs, ht])
  have hil' : ((i : Int) < (g.ops.length : Int)) := by omega
  obtain ⟨o, ho⟩ : ∃ o, g.ops[i]? = some o := ⟨_, List.getElem?_eq_getElem hil⟩
  have hAt := hO.atOp ho
  have hno : ¬ OpOk a i o → isOb g a = false := fun h => isOb_false fun hI => h (hI.all i o ho)
  (repeat (with_reducible refine pwp_seq ?_))
  (refine region_0 (by simp only [List.map_cons, List.map_nil]; exact rfl) (runs_end (by simp only [tt_0, tt_1, tt_2, tt_3, tt_4, tt_5, tt_6, tt_7, pm_0, pm_1, pm_2, pm_3, pm_4, pm_5, pm_6, pm_7, e0P, gs, gm, initS, rb_int, rb_str, rb_sub, rb_dcl, rb_opr, rb_ints, rowsB_nil, rowsB_cons, bqtt, bqtf, bqft, bqff, List.map_cons, List.map_nil, List.getElem?_cons_zero, List.getElem?_cons_succ, List.getElem?_map, Option.map_some, Option.map_none, Option.join_some, Option.getD_some, Option.isNone_none, Option.isNone_some, Option.isSome_none, Option.isSome_some, List.drop_succ_cons, List.drop_zero, List.drop_nil, List.take_succ_cons, List.take_zero, List.length_cons, List.length_nil, List.length_map, List.length_append, List.all_cons, List.all_nil, List.isEmpty_cons, List.isEmpty_nil, List.cons_append, List.nil_append, List.append_nil, Bool.and_self, Bool.or_true, Bool.true_or, Bool.or_false, Bool.false_or, ↓reduceIte, Nat.reduceEqDiff, Nat.reduceAdd, Nat.reduceSub, Nat.reduceMul, Nat.reduceLeDiff, Nat.reduceBEq, Nat.zero_add, Nat.add_zero, and_self, true_and, and_true, Bool.not_true, Bool.not_false, Bool.false_eq_true, decide_true, decide_false, natInt, Int.natCast_nonneg, Int.toNat_zero, Int.toNat_one, Int.reduceLE, Int.reduceToNat, Int.reduceLT, Int.reduceEq, eq_self, Nat.le_refl, hil']; exact rfl) (by simp only [trimS, Nat.testBit, Nat.reduceShiftRight, Nat.reduceAnd, Nat.reduceBneDiff, Nat.reduceBEq, bne, Bool.not_true, Bool.not_false, ↓reduceIte, Bool.false_eq_true]; exact rfl) ?_)
   change pwp _ _ _ _ _)
  (repeat (with_reducible refine pwp_seq ?_))
  (refine pwp_ct rfl ?_)
  (refine pwp_skip ?_
   change pwp _ _ _ _ _)
  (repeat (with_reducible refine pwp_seq ?_))
  refine pwp_block ?_
  (repeat (with_reducible refine pwp_seq ?_))
  (refine region_0 (by simp only [List.map_cons, List.map_nil]; exact rfl) (runs_end (by simp only [tt_0, tt_1, tt_2, tt_3, tt_4, tt_5, tt_6, tt_7, pm_0, pm_1, pm_2, pm_3, pm_4, pm_5, pm_6, pm_7, e0P, gs, gm, initS, rb_int, rb_str, rb_sub, rb_dcl, rb_opr, rb_ints, rowsB_nil, rowsB_cons, bqtt, bqtf, bqft, bqff, List.map_cons, List.map_nil, List.getElem?_cons_zero, List.getElem?_cons_succ, List.getElem?_map, Option.map_some, Option.map_none, Option.join_some, Option.getD_some, Option.isNone_none, Option.isNone_some, Option.isSome_none, Option.isSome_some, List.drop_succ_cons, List.drop_zero, List.drop_nil, List.take_succ_cons, List.take_zero, List.length_cons, List.length_nil, List.length_map, List.length_append, List.all_cons, List.all_nil, List.isEmpty_cons, List.isEmpty_nil, List.cons_append, List.nil_append, List.append_nil, Bool.and_self, Bool.or_true, Bool.true_or, Bool.or_false, Bool.false_or, ↓reduceIte, Nat.reduceEqDiff, Nat.reduceAdd, Nat.reduceSub, Nat.reduceMul, Nat.reduceLeDiff, Nat.reduceBEq, Nat.zero_add, Nat.add_zero, and_self, true_and, and_true, Bool.not_true, Bool.not_false, Bool.false_eq_true, decide_true, decide_false, natInt, Int.natCast_nonneg, Int.toNat_zero, Int.toNat_one, Int.reduceLE, Int.reduceToNat, Int.reduceLT, Int.reduceEq, eq_self, Nat.le_refl, ho, encOpr]; exact rfl) (by simp only [trimS, Nat.testBit, Nat.reduceShiftRight, Nat.reduceAnd, Nat.reduceBneDiff, Nat.reduceBEq, bne, Bool.not_true, Bool.not_false, ↓reduceIte, Bool.false_eq_true]; exact rfl) ?_)
   change pwp _ _ _ _ _)
  (repeat (with_reducible refine pwp_seq ?_))
  (refine region_0 (by simp only [List.map_cons, List.map_nil]; exact rfl) (runs_end (by simp only [tt_0, tt_1, tt_2, tt_3, tt_4, tt_5, tt_6, tt_7, pm_0, pm_1, pm_2, pm_3, pm_4, pm_5, pm_6, pm_7, e0P, gs, gm, initS, rb_int, rb_str, rb_sub, rb_dcl, rb_opr, rb_ints, rowsB_nil, rowsB_cons, bqtt, bqtf, bqft, bqff, List.map_cons, List.map_nil, List.getElem?_cons_zero, List.getElem?_cons_succ, List.getElem?_map, Option.map_some, Option.map_none, Option.join_some, Option.getD_some, Option.isNone_none, Option.isNone_some, Option.isSome_none, Option.isSome_some, List.drop_succ_cons, List.drop_zero, List.drop_nil, List.take_succ_cons, List.take_zero, List.length_cons, List.length_nil, List.length_map, List.length_append, List.all_cons, List.all_nil, List.isEmpty_cons, List.isEmpty_nil, List.cons_append, List.nil_append, List.append_nil, Bool.and_self, Bool.or_true, Bool.true_or, Bool.or_false, Bool.false_or, ↓reduceIte, Nat.reduceEqDiff, Nat.reduceAdd, Nat.reduceSub, Nat.reduceMul, Nat.reduceLeDiff, Nat.reduceBEq, Nat.zero_add, Nat.add_zero, and_self, true_and, and_true, Bool.not_true, Bool.not_false, Bool.false_eq_true, decide_true, decide_false, natInt, Int.natCast_nonneg, Int.toNat_zero, Int.toNat_one, Int.reduceLE, Int.reduceToNat, Int.reduceLT, Int.reduceEq, eq_self, Nat.le_refl, e0P]; exact rfl) (by simp only [trimS, Nat.testBit, Nat.reduceShiftRight, Nat.reduceAnd, Nat.reduceBneDiff, Nat.reduceBEq, bne, Bool.not_true, Bool.not_false, ↓reduceIte, Bool.false_eq_true]; exact rfl) ?_)
   change pwp _ _ _ _ _)
  (repeat (with_reducible refine pwp_seq ?_))
  (refine region_0 (by simp only [List.map_cons, List.map_nil]; exact rfl) (runs_end (by simp only [tt_0, tt_1, tt_2, tt_3, tt_4, tt_5, tt_6, tt_7, pm_0, pm_1, pm_2, pm_3, pm_4, pm_5, pm_6, pm_7, e0P, gs, gm, initS, rb_int, rb_str, rb_sub, rb_dcl, rb_opr, rb_ints, rowsB_nil, rowsB_cons, bqtt, bqtf, bqft, bqff, List.map_cons, List.map_nil, List.getElem?_cons_zero, List.getElem?_cons_succ, List.getElem?_map, Option.map_some, Option.map_none, Option.join_some, Option.getD_some, Option.isNone_none, Option.isNone_some, Option.isSome_none, Option.isSome_some, List.drop_succ_cons, List.drop_zero, List.drop_nil, List.take_succ_cons, List.take_zero, List.length_cons, List.length_nil, List.length_map, List.length_append, List.all_cons, List.all_nil, List.isEmpty_cons, List.isEmpty_nil, List.cons_append, List.nil_append, List.append_nil, Bool.and_self, Bool.or_true, Bool.true_or, Bool.or_false, Bool.false_or, ↓reduceIte, Nat.reduceEqDiff, Nat.reduceAdd, Nat.reduceSub, Nat.reduceMul, Nat.reduceLeDiff, Nat.reduceBEq, Nat.zero_add, Nat.add_zero, and_self, true_and, and_true, Bool.not_true, Bool.not_false, Bool.false_eq_true, decide_true, decide_false, natInt, Int.natCast_nonneg, Int.toNat_zero, Int.toNat_one, Int.reduceLE, Int.reduceToNat, Int.reduceLT, Int.reduceEq, eq_self, Nat.le_refl, encAlg]; exact rfl) (by simp only [trimS, Nat.testBit, Nat.reduceShiftRight, Nat.reduceAnd, Nat.reduceBneDiff, Nat.reduceBEq, bne, Bool.not_true, Bool.not_false, ↓reduceIte, Bool.false_eq_true]; exact rfl) ?_)
   change pwp _ _ _ _ _)
  refine pwp_block ?_
  refine pwp_loop (ι := Nat) (fun x => ⟨[(27, A.d (.one (.lit (.int .i64 x)))), (26, A.d (.one (.lit (.int .i64 a.size)))), (7, A.d (.one (.fn 51 [.ptr (encAlg a), .ptr [.lit (.int .i64 i)]]))), (6, .ref 6 0), (19, A.d (.one (.lit (.int .i64 i)))), (18, A.d (.one (.lit (.int .i64 g.ops.length)))), (17, A.d (.one (.sl (g.ops.map encOpr)))), (3, A.d (.one (.ptr (encAlg a))))], [(6, .var (encOpr o))]⟩)
    (fun x => x ≤ n ∧ (∀ (x' : Nat), x' < x → (o.unit ≠ 0 → tw2 a i x' (unv a o) = x' ∧ tw2 a i (unv a o) x' = x') ∧ ∀ (y : Nat), y < n → (o.comm = true → tw2 a i x' y = tw2 a i y x') ∧ (o.assoc = true → ∀ (z : Nat), z < n → tw2 a i (tw2 a i x' y) z = tw2 a i x' (tw2 a i y z)))) (fun x => n - x) 0 ⟨by omega, fun x' h => absurd h (by omega)⟩ (by simp [weakS, gs, encAlg]) (by simp [weakM, gm, encOpr]) fun x hx => ?_
  obtain ⟨hxn, hallx⟩ := hx
  have hwx := wrap1 (k := x) (by omega)
  by_cases hlt : x < n
  rotate_left
  · have hlt' : ¬ ((x : Int) < a.size) := by omega
    have hop : OpOk a i o := ⟨fun hu x' hx' => by
        obtain ⟨k, rfl, hk⟩ := zin hx'
        exact (hallx k (by omega)).1 hu, fun hc x' y hx' hy => by
        obtain ⟨k, rfl, hk⟩ := zin hx'
        obtain ⟨k2, rfl, hk2⟩ := zin hy
        exact ((hallx k (by omega)).2 k2 hk2).1 hc, fun hc x' y z hx' hy hz => by
        obtain ⟨k, rfl, hk⟩ := zin hx'
        obtain ⟨k2, rfl, hk2⟩ := zin hy
        obtain ⟨k3, rfl, hk3⟩ := zin hz
        exact ((hallx k (by omega)).2 k2 hk2).2 hc k3 hk3⟩
    have hi1 : i + 1 ≤ g.ops.length ∧ ∀ (i' : Nat) (o : Opr), i' < i + 1 → g.ops[i']? = some o → OpOk a i' o := ⟨by omega, fun i' o' h ho' => by
      by_cases e : i' = i
      · subst e; rw [ho] at ho'; injection ho' with ho'; subst ho'; exact hop
      · exact hall i' o' (by omega) ho'⟩
    (repeat (with_reducible refine pwp_seq ?_))
    (refine region_0 (by simp only [List.map_cons, List.map_nil]; exact rfl) (runs_end (by simp only [tt_0, tt_1, tt_2, tt_3, tt_4, tt_5, tt_6, tt_7, pm_0, pm_1, pm_2, pm_3, pm_4, pm_5, pm_6, pm_7, e0P, gs, gm, initS, rb_int, rb_str, rb_sub, rb_dcl, rb_opr, rb_ints, rowsB_nil, rowsB_cons, bqtt, bqtf, bqft, bqff, List.map_cons, List.map_nil, List.getElem?_cons_zero, List.getElem?_cons_succ, List.getElem?_map, Option.map_some, Option.map_none, Option.join_some, Option.getD_some, Option.isNone_none, Option.isNone_some, Option.isSome_none, Option.isSome_some, List.drop_succ_cons, List.drop_zero, List.drop_nil, List.take_succ_cons, List.take_zero, List.length_cons, List.length_nil, List.length_map, List.length_append, List.all_cons, List.all_nil, List.isEmpty_cons, List.isEmpty_nil, List.cons_append, List.nil_append, List.append_nil, Bool.and_self, Bool.or_true, Bool.true_or, Bool.or_false, Bool.false_or, ↓reduceIte, Nat.reduceEqDiff, Nat.reduceAdd, Nat.reduceSub, Nat.reduceMul, Nat.reduceLeDiff, Nat.reduceBEq, Nat.zero_add, Nat.add_zero, and_self, true_and, and_true, Bool.not_true, Bool.not_false, Bool.false_eq_true, decide_true, decide_false, natInt, Int.natCast_nonneg, Int.toNat_zero, Int.toNat_one, Int.reduceLE, Int.reduceToNat, Int.reduceLT, Int.reduceEq, eq_self, Nat.le_refl, hlt']; exact rfl) (by simp only [trimS, Nat.testBit, Nat.reduceShiftRight, Nat.reduceAnd, Nat.reduceBneDiff, Nat.reduceBEq, bne, Bool.not_true, Bool.not_false, ↓reduceIte, Bool.false_eq_true]; exact rfl) ?_)
     change pwp _ _ _ _ _)
    (repeat (with_reducible refine pwp_seq ?_))
    (refine pwp_cf rfl ?_)
    (refine pwp_exit ?_
     change pwp _ _ _ _ _)
    (refine region_0 (by simp only [List.map_cons, List.map_nil]; exact rfl) (runs_end (by simp only [tt_0, tt_1, tt_2, tt_3, tt_4, tt_5, tt_6, tt_7, pm_0, pm_1, pm_2, pm_3, pm_4, pm_5, pm_6, pm_7, e0P, gs, gm, initS, rb_int, rb_str, rb_sub, rb_dcl, rb_opr, rb_ints, rowsB_nil, rowsB_cons, bqtt, bqtf, bqft, bqff, List.map_cons, List.map_nil, List.getElem?_cons_zero, List.getElem?_cons_succ, List.getElem?_map, Option.map_some, Option.map_none, Option.join_some, Option.getD_some, Option.isNone_none, Option.isNone_some, Option.isSome_none, Option.isSome_some, List.drop_succ_cons, List.drop_zero, List.drop_nil, List.take_succ_cons, List.take_zero, List.length_cons, List.length_nil, List.length_map, List.length_append, List.all_cons, List.all_nil, List.isEmpty_cons, List.isEmpty_nil, List.cons_append, List.nil_append, List.append_nil, Bool.and_self, Bool.or_true, Bool.true_or, Bool.or_false, Bool.false_or, ↓reduceIte, Nat.reduceEqDiff, Nat.reduceAdd, Nat.reduceSub, Nat.reduceMul, Nat.reduceLeDiff, Nat.reduceBEq, Nat.zero_add, Nat.add_zero, and_self, true_and, and_true, Bool.not_true, Bool.not_false, Bool.false_eq_true, decide_true, decide_false, natInt, Int.natCast_nonneg, Int.toNat_zero, Int.toNat_one, Int.reduceLE, Int.reduceToNat, Int.reduceLT, Int.reduceEq, eq_self, Nat.le_refl, hw]; exact rfl) (by simp only [trimS, Nat.testBit, Nat.reduceShiftRight, Nat.reduceAnd, Nat.reduceBneDiff, Nat.reduceBEq, bne, Bool.not_true, Bool.not_false, ↓reduceIte, Bool.false_eq_true]; exact rfl) ?_)
     exact ⟨i + 1, hi1, by simp [weakS, gs, encOpr, encAlg], by simp [weakM, gm, encOpr, encAlg], by omega⟩)
  have hlt' : ((x : Int) < a.size) := by omega
  have hX := inz hlt
  (repeat (with_reducible refine pwp_seq ?_))
  (refine region_0 (by simp only [List.map_cons, List.map_nil]; exact rfl) (runs_end (by simp only [tt_0, tt_1, tt_2, tt_3, tt_4, tt_5, tt_6, tt_7, pm_0, pm_1, pm_2, pm_3, pm_4, pm_5, pm_6, pm_7, e0P, gs, gm, initS, rb_int, rb_str, rb_sub, rb_dcl, rb_opr, rb_ints, rowsB_nil, rowsB_cons, bqtt, bqtf, bqft, bqff, List.map_cons, List.map_nil, List.getElem?_cons_zero, List.getElem?_cons_succ, List.getElem?_map, Option.map_some, Option.map_none, Option.join_some, Option.getD_some, Option.isNone_none, Option.isNone_some, Option.isSome_none, Option.isSome_some, List.drop_succ_cons, List.drop_zero, List.drop_nil, List.take_succ_cons, List.take_zero, List.length_cons, List.length_nil, List.length_map, List.length_append, List.all_cons, List.all_nil, List.isEmpty_cons, List.isEmpty_nil, List.cons_append, List.nil_append, List.append_nil, Bool.and_self, Bool.or_true, Bool.true_or, Bool.or_false, Bool.false_or, ↓reduceIte, Nat.reduceEqDiff, Nat.reduceAdd, Nat.reduceSub, Nat.reduceMul, Nat.reduceLeDiff, Nat.reduceBEq, Nat.zero_add, Nat.add_zero, and_self, true_and, and_true, Bool.not_true, Bool.not_false, Bool.false_eq_true, decide_true, decide_false, natInt, Int.natCast_nonneg, Int.toNat_zero, Int.toNat_one, Int.reduceLE, Int.reduceToNat, Int.reduceLT, Int.reduceEq, eq_self, Nat.le_refl, hlt']; exact rfl) (by simp only [trimS, Nat.testBit, Nat.reduceShiftRight, Nat.reduceAnd, Nat.reduceBneDiff, Nat.reduceBEq, bne, Bool.not_true, Bool.not_false, ↓reduceIte, Bool.false_eq_true]; exact rfl) ?_)
   change pwp _ _ _ _ _)
  (repeat (with_reducible refine pwp_seq ?_))
  (refine pwp_ct rfl ?_)
  (refine pwp_skip ?_
   change pwp _ _ _ _ _)
  (repeat (with_reducible refine pwp_seq ?_))
  refine pwp_block ?_
  refine pwp_seq ?_
  (refine region_0 (by simp only [List.map_cons, List.map_nil]; exact rfl) (runs_end (by simp only [tt_0, tt_1, tt_2, tt_3, tt_4, tt_5, tt_6, tt_7, pm_0, pm_1, pm_2, pm_3, pm_4, pm_5, pm_6, pm_7, e0P, gs, gm, initS, rb_int, rb_str, rb_sub, rb_dcl, rb_opr, rb_ints, rowsB_nil, rowsB_cons, bqtt, bqtf, bqft, bqff, List.map_cons, List.map_nil, List.getElem?_cons_zero, List.getElem?_cons_succ, List.getElem?_map, Option.map_some, Option.map_none, Option.join_some, Option.getD_some, Option.isNone_none, Option.isNone_some, Option.isSome_none, Option.isSome_some, List.drop_succ_cons, List.drop_zero, List.drop_nil, List.take_succ_cons, List.take_zero, List.length_cons, List.length_nil, List.length_map, List.length_append, List.all_cons, List.all_nil, List.isEmpty_cons, List.isEmpty_nil, List.cons_append, List.nil_append, List.append_nil, Bool.and_self, Bool.or_true, Bool.true_or, Bool.or_false, Bool.false_or, ↓reduceIte, Nat.reduceEqDiff, Nat.reduceAdd, Nat.reduceSub, Nat.reduceMul, Nat.reduceLeDiff, Nat.reduceBEq, Nat.zero_add, Nat.add_zero, and_self, true_and, and_true, Bool.not_true, Bool.not_false, Bool.false_eq_true, decide_true, decide_false, natInt, Int.natCast_nonneg, Int.toNat_zero, Int.toNat_one, Int.reduceLE, Int.reduceToNat, Int.reduceLT, Int.reduceEq, eq_self, Nat.le_refl, e0P]; exact rfl) (by simp only [trimS, Nat.testBit, Nat.reduceShiftRight, Nat.reduceAnd, Nat.reduceBneDiff, Nat.reduceBEq, bne, Bool.not_true, Bool.not_false, ↓reduceIte, Bool.false_eq_true]; exact rfl) ?_)
   change pwp _ _ _ _ _)
  refine pwp_to [(8, A.d (.one (.lit (.int .i64 x)))), (27, A.d (.one (.lit (.int .i64 x)))), (26, A.d (.one (.lit (.int .i64 a.size)))), (7, A.d (.one (.fn 51 [.ptr (encAlg a), .ptr [.lit (.int .i64 i)]]))), (6, .ref 6 0), (19, A.d (.one (.lit (.int .i64 i)))), (18, A.d (.one (.lit (.int .i64 g.ops.length)))), (17, A.d (.one (.sl (g.ops.map encOpr)))), (3, A.d (.one (.ptr (encAlg a))))] [(6, .var (encOpr o))] (o.unit ≠ 0 → tw2 a i x (unv a o) = x ∧ tw2 a i (unv a o) x = x) (fun hU => ?_) ?_
  rotate_left
  · (repeat (with_reducible refine pwp_seq ?_))
    by_cases hu : o.unit = 0
    · (refine region_0 (by simp only [List.map_cons, List.map_nil]; exact rfl) (runs_end (by simp only [tt_0, tt_1, tt_2, tt_3, tt_4, tt_5, tt_6, tt_7, pm_0, pm_1, pm_2, pm_3, pm_4, pm_5, pm_6, pm_7, e0P, gs, gm, initS, rb_int, rb_str, rb_sub, rb_dcl, rb_opr, rb_ints, rowsB_nil, rowsB_cons, bqtt, bqtf, bqft, bqff, List.map_cons, List.map_nil, List.getElem?_cons_zero, List.getElem?_cons_succ, List.getElem?_map, Option.map_some, Option.map_none, Option.join_some, Option.getD_some, Option.isNone_none, Option.isNone_some, Option.isSome_none, Option.isSome_some, List.drop_succ_cons, List.drop_zero, List.drop_nil, List.take_succ_cons, List.take_zero, List.length_cons, List.length_nil, List.length_map, List.length_append, List.all_cons, List.all_nil, List.isEmpty_cons, List.isEmpty_nil, List.cons_append, List.nil_append, List.append_nil, Bool.and_self, Bool.or_true, Bool.true_or, Bool.or_false, Bool.false_or, ↓reduceIte, Nat.reduceEqDiff, Nat.reduceAdd, Nat.reduceSub, Nat.reduceMul, Nat.reduceLeDiff, Nat.reduceBEq, Nat.zero_add, Nat.add_zero, and_self, true_and, and_true, Bool.not_true, Bool.not_false, Bool.false_eq_true, decide_true, decide_false, natInt, Int.natCast_nonneg, Int.toNat_zero, Int.toNat_one, Int.reduceLE, Int.reduceToNat, Int.reduceLT, Int.reduceEq, eq_self, Nat.le_refl, encOpr, hu]; exact rfl) (by simp only [trimS, Nat.testBit, Nat.reduceShiftRight, Nat.reduceAnd, Nat.reduceBneDiff, Nat.reduceBEq, bne, Bool.not_true, Bool.not_false, ↓reduceIte, Bool.false_eq_true]; exact rfl) ?_)
       change pwp _ _ _ _ _)
      (refine pwp_cf rfl ?_)
      (refine pwp_skip ?_
       exact ⟨by simp [weakS, gs, encOpr, encAlg, hu], by simp [weakM, gm, encOpr, encAlg, hu], fun h => absurd hu h⟩)
    obtain ⟨q, l, hq, hq14, hl, hl0, hE⟩ := hAt.unit hu
    have ht := hAt.tab (.inr (.inr hu))
    have hne : ¬ ((q : Int) + 1 = 0) := by omega
    have hsub : IntKind.i64.wrap ((q : Int) + 1 - 1) = (q : Int) := wrapN (by omega) (by omega) (by omega)
    (refine region_0 (by simp only [List.map_cons, List.map_nil]; exact rfl) (runs_end (by simp only [tt_0, tt_1, tt_2, tt_3, tt_4, tt_5, tt_6, tt_7, pm_0, pm_1, pm_2, pm_3, pm_4, pm_5, pm_6, pm_7, e0P, gs, gm, initS, rb_int, rb_str, rb_sub, rb_dcl, rb_opr, rb_ints, rowsB_nil, rowsB_cons, bqtt, bqtf, bqft, bqff, List.map_cons, List.map_nil, List.getElem?_cons_zero, List.getElem?_cons_succ, List.getElem?_map, Option.map_some, Option.map_none, Option.join_some, Option.getD_some, Option.isNone_none, Option.isNone_some, Option.isSome_none, Option.isSome_some, List.drop_succ_cons, List.drop_zero, List.drop_nil, List.take_succ_cons, List.take_zero, List.length_cons, List.length_nil, List.length_map, List.length_append, List.all_cons, List.all_nil, List.isEmpty_cons, List.isEmpty_nil, List.cons_append, List.nil_append, List.append_nil, Bool.and_self, Bool.or_true, Bool.true_or, Bool.or_false, Bool.false_or, ↓reduceIte, Nat.reduceEqDiff, Nat.reduceAdd, Nat.reduceSub, Nat.reduceMul, Nat.reduceLeDiff, Nat.reduceBEq, Nat.zero_add, Nat.add_zero, and_self, true_and, and_true, Bool.not_true, Bool.not_false, Bool.false_eq_true, decide_true, decide_false, natInt, Int.natCast_nonneg, Int.toNat_zero, Int.toNat_one, Int.reduceLE, Int.reduceToNat, Int.reduceLT, Int.reduceEq, eq_self, Nat.le_refl, encOpr, hq, hne]; exact rfl) (by simp only [trimS, Nat.testBit, Nat.reduceShiftRight, Nat.reduceAnd, Nat.reduceBneDiff, Nat.reduceBEq, bne, Bool.not_true, Bool.not_false, ↓reduceIte, Bool.false_eq_true]; exact rfl) ?_)
     change pwp _ _ _ _ _)
    (repeat (with_reducible refine pwp_seq ?_))
    (refine pwp_ct rfl ?_)
    (repeat (with_reducible refine pwp_seq ?_))
    (refine region_0 (by simp only [List.map_cons, List.map_nil]; exact rfl) (runs_end (by simp only [tt_0, tt_1, tt_2, tt_3, tt_4, tt_5, tt_6, tt_7, pm_0, pm_1, pm_2, pm_3, pm_4, pm_5, pm_6, pm_7, e0P, gs, gm, initS, rb_int, rb_str, rb_sub, rb_dcl, rb_opr, rb_ints, rowsB_nil, rowsB_cons, bqtt, bqtf, bqft, bqff, List.map_cons, List.map_nil, List.getElem?_cons_zero, List.getElem?_cons_succ, List.getElem?_map, Option.map_some, Option.map_none, Option.join_some, Option.getD_some, Option.isNone_none, Option.isNone_some, Option.isSome_none, Option.isSome_some, List.drop_succ_cons, List.drop_zero, List.drop_nil, List.take_succ_cons, List.take_zero, List.length_cons, List.length_nil, List.length_map, List.length_append, List.all_cons, List.all_nil, List.isEmpty_cons, List.isEmpty_nil, List.cons_append, List.nil_append, List.append_nil, Bool.and_self, Bool.or_true, Bool.true_or, Bool.or_false, Bool.false_or, ↓reduceIte, Nat.reduceEqDiff, Nat.reduceAdd, Nat.reduceSub, Nat.reduceMul, Nat.reduceLeDiff, Nat.reduceBEq, Nat.zero_add, Nat.add_zero, and_self, true_and, and_true, Bool.not_true, Bool.not_false, Bool.false_eq_true, decide_true, decide_false, natInt, Int.natCast_nonneg, Int.toNat_zero, Int.toNat_one, Int.reduceLE, Int.reduceToNat, Int.reduceLT, Int.reduceEq, eq_self, Nat.le_refl, encAlg, encInts, encInt, hq, hsub, hl, hl0]; exact rfl) (by simp only [trimS, Nat.testBit, Nat.reduceShiftRight, Nat.reduceAnd, Nat.reduceBneDiff, Nat.reduceBEq, bne, Bool.not_true, Bool.not_false, ↓reduceIte, Bool.false_eq_true]; exact rfl) ?_)
     change pwp _ _ _ _ _)
    (repeat (with_reducible refine pwp_seq ?_))
    have c1 := con_implTwo ht hE hX
    have c2 := con_implTwo ht hX hE
    rw [encAlg] at c1 c2
    (refine region_0 (by simp only [List.map_cons, List.map_nil]; exact rfl) ?_)
    (refine runs_go (by simp only [tt_0, tt_1, tt_2, tt_3, tt_4, tt_5, tt_6, tt_7, pm_0, pm_1, pm_2, pm_3, pm_4, pm_5, pm_6, pm_7, e0P, gs, gm, initS, rb_int, rb_str, rb_sub, rb_dcl, rb_opr, rb_ints, rowsB_nil, rowsB_cons, bqtt, bqtf, bqft, bqff, List.map_cons, List.map_nil, List.getElem?_cons_zero, List.getElem?_cons_succ, List.getElem?_map, Option.map_some, Option.map_none, Option.join_some, Option.getD_some, Option.isNone_none, Option.isNone_some, Option.isSome_none, Option.isSome_some, List.drop_succ_cons, List.drop_zero, List.drop_nil, List.take_succ_cons, List.take_zero, List.length_cons, List.length_nil, List.length_map, List.length_append, List.all_cons, List.all_nil, List.isEmpty_cons, List.isEmpty_nil, List.cons_append, List.nil_append, List.append_nil, Bool.and_self, Bool.or_true, Bool.true_or, Bool.or_false, Bool.false_or, ↓reduceIte, Nat.reduceEqDiff, Nat.reduceAdd, Nat.reduceSub, Nat.reduceMul, Nat.reduceLeDiff, Nat.reduceBEq, Nat.zero_add, Nat.add_zero, and_self, true_and, and_true, Bool.not_true, Bool.not_false, Bool.false_eq_true, decide_true, decide_false, natInt, Int.natCast_nonneg, Int.toNat_zero, Int.toNat_one, Int.reduceLE, Int.reduceToNat, Int.reduceLT, Int.reduceEq, eq_self, Nat.le_refl, encAlg]; exact rfl) (by simp only [tt_0, tt_1, tt_2, tt_3, tt_4, tt_5, tt_6, tt_7, pm_0, pm_1, pm_2, pm_3, pm_4, pm_5, pm_6, pm_7, e0P, gs, gm, initS, rb_int, rb_str, rb_sub, rb_dcl, rb_opr, rb_ints, rowsB_nil, rowsB_cons, bqtt, bqtf, bqft, bqff, List.map_cons, List.map_nil, List.getElem?_cons_zero, List.getElem?_cons_succ, List.getElem?_map, Option.map_some, Option.map_none, Option.join_some, Option.getD_some, Option.isNone_none, Option.isNone_some, Option.isSome_none, Option.isSome_some, List.drop_succ_cons, List.drop_zero, List.drop_nil, List.take_succ_cons, List.take_zero, List.length_cons, List.length_nil, List.length_map, List.length_append, List.all_cons, List.all_nil, List.isEmpty_cons, List.isEmpty_nil, List.cons_append, List.nil_append, List.append_nil, Bool.and_self, Bool.or_true, Bool.true_or, Bool.or_false, Bool.false_or, ↓reduceIte, Nat.reduceEqDiff, Nat.reduceAdd, Nat.reduceSub, Nat.reduceMul, Nat.reduceLeDiff, Nat.reduceBEq, Nat.zero_add, Nat.add_zero, and_self, true_and, and_true, Bool.not_true, Bool.not_false, Bool.false_eq_true, decide_true, decide_false, natInt, Int.natCast_nonneg, Int.toNat_zero, Int.toNat_one, Int.reduceLE, Int.reduceToNat, Int.reduceLT, Int.reduceEq, eq_self, Nat.le_refl, encAlg]; exact rfl) (c1) (by simp only [setA, retA]; exact rfl) ?_)
    by_cases h1 : tw2 a i (unv a o) x = x
    rotate_left
    · have hf := hno fun hO => h1 (hO.unit hu x hX).2
      (refine runs_end (by simp only [tt_0, tt_1, tt_2, tt_3, tt_4, tt_5, tt_6, tt_7, pm_0, pm_1, pm_2, pm_3, pm_4, pm_5, pm_6, pm_7, e0P, gs, gm, initS, rb_int, rb_str, rb_sub, rb_dcl, rb_opr, rb_ints, rowsB_nil, rowsB_cons, bqtt, bqtf, bqft, bqff, List.map_cons, List.map_nil, List.getElem?_cons_zero, List.getElem?_cons_succ, List.getElem?_map, Option.map_some, Option.map_none, Option.join_some, Option.getD_some, Option.isNone_none, Option.isNone_some, Option.isSome_none, Option.isSome_some, List.drop_succ_cons, List.drop_zero, List.drop_nil, List.take_succ_cons, List.take_zero, List.length_cons, List.length_nil, List.length_map, List.length_append, List.all_cons, List.all_nil, List.isEmpty_cons, List.isEmpty_nil, List.cons_append, List.nil_append, List.append_nil, Bool.and_self, Bool.or_true, Bool.true_or, Bool.or_false, Bool.false_or, ↓reduceIte, Nat.reduceEqDiff, Nat.reduceAdd, Nat.reduceSub, Nat.reduceMul, Nat.reduceLeDiff, Nat.reduceBEq, Nat.zero_add, Nat.add_zero, and_self, true_and, and_true, Bool.not_true, Bool.not_false, Bool.false_eq_true, decide_true, decide_false, natInt, Int.natCast_nonneg, Int.toNat_zero, Int.toNat_one, Int.reduceLE, Int.reduceToNat, Int.reduceLT, Int.reduceEq, eq_self, Nat.le_refl, h1]; exact rfl) (by simp only [trimS, Nat.testBit, Nat.reduceShiftRight, Nat.reduceAnd, Nat.reduceBneDiff, Nat.reduceBEq, bne, Bool.not_true, Bool.not_false, ↓reduceIte, Bool.false_eq_true]; exact rfl) ?_
       change pwp _ _ _ _ _)
      (refine pwp_ct rfl ?_)
      ((repeat (with_reducible refine pwp_seq ?_))
       (refine region_0 (by simp only [List.map_cons, List.map_nil]; exact rfl) (runs_end (by simp only [tt_0, tt_1, tt_2, tt_3, tt_4, tt_5, tt_6, tt_7, pm_0, pm_1, pm_2, pm_3, pm_4, pm_5, pm_6, pm_7, e0P, gs, gm, initS, rb_int, rb_str, rb_sub, rb_dcl, rb_opr, rb_ints, rowsB_nil, rowsB_cons, bqtt, bqtf, bqft, bqff, List.map_cons, List.map_nil, List.getElem?_cons_zero, List.getElem?_cons_succ, List.getElem?_map, Option.map_some, Option.map_none, Option.join_some, Option.getD_some, Option.isNone_none, Option.isNone_some, Option.isSome_none, Option.isSome_some, List.drop_succ_cons, List.drop_zero, List.drop_nil, List.take_succ_cons, List.take_zero, List.length_cons, List.length_nil, List.length_map, List.length_append, List.all_cons, List.all_nil, List.isEmpty_cons, List.isEmpty_nil, List.cons_append, List.nil_append, List.append_nil, Bool.and_self, Bool.or_true, Bool.true_or, Bool.or_false, Bool.false_or, ↓reduceIte, Nat.reduceEqDiff, Nat.reduceAdd, Nat.reduceSub, Nat.reduceMul, Nat.reduceLeDiff, Nat.reduceBEq, Nat.zero_add, Nat.add_zero, and_self, true_and, and_true, Bool.not_true, Bool.not_false, Bool.false_eq_true, decide_true, decide_false, natInt, Int.natCast_nonneg, Int.toNat_zero, Int.toNat_one, Int.reduceLE, Int.reduceToNat, Int.reduceLT, Int.reduceEq, eq_self, Nat.le_refl, e0P]; exact rfl) (by simp only [trimS, Nat.testBit, Nat.reduceShiftRight, Nat.reduceAnd, Nat.reduceBneDiff, Nat.reduceBEq, bne, Bool.not_true, Bool.not_false, ↓reduceIte, Bool.false_eq_true]; exact rfl) ?_)
        change pwp _ _ _ _ _)
       (refine pwp_ret (ret_ok ?_))
       simp [resOk, resA, resSlots, gs, hf])
    (refine runs_go (by simp only [tt_0, tt_1, tt_2, tt_3, tt_4, tt_5, tt_6, tt_7, pm_0, pm_1, pm_2, pm_3, pm_4, pm_5, pm_6, pm_7, e0P, gs, gm, initS, rb_int, rb_str, rb_sub, rb_dcl, rb_opr, rb_ints, rowsB_nil, rowsB_cons, bqtt, bqtf, bqft, bqff, List.map_cons, List.map_nil, List.getElem?_cons_zero, List.getElem?_cons_succ, List.getElem?_map, Option.map_some, Option.map_none, Option.join_some, Option.getD_some, Option.isNone_none, Option.isNone_some, Option.isSome_none, Option.isSome_some, List.drop_succ_cons, List.drop_zero, List.drop_nil, List.take_succ_cons, List.take_zero, List.length_cons, List.length_nil, List.length_map, List.length_append, List.all_cons, List.all_nil, List.isEmpty_cons, List.isEmpty_nil, List.cons_append, List.nil_append, List.append_nil, Bool.and_self, Bool.or_true, Bool.true_or, Bool.or_false, Bool.false_or, ↓reduceIte, Nat.reduceEqDiff, Nat.reduceAdd, Nat.reduceSub, Nat.reduceMul, Nat.reduceLeDiff, Nat.reduceBEq, Nat.zero_add, Nat.add_zero, and_self, true_and, and_true, Bool.not_true, Bool.not_false, Bool.false_eq_true, decide_true, decide_false, natInt, Int.natCast_nonneg, Int.toNat_zero, Int.toNat_one, Int.reduceLE, Int.reduceToNat, Int.reduceLT, Int.reduceEq, eq_self, Nat.le_refl, h1, encAlg]; exact rfl) (by simp only [tt_0, tt_1, tt_2, tt_3, tt_4, tt_5, tt_6, tt_7, pm_0, pm_1, pm_2, pm_3, pm_4, pm_5, pm_6, pm_7, e0P, gs, gm, initS, rb_int, rb_str, rb_sub, rb_dcl, rb_opr, rb_ints, rowsB_nil, rowsB_cons, bqtt, bqtf, bqft, bqff, List.map_cons, List.map_nil, List.getElem?_cons_zero, List.getElem?_cons_succ, List.getElem?_map, Option.map_some, Option.map_none, Option.join_some, Option.getD_some, Option.isNone_none, Option.isNone_some, Option.isSome_none, Option.isSome_some, List.drop_succ_cons, List.drop_zero, List.drop_nil, List.take_succ_cons, List.take_zero, List.length_cons, List.length_nil, List.length_map, List.length_append, List.all_cons, List.all_nil, List.isEmpty_cons, List.isEmpty_nil, List.cons_append, List.nil_append, List.append_nil, Bool.and_self, Bool.or_true, Bool.true_or, Bool.or_false, Bool.false_or, ↓reduceIte, Nat.reduceEqDiff, Nat.reduceAdd, Nat.reduceSub, Nat.reduceMul, Nat.reduceLeDiff, Nat.reduceBEq, Nat.zero_add, Nat.add_zero, and_self, true_and, and_true, Bool.not_true, Bool.not_false, Bool.false_eq_true, decide_true, decide_false, natInt, Int.natCast_nonneg, Int.toNat_zero, Int.toNat_one, Int.reduceLE, Int.reduceToNat, Int.reduceLT, Int.reduceEq, eq_self, Nat.le_refl, h1, encAlg]; exact rfl) (c2) (by simp only [setA, retA]; exact rfl) ?_)
    by_cases h2 : tw2 a i x (unv a o) = x
    rotate_left
    · have hf := hno fun hO => h2 (hO.unit hu x hX).1
      (refine runs_end (by simp only [tt_0, tt_1, tt_2, tt_3, tt_4, tt_5, tt_6, tt_7, pm_0, pm_1, pm_2, pm_3, pm_4, pm_5, pm_6, pm_7, e0P, gs, gm, initS, rb_int, rb_str, rb_sub, rb_dcl, rb_opr, rb_ints, rowsB_nil, rowsB_cons, bqtt, bqtf, bqft, bqff, List.map_cons, List.map_nil, List.getElem?_cons_zero, List.getElem?_cons_succ, List.getElem?_map, Option.map_some, Option.map_none, Option.join_some, Option.getD_some, Option.isNone_none, Option.isNone_some, Option.isSome_none, Option.isSome_some, List.drop_succ_cons, List.drop_zero, List.drop_nil, List.take_succ_cons, List.take_zero, List.length_cons, List.length_nil, List.length_map, List.length_append, List.all_cons, List.all_nil, List.isEmpty_cons, List.isEmpty_nil, List.cons_append, List.nil_append, List.append_nil, Bool.and_self, Bool.or_true, Bool.true_or, Bool.or_false, Bool.false_or, ↓reduceIte, Nat.reduceEqDiff, Nat.reduceAdd, Nat.reduceSub, Nat.reduceMul, Nat.reduceLeDiff, Nat.reduceBEq, Nat.zero_add, Nat.add_zero, and_self, true_and, and_true, Bool.not_true, Bool.not_false, Bool.false_eq_true, decide_true, decide_false, natInt, Int.natCast_nonneg, Int.toNat_zero, Int.toNat_one, Int.reduceLE, Int.reduceToNat, Int.reduceLT, Int.reduceEq, eq_self, Nat.le_refl, h1, h2]; exact rfl) (by simp only [trimS, Nat.testBit, Nat.reduceShiftRight, Nat.reduceAnd, Nat.reduceBneDiff, Nat.reduceBEq, bne, Bool.not_true, Bool.not_false, ↓reduceIte, Bool.false_eq_true]; exact rfl) ?_
       change pwp _ _ _ _ _)
      (refine pwp_ct rfl ?_)
      ((repeat (with_reducible refine pwp_seq ?_))
       (refine region_0 (by simp only [List.map_cons, List.map_nil]; exact rfl) (runs_end (by simp only [tt_0, tt_1, tt_2, tt_3, tt_4, tt_5, tt_6, tt_7, pm_0, pm_1, pm_2, pm_3, pm_4, pm_5, pm_6, pm_7, e0P, gs, gm, initS, rb_int, rb_str, rb_sub, rb_dcl, rb_opr, rb_ints, rowsB_nil, rowsB_cons, bqtt, bqtf, bqft, bqff, List.map_cons, List.map_nil, List.getElem?_cons_zero, List.getElem?_cons_succ, List.getElem?_map, Option.map_some, Option.map_none, Option.join_some, Option.getD_some, Option.isNone_none, Option.isNone_some, Option.isSome_none, Option.isSome_some, List.drop_succ_cons, List.drop_zero, List.drop_nil, List.take_succ_cons, List.take_zero, List.length_cons, List.length_nil, List.length_map, List.length_append, List.all_cons, List.all_nil, List.isEmpty_cons, List.isEmpty_nil, List.cons_append, List.nil_append, List.append_nil, Bool.and_self, Bool.or_true, Bool.true_or, Bool.or_false, Bool.false_or, ↓reduceIte, Nat.reduceEqDiff, Nat.reduceAdd, Nat.reduceSub, Nat.reduceMul, Nat.reduceLeDiff, Nat.reduceBEq, Nat.zero_add, Nat.add_zero, and_self, true_and, and_true, Bool.not_true, Bool.not_false, Bool.false_eq_true, decide_true, decide_false, natInt, Int.natCast_nonneg, Int.toNat_zero, Int.toNat_one, Int.reduceLE, Int.reduceToNat, Int.reduceLT, Int.reduceEq, eq_self, Nat.le_refl, e0P]; exact rfl) (by simp only [trimS, Nat.testBit, Nat.reduceShiftRight, Nat.reduceAnd, Nat.reduceBneDiff, Nat.reduceBEq, bne, Bool.not_true, Bool.not_false, ↓reduceIte, Bool.false_eq_true]; exact rfl) ?_)
        change pwp _ _ _ _ _)
       (refine pwp_ret (ret_ok ?_))
       simp [resOk, resA, resSlots, gs, hf])
    (refine runs_end (by simp only [tt_0, tt_1, tt_2, tt_3, tt_4, tt_5, tt_6, tt_7, pm_0, pm_1, pm_2, pm_3, pm_4, pm_5, pm_6, pm_7, e0P, gs, gm, initS, rb_int, rb_str, rb_sub, rb_dcl, rb_opr, rb_ints, rowsB_nil, rowsB_cons, bqtt, bqtf, bqft, bqff, List.map_cons, List.map_nil, List.getElem?_cons_zero, List.getElem?_cons_succ, List.getElem?_map, Option.map_some, Option.map_none, Option.join_some, Option.getD_some, Option.isNone_none, Option.isNone_some, Option.isSome_none, Option.isSome_some, List.drop_succ_cons, List.drop_zero, List.drop_nil, List.take_succ_cons, List.take_zero, List.length_cons, List.length_nil, List.length_map, List.length_append, List.all_cons, List.all_nil, List.isEmpty_cons, List.isEmpty_nil, List.cons_append, List.nil_append, List.append_nil, Bool.and_self, Bool.or_true, Bool.true_or, Bool.or_false, Bool.false_or, ↓reduceIte, Nat.reduceEqDiff, Nat.reduceAdd, Nat.reduceSub, Nat.reduceMul, Nat.reduceLeDiff, Nat.reduceBEq, Nat.zero_add, Nat.add_zero, and_self, true_and, and_true, Bool.not_true, Bool.not_false, Bool.false_eq_true, decide_true, decide_false, natInt, Int.natCast_nonneg, Int.toNat_zero, Int.toNat_one, Int.reduceLE, Int.reduceToNat, Int.reduceLT, Int.reduceEq, eq_self, Nat.le_refl, h1, h2]; exact rfl) (by simp only [trimS, Nat.testBit, Nat.reduceShiftRight, Nat.reduceAnd, Nat.reduceBneDiff, Nat.reduceBEq, bne, Bool.not_true, Bool.not_false, ↓reduceIte, Bool.false_eq_true]; exact rfl) ?_
     change pwp _ _ _ _ _)
    (refine pwp_cf rfl ?_)
    (refine pwp_skip ?_
     exact ⟨by simp [weakS, gs, encOpr, encAlg, hq], by simp [weakM, gm, encOpr, encAlg, hq], fun _ => ⟨h2, h1⟩⟩)
  (repeat (with_reducible refine pwp_seq ?_))
  (refine region_0 (by simp only [List.map_cons, List.map_nil]; exact rfl) (runs_end (by simp only [tt_0, tt_1, tt_2, tt_3, tt_4, tt_5, tt_6, tt_7, pm_0, pm_1, pm_2, pm_3, pm_4, pm_5, pm_6, pm_7, e0P, gs, gm, initS, rb_int, rb_str, rb_sub, rb_dcl, rb_opr, rb_ints, rowsB_nil, rowsB_cons, bqtt, bqtf, bqft, bqff, List.map_cons, List.map_nil, List.getElem?_cons_zero, List.getElem?_cons_succ, List.getElem?_map, Option.map_some, Option.map_none, Option.join_some, Option.getD_some, Option.isNone_none, Option.isNone_some, Option.isSome_none, Option.isSome_some, List.drop_succ_cons, List.drop_zero, List.drop_nil, List.take_succ_cons, List.take_zero, List.length_cons, List.length_nil, List.length_map, List.length_append, List.all_cons, List.all_nil, List.isEmpty_cons, List.isEmpty_nil, List.cons_append, List.nil_append, List.append_nil, Bool.and_self, Bool.or_true, Bool.true_or, Bool.or_false, Bool.false_or, ↓reduceIte, Nat.reduceEqDiff, Nat.reduceAdd, Nat.reduceSub, Nat.reduceMul, Nat.reduceLeDiff, Nat.reduceBEq, Nat.zero_add, Nat.add_zero, and_self, true_and, and_true, Bool.not_true, Bool.not_false, Bool.false_eq_true, decide_true, decide_false, natInt, Int.natCast_nonneg, Int.toNat_zero, Int.toNat_one, Int.reduceLE, Int.reduceToNat, Int.reduceLT, Int.reduceEq, eq_self, Nat.le_refl, encAlg]; exact rfl) (by simp only [trimS, Nat.testBit, Nat.reduceShiftRight, Nat.reduceAnd, Nat.reduceBneDiff, Nat.reduceBEq, bne, Bool.not_true, Bool.not_false, ↓reduceIte, Bool.false_eq_true]; exact rfl) ?_)
   change pwp _ _ _ _ _)
  refine pwp_block ?_
  refine pwp_loop (ι := Nat) (fun y => ⟨[(58, A.d (.one (.lit (.int .i64 y)))), (57, A.d (.one (.lit (.int .i64 a.size)))), (8, A.d (.one (.lit (.int .i64 x)))), (27, A.d (.one (.lit (.int .i64 x)))), (26, A.d (.one (.lit (.int .i64 a.size)))), (7, A.d (.one (.fn 51 [.ptr (encAlg a), .ptr [.lit (.int .i64 i)]]))), (6, .ref 6 0), (19, A.d (.one (.lit (.int .i64 i)))), (18, A.d (.one (.lit (.int .i64 g.ops.length)))), (17, A.d (.one (.sl (g.ops.map encOpr)))), (3, A.d (.one (.ptr (encAlg a))))], [(6, .var (encOpr o))]⟩)
    (fun y => y ≤ n ∧ (∀ (y' : Nat), y' < y → (o.comm = true → tw2 a i x y' = tw2 a i y' x) ∧ (o.assoc = true → ∀ (z : Nat), z < n → tw2 a i (tw2 a i x y') z = tw2 a i x (tw2 a i y' z)))) (fun y => n - y) 0 ⟨by omega, fun x' h => absurd h (by omega)⟩ (by simp [weakS, gs, encAlg]) (by simp [weakM, gm, encOpr]) fun y hy => ?_
  obtain ⟨hyn, hally⟩ := hy
  have hwy := wrap1 (k := y) (by omega)
  by_cases hyl : y < n
  rotate_left
  · have hyl' : ¬ ((y : Int) < a.size) := by omega
    have hx1 : x + 1 ≤ n ∧ (∀ (x' : Nat), x' < x + 1 → (o.unit ≠ 0 → tw2 a i x' (unv a o) = x' ∧ tw2 a i (unv a o) x' = x') ∧ ∀ (y : Nat), y < n → (o.comm = true → tw2 a i x' y = tw2 a i y x') ∧ (o.assoc = true → ∀ (z : Nat), z < n → tw2 a i (tw2 a i x' y) z = tw2 a i x' (tw2 a i y z))) := ⟨by omega, fun x' hx' => by
      by_cases e : x' = x
      · subst e; exact ⟨hU, fun y' hy' => hally y' (by omega)⟩
      · exact hallx x' (by omega)⟩
    (repeat (with_reducible refine pwp_seq ?_))
    (refine region_0 (by simp only [List.map_cons, List.map_nil]; exact rfl) (runs_end (by simp only [tt_0, tt_1, tt_2, tt_3, tt_4, tt_5, tt_6, tt_7, pm_0, pm_1, pm_2, pm_3, pm_4, pm_5, pm_6, pm_7, e0P, gs, gm, initS, rb_int, rb_str, rb_sub, rb_dcl, rb_opr, rb_ints, rowsB_nil, rowsB_cons, bqtt, bqtf, bqft, bqff, List.map_cons, List.map_nil, List.getElem?_cons_zero, List.getElem?_cons_succ, List.getElem?_map, Option.map_some, Option.map_none, Option.join_some, Option.getD_some, Option.isNone_none, Option.isNone_some, Option.isSome_none, Option.isSome_some, List.drop_succ_cons, List.drop_zero, List.drop_nil, List.take_succ_cons, List.take_zero, List.length_cons, List.length_nil, List.length_map, List.length_append, List.all_cons, List.all_nil, List.isEmpty_cons, List.isEmpty_nil, List.cons_append, List.nil_append, List.append_nil, Bool.and_self, Bool.or_true, Bool.true_or, Bool.or_false, Bool.false_or, ↓reduceIte, Nat.reduceEqDiff, Nat.reduceAdd, Nat.reduceSub, Nat.reduceMul, Nat.reduceLeDiff, Nat.reduceBEq, Nat.zero_add, Nat.add_zero, and_self, true_and, and_true, Bool.not_true, Bool.not_false, Bool.false_eq_true, decide_true, decide_false, natInt, Int.natCast_nonneg, Int.toNat_zero, Int.toNat_one, Int.reduceLE, Int.reduceToNat, Int.reduceLT, Int.reduceEq, eq_self, Nat.le_refl, hyl']; exact rfl) (by simp only [trimS, Nat.testBit, Nat.reduceShiftRight, Nat.reduceAnd, Nat.reduceBneDiff, Nat.reduceBEq, bne, Bool.not_true, Bool.not_false, ↓reduceIte, Bool.false_eq_true]; exact rfl) ?_)
     change pwp _ _ _ _ _)
    (repeat (with_reducible refine pwp_seq ?_))
    (refine pwp_cf rfl ?_)
    (refine pwp_exit ?_
     change pwp _ _ _ _ _)
    (refine region_0 (by simp only [List.map_cons, List.map_nil]; exact rfl) (runs_end (by simp only [tt_0, tt_1, tt_2, tt_3, tt_4, tt_5, tt_6, tt_7, pm_0, pm_1, pm_2, pm_3, pm_4, pm_5, pm_6, pm_7, e0P, gs, gm, initS, rb_int, rb_str, rb_sub, rb_dcl, rb_opr, rb_ints, rowsB_nil, rowsB_cons, bqtt, bqtf, bqft, bqff, List.map_cons, List.map_nil, List.getElem?_cons_zero, List.getElem?_cons_succ, List.getElem?_map, Option.map_some, Option.map_none, Option.join_some, Option.getD_some, Option.isNone_none, Option.isNone_some, Option.isSome_none, Option.isSome_some, List.drop_succ_cons, List.drop_zero, List.drop_nil, List.take_succ_cons, List.take_zero, List.length_cons, List.length_nil, List.length_map, List.length_append, List.all_cons, List.all_nil, List.isEmpty_cons, List.isEmpty_nil, List.cons_append, List.nil_append, List.append_nil, Bool.and_self, Bool.or_true, Bool.true_or, Bool.or_false, Bool.false_or, ↓reduceIte, Nat.reduceEqDiff, Nat.reduceAdd, Nat.reduceSub, Nat.reduceMul, Nat.reduceLeDiff, Nat.reduceBEq, Nat.zero_add, Nat.add_zero, and_self, true_and, and_true, Bool.not_true, Bool.not_false, Bool.false_eq_true, decide_true, decide_false, natInt, Int.natCast_nonneg, Int.toNat_zero, Int.toNat_one, Int.reduceLE, Int.reduceToNat, Int.reduceLT, Int.reduceEq, eq_self, Nat.le_refl, hwx]; exact rfl) (by simp only [trimS, Nat.testBit, Nat.reduceShiftRight, Nat.reduceAnd, Nat.reduceBneDiff, Nat.reduceBEq, bne, Bool.not_true, Bool.not_false, ↓reduceIte, Bool.false_eq_true]; exact rfl) ?_)
     exact ⟨x + 1, hx1, by simp [weakS, gs, encOpr, encAlg], by simp [weakM, gm, encOpr, encAlg], by omega⟩)
  have hyl' : ((y : Int) < a.size) := by omega
  have hY := inz hyl
  (repeat (with_reducible refine pwp_seq ?_))
  (refine region_0 (by simp only [List.map_cons, List.map_nil]; exact rfl) (runs_end (by simp only [tt_0, tt_1, tt_2, tt_3, tt_4, tt_5, tt_6, tt_7, pm_0, pm_1, pm_2, pm_3, pm_4, pm_5, pm_6, pm_7, e0P, gs, gm, initS, rb_int, rb_str, rb_sub, rb_dcl, rb_opr, rb_ints, rowsB_nil, rowsB_cons, bqtt, bqtf, bqft, bqff, List.map_cons, List.map_nil, List.getElem?_cons_zero, List.getElem?_cons_succ, List.getElem?_map, Option.map_some, Option.map_none, Option.join_some, Option.getD_some, Option.isNone_none, Option.isNone_some, Option.isSome_none, Option.isSome_some, List.drop_succ_cons, List.drop_zero, List.drop_nil, List.take_succ_cons, List.take_zero, List.length_cons, List.length_nil, List.length_map, List.length_append, List.all_cons, List.all_nil, List.isEmpty_cons, List.isEmpty_nil, List.cons_append, List.nil_append, List.append_nil, Bool.and_self, Bool.or_true, Bool.true_or, Bool.or_false, Bool.false_or, ↓reduceIte, Nat.reduceEqDiff, Nat.reduceAdd, Nat.reduceSub, Nat.reduceMul, Nat.reduceLeDiff, Nat.reduceBEq, Nat.zero_add, Nat.add_zero, and_self, true_and, and_true, Bool.not_true, Bool.not_false, Bool.false_eq_true, decide_true, decide_false, natInt, Int.natCast_nonneg, Int.toNat_zero, Int.toNat_one, Int.reduceLE, Int.reduceToNat, Int.reduceLT, Int.reduceEq, eq_self, Nat.le_refl, hyl']; exact rfl) (by simp only [trimS, Nat.testBit, Nat.reduceShiftRight, Nat.reduceAnd, Nat.reduceBneDiff, Nat.reduceBEq, bne, Bool.not_true, Bool.not_false, ↓reduceIte, Bool.false_eq_true]; exact rfl) ?_)
   change pwp _ _ _ _ _)
  (repeat (with_reducible refine pwp_seq ?_))
  (refine pwp_ct rfl ?_)
  (refine pwp_skip ?_
   change pwp _ _ _ _ _)
  (repeat (with_reducible refine pwp_seq ?_))
  refine pwp_block ?_
  refine pwp_seq ?_
  (refine region_0 (by simp only [List.map_cons, List.map_nil]; exact rfl) (runs_end (by simp only [tt_0, tt_1, tt_2, tt_3, tt_4, tt_5, tt_6, tt_7, pm_0, pm_1, pm_2, pm_3, pm_4, pm_5, pm_6, pm_7, e0P, gs, gm, initS, rb_int, rb_str, rb_sub, rb_dcl, rb_opr, rb_ints, rowsB_nil, rowsB_cons, bqtt, bqtf, bqft, bqff, List.map_cons, List.map_nil, List.getElem?_cons_zero, List.getElem?_cons_succ, List.getElem?_map, Option.map_some, Option.map_none, Option.join_some, Option.getD_some, Option.isNone_none, Option.isNone_some, Option.isSome_none, Option.isSome_some, List.drop_succ_cons, List.drop_zero, List.drop_nil, List.take_succ_cons, List.take_zero, List.length_cons, List.length_nil, List.length_map, List.length_append, List.all_cons, List.all_nil, List.isEmpty_cons, List.isEmpty_nil, List.cons_append, List.nil_append, List.append_nil, Bool.and_self, Bool.or_true, Bool.true_or, Bool.or_false, Bool.false_or, ↓reduceIte, Nat.reduceEqDiff, Nat.reduceAdd, Nat.reduceSub, Nat.reduceMul, Nat.reduceLeDiff, Nat.reduceBEq, Nat.zero_add, Nat.add_zero, and_self, true_and, and_true, Bool.not_true, Bool.not_false, Bool.false_eq_true, decide_true, decide_false, natInt, Int.natCast_nonneg, Int.toNat_zero, Int.toNat_one, Int.reduceLE, Int.reduceToNat, Int.reduceLT, Int.reduceEq, eq_self, Nat.le_refl, e0P]; exact rfl) (by simp only [trimS, Nat.testBit, Nat.reduceShiftRight, Nat.reduceAnd, Nat.reduceBneDiff, Nat.reduceBEq, bne, Bool.not_true, Bool.not_false, ↓reduceIte, Bool.false_eq_true]; exact rfl) ?_)
   change pwp _ _ _ _ _)
  refine pwp_to [(10, A.d (.one (.lit (.int .i64 y)))), (58, A.d (.one (.lit (.int .i64 y)))), (57, A.d (.one (.lit (.int .i64 a.size)))), (8, A.d (.one (.lit (.int .i64 x)))), (27, A.d (.one (.lit (.int .i64 x)))), (26, A.d (.one (.lit (.int .i64 a.size)))), (7, A.d (.one (.fn 51 [.ptr (encAlg a), .ptr [.lit (.int .i64 i)]]))), (6, .ref 6 0), (19, A.d (.one (.lit (.int .i64 i)))), (18, A.d (.one (.lit (.int .i64 g.ops.length)))), (17, A.d (.one (.sl (g.ops.map encOpr)))), (3, A.d (.one (.ptr (encAlg a))))] [(6, .var (encOpr o))] (o.comm = true → tw2 a i x y = tw2 a i y x) (fun hCM => ?_) ?_
  rotate_left
  · (repeat (with_reducible refine pwp_seq ?_))
    rcases Bool.eq_false_or_eq_true o.comm with hc | hc
    rotate_left
    · (refine region_0 (by simp only [List.map_cons, List.map_nil]; exact rfl) (runs_end (by simp only [tt_0, tt_1, tt_2, tt_3, tt_4, tt_5, tt_6, tt_7, pm_0, pm_1, pm_2, pm_3, pm_4, pm_5, pm_6, pm_7, e0P, gs, gm, initS, rb_int, rb_str, rb_sub, rb_dcl, rb_opr, rb_ints, rowsB_nil, rowsB_cons, bqtt, bqtf, bqft, bqff, List.map_cons, List.map_nil, List.getElem?_cons_zero, List.getElem?_cons_succ, List.getElem?_map, Option.map_some, Option.map_none, Option.join_some, Option.getD_some, Option.isNone_none, Option.isNone_some, Option.isSome_none, Option.isSome_some, List.drop_succ_cons, List.drop_zero, List.drop_nil, List.take_succ_cons, List.take_zero, List.length_cons, List.length_nil, List.length_map, List.length_append, List.all_cons, List.all_nil, List.isEmpty_cons, List.isEmpty_nil, List.cons_append, List.nil_append, List.append_nil, Bool.and_self, Bool.or_true, Bool.true_or, Bool.or_false, Bool.false_or, ↓reduceIte, Nat.reduceEqDiff, Nat.reduceAdd, Nat.reduceSub, Nat.reduceMul, Nat.reduceLeDiff, Nat.reduceBEq, Nat.zero_add, Nat.add_zero, and_self, true_and, and_true, Bool.not_true, Bool.not_false, Bool.false_eq_true, decide_true, decide_false, natInt, Int.natCast_nonneg, Int.toNat_zero, Int.toNat_one, Int.reduceLE, Int.reduceToNat, Int.reduceLT, Int.reduceEq, eq_self, Nat.le_refl, encOpr, hc]; exact rfl) (by simp only [trimS, Nat.testBit, Nat.reduceShiftRight, Nat.reduceAnd, Nat.reduceBneDiff, Nat.reduceBEq, bne, Bool.not_true, Bool.not_false, ↓reduceIte, Bool.false_eq_true]; exact rfl) ?_)
       change pwp _ _ _ _ _)
      (refine pwp_cf rfl ?_)
      (refine pwp_skip ?_
       exact ⟨by simp [weakS, gs, encOpr, encAlg, hc], by simp [weakM, gm, encOpr, encAlg, hc], fun h => by simp [hc] at h⟩)
    have ht := hAt.tab (.inr (.inl hc))
    have c1 := con_implTwo ht hX hY
    have c2 := con_implTwo ht hY hX
    rw [encAlg] at c1 c2
    (refine region_0 (by simp only [List.map_cons, List.map_nil]; exact rfl) ?_)
    (refine runs_go (by simp only [tt_0, tt_1, tt_2, tt_3, tt_4, tt_5, tt_6, tt_7, pm_0, pm_1, pm_2, pm_3, pm_4, pm_5, pm_6, pm_7, e0P, gs, gm, initS, rb_int, rb_str, rb_sub, rb_dcl, rb_opr, rb_ints, rowsB_nil, rowsB_cons, bqtt, bqtf, bqft, bqff, List.map_cons, List.map_nil, List.getElem?_cons_zero, List.getElem?_cons_succ, List.getElem?_map, Option.map_some, Option.map_none, Option.join_some, Option.getD_some, Option.isNone_none, Option.isNone_some, Option.isSome_none, Option.isSome_some, List.drop_succ_cons, List.drop_zero, List.drop_nil, List.take_succ_cons, List.take_zero, List.length_cons, List.length_nil, List.length_map, List.length_append, List.all_cons, List.all_nil, List.isEmpty_cons, List.isEmpty_nil, List.cons_append, List.nil_append, List.append_nil, Bool.and_self, Bool.or_true, Bool.true_or, Bool.or_false, Bool.false_or, ↓reduceIte, Nat.reduceEqDiff, Nat.reduceAdd, Nat.reduceSub, Nat.reduceMul, Nat.reduceLeDiff, Nat.reduceBEq, Nat.zero_add, Nat.add_zero, and_self, true_and, and_true, Bool.not_true, Bool.not_false, Bool.false_eq_true, decide_true, decide_false, natInt, Int.natCast_nonneg, Int.toNat_zero, Int.toNat_one, Int.reduceLE, Int.reduceToNat, Int.reduceLT, Int.reduceEq, eq_self, Nat.le_refl, encAlg, encOpr, hc]; exact rfl) (by simp only [tt_0, tt_1, tt_2, tt_3, tt_4, tt_5, tt_6, tt_7, pm_0, pm_1, pm_2, pm_3, pm_4, pm_5, pm_6, pm_7, e0P, gs, gm, initS, rb_int, rb_str, rb_sub, rb_dcl, rb_opr, rb_ints, rowsB_nil, rowsB_cons, bqtt, bqtf, bqft, bqff, List.map_cons, List.map_nil, List.getElem?_cons_zero, List.getElem?_cons_succ, List.getElem?_map, Option.map_some, Option.map_none, Option.join_some, Option.getD_some, Option.isNone_none, Option.isNone_some, Option.isSome_none, Option.isSome_some, List.drop_succ_cons, List.drop_zero, List.drop_nil, List.take_succ_cons, List.take_zero, List.length_cons, List.length_nil, List.length_map, List.length_append, List.all_cons, List.all_nil, List.isEmpty_cons, List.isEmpty_nil, List.cons_append, List.nil_append, List.append_nil, Bool.and_self, Bool.or_true, Bool.true_or, Bool.or_false, Bool.false_or, ↓reduceIte, Nat.reduceEqDiff, Nat.reduceAdd, Nat.reduceSub, Nat.reduceMul, Nat.reduceLeDiff, Nat.reduceBEq, Nat.zero_add, Nat.add_zero, and_self, true_and, and_true, Bool.not_true, Bool.not_false, Bool.false_eq_true, decide_true, decide_false, natInt, Int.natCast_nonneg, Int.toNat_zero, Int.toNat_one, Int.reduceLE, Int.reduceToNat, Int.reduceLT, Int.reduceEq, eq_self, Nat.le_refl, encAlg, encOpr, hc]; exact rfl) (c1) (by simp only [setA, retA]; exact rfl) ?_)
    (refine runs_go (by simp only [tt_0, tt_1, tt_2, tt_3, tt_4, tt_5, tt_6, tt_7, pm_0, pm_1, pm_2, pm_3, pm_4, pm_5, pm_6, pm_7, e0P, gs, gm, initS, rb_int, rb_str, rb_sub, rb_dcl, rb_opr, rb_ints, rowsB_nil, rowsB_cons, bqtt, bqtf, bqft, bqff, List.map_cons, List.map_nil, List.getElem?_cons_zero, List.getElem?_cons_succ, List.getElem?_map, Option.map_some, Option.map_none, Option.join_some, Option.getD_some, Option.isNone_none, Option.isNone_some, Option.isSome_none, Option.isSome_some, List.drop_succ_cons, List.drop_zero, List.drop_nil, List.take_succ_cons, List.take_zero, List.length_cons, List.length_nil, List.length_map, List.length_append, List.all_cons, List.all_nil, List.isEmpty_cons, List.isEmpty_nil, List.cons_append, List.nil_append, List.append_nil, Bool.and_self, Bool.or_true, Bool.true_or, Bool.or_false, Bool.false_or, ↓reduceIte, Nat.reduceEqDiff, Nat.reduceAdd, Nat.reduceSub, Nat.reduceMul, Nat.reduceLeDiff, Nat.reduceBEq, Nat.zero_add, Nat.add_zero, and_self, true_and, and_true, Bool.not_true, Bool.not_false, Bool.false_eq_true, decide_true, decide_false, natInt, Int.natCast_nonneg, Int.toNat_zero, Int.toNat_one, Int.reduceLE, Int.reduceToNat, Int.reduceLT, Int.reduceEq, eq_self, Nat.le_refl, encAlg, encOpr, hc]; exact rfl) (by simp only [tt_0, tt_1, tt_2, tt_3, tt_4, tt_5, tt_6, tt_7, pm_0, pm_1, pm_2, pm_3, pm_4, pm_5, pm_6, pm_7, e0P, gs, gm, initS, rb_int, rb_str, rb_sub, rb_dcl, rb_opr, rb_ints, rowsB_nil, rowsB_cons, bqtt, bqtf, bqft, bqff, List.map_cons, List.map_nil, List.getElem?_cons_zero, List.getElem?_cons_succ, List.getElem?_map, Option.map_some, Option.map_none, Option.join_some, Option.getD_some, Option.isNone_none, Option.isNone_some, Option.isSome_none, Option.isSome_some, List.drop_succ_cons, List.drop_zero, List.drop_nil, List.take_succ_cons, List.take_zero, List.length_cons, List.length_nil, List.length_map, List.length_append, List.all_cons, List.all_nil, List.isEmpty_cons, List.isEmpty_nil, List.cons_append, List.nil_append, List.append_nil, Bool.and_self, Bool.or_true, Bool.true_or, Bool.or_false, Bool.false_or, ↓reduceIte, Nat.reduceEqDiff, Nat.reduceAdd, Nat.reduceSub, Nat.reduceMul, Nat.reduceLeDiff, Nat.reduceBEq, Nat.zero_add, Nat.add_zero, and_self, true_and, and_true, Bool.not_true, Bool.not_false, Bool.false_eq_true, decide_true, decide_false, natInt, Int.natCast_nonneg, Int.toNat_zero, Int.toNat_one, Int.reduceLE, Int.reduceToNat, Int.reduceLT, Int.reduceEq, eq_self, Nat.le_refl, encAlg, encOpr, hc]; exact rfl) (c2) (by simp only [setA, retA]; exact rfl) ?_)
    by_cases h1 : tw2 a i x y = tw2 a i y x
    · (refine runs_end (by simp only [tt_0, tt_1, tt_2, tt_3, tt_4, tt_5, tt_6, tt_7, pm_0, pm_1, pm_2, pm_3, pm_4, pm_5, pm_6, pm_7, e0P, gs, gm, initS, rb_int, rb_str, rb_sub, rb_dcl, rb_opr, rb_ints, rowsB_nil, rowsB_cons, bqtt, bqtf, bqft, bqff, List.map_cons, List.map_nil, List.getElem?_cons_zero, List.getElem?_cons_succ, List.getElem?_map, Option.map_some, Option.map_none, Option.join_some, Option.getD_some, Option.isNone_none, Option.isNone_some, Option.isSome_none, Option.isSome_some, List.drop_succ_cons, List.drop_zero, List.drop_nil, List.take_succ_cons, List.take_zero, List.length_cons, List.length_nil, List.length_map, List.length_append, List.all_cons, List.all_nil, List.isEmpty_cons, List.isEmpty_nil, List.cons_append, List.nil_append, List.append_nil, Bool.and_self, Bool.or_true, Bool.true_or, Bool.or_false, Bool.false_or, ↓reduceIte, Nat.reduceEqDiff, Nat.reduceAdd, Nat.reduceSub, Nat.reduceMul, Nat.reduceLeDiff, Nat.reduceBEq, Nat.zero_add, Nat.add_zero, and_self, true_and, and_true, Bool.not_true, Bool.not_false, Bool.false_eq_true, decide_true, decide_false, natInt, Int.natCast_nonneg, Int.toNat_zero, Int.toNat_one, Int.reduceLE, Int.reduceToNat, Int.reduceLT, Int.reduceEq, eq_self, Nat.le_refl, h1, hc]; exact rfl) (by simp only [trimS, Nat.testBit, Nat.reduceShiftRight, Nat.reduceAnd, Nat.reduceBneDiff, Nat.reduceBEq, bne, Bool.not_true, Bool.not_false, ↓reduceIte, Bool.false_eq_true]; exact rfl) ?_
       change pwp _ _ _ _ _)
      (refine pwp_cf rfl ?_)
      (refine pwp_skip ?_
       exact ⟨by simp [weakS, gs, encOpr, encAlg, hc], by simp [weakM, gm, encOpr, encAlg, hc], fun _ => h1⟩)
    · have hf := hno fun hO => h1 (hO.comm hc x y hX hY)
      (refine runs_end (by simp only [tt_0, tt_1, tt_2, tt_3, tt_4, tt_5, tt_6, tt_7, pm_0, pm_1, pm_2, pm_3, pm_4, pm_5, pm_6, pm_7, e0P, gs, gm, initS, rb_int, rb_str, rb_sub, rb_dcl, rb_opr, rb_ints, rowsB_nil, rowsB_cons, bqtt, bqtf, bqft, bqff, List.map_cons, List.map_nil, List.getElem?_cons_zero, List.getElem?_cons_succ, List.getElem?_map, Option.map_some, Option.map_none, Option.join_some, Option.getD_some, Option.isNone_none, Option.isNone_some, Option.isSome_none, Option.isSome_some, List.drop_succ_cons, List.drop_zero, List.drop_nil, List.take_succ_cons, List.take_zero, List.length_cons, List.length_nil, List.length_map, List.length_append, List.all_cons, List.all_nil, List.isEmpty_cons, List.isEmpty_nil, List.cons_append, List.nil_append, List.append_nil, Bool.and_self, Bool.or_true, Bool.true_or, Bool.or_false, Bool.false_or, ↓reduceIte, Nat.reduceEqDiff, Nat.reduceAdd, Nat.reduceSub, Nat.reduceMul, Nat.reduceLeDiff, Nat.reduceBEq, Nat.zero_add, Nat.add_zero, and_self, true_and, and_true, Bool.not_true, Bool.not_false, Bool.false_eq_true, decide_true, decide_false, natInt, Int.natCast_nonneg, Int.toNat_zero, Int.toNat_one, Int.reduceLE, Int.reduceToNat, Int.reduceLT, Int.reduceEq, eq_self, Nat.le_refl, h1, hc]; exact rfl) (by simp only [trimS, Nat.testBit, Nat.reduceShiftRight, Nat.reduceAnd, Nat.reduceBneDiff, Nat.reduceBEq, bne, Bool.not_true, Bool.not_false, ↓reduceIte, Bool.false_eq_true]; exact rfl) ?_
       change pwp _ _ _ _ _)
      (refine pwp_ct rfl ?_)
      ((repeat (with_reducible refine pwp_seq ?_))
       (refine region_0 (by simp only [List.map_cons, List.map_nil]; exact rfl) (runs_end (by simp only [tt_0, tt_1, tt_2, tt_3, tt_4, tt_5, tt_6, tt_7, pm_0, pm_1, pm_2, pm_3, pm_4, pm_5, pm_6, pm_7, e0P, gs, gm, initS, rb_int, rb_str, rb_sub, rb_dcl, rb_opr, rb_ints, rowsB_nil, rowsB_cons, bqtt, bqtf, bqft, bqff, List.map_cons, List.map_nil, List.getElem?_cons_zero, List.getElem?_cons_succ, List.getElem?_map, Option.map_some, Option.map_none, Option.join_some, Option.getD_some, Option.isNone_none, Option.isNone_some, Option.isSome_none, Option.isSome_some, List.drop_succ_cons, List.drop_zero, List.drop_nil, List.take_succ_cons, List.take_zero, List.length_cons, List.length_nil, List.length_map, List.length_append, List.all_cons, List.all_nil, List.isEmpty_cons, List.isEmpty_nil, List.cons_append, List.nil_append, List.append_nil, Bool.and_self, Bool.or_true, Bool.true_or, Bool.or_false, Bool.false_or, ↓reduceIte, Nat.reduceEqDiff, Nat.reduceAdd, Nat.reduceSub, Nat.reduceMul, Nat.reduceLeDiff, Nat.reduceBEq, Nat.zero_add, Nat.add_zero, and_self, true_and, and_true, Bool.not_true, Bool.not_false, Bool.false_eq_true, decide_true, decide_false, natInt, Int.natCast_nonneg, Int.toNat_zero, Int.toNat_one, Int.reduceLE, Int.reduceToNat, Int.reduceLT, Int.reduceEq, eq_self, Nat.le_refl, e0P]; exact rfl) (by simp only [trimS, Nat.testBit, Nat.reduceShiftRight, Nat.reduceAnd, Nat.reduceBneDiff, Nat.reduceBEq, bne, Bool.not_true, Bool.not_false, ↓reduceIte, Bool.false_eq_true]; exact rfl) ?_)
        change pwp _ _ _ _ _)
       (refine pwp_ret (ret_ok ?_))
       simp [resOk, resA, resSlots, gs, hf])
  (repeat (with_reducible refine pwp_seq ?_))
  (refine region_0 (by simp only [List.map_cons, List.map_nil]; exact rfl) (runs_end (by simp only [tt_0, tt_1, tt_2, tt_3, tt_4, tt_5, tt_6, tt_7, pm_0, pm_1, pm_2, pm_3, pm_4, pm_5, pm_6, pm_7, e0P, gs, gm, initS, rb_int, rb_str, rb_sub, rb_dcl, rb_opr, rb_ints, rowsB_nil, rowsB_cons, bqtt, bqtf, bqft, bqff, List.map_cons, List.map_nil, List.getElem?_cons_zero, List.getElem?_cons_succ, List.getElem?_map, Option.map_some, Option.map_none, Option.join_some, Option.getD_some, Option.isNone_none, Option.isNone_some, Option.isSome_none, Option.isSome_some, List.drop_succ_cons, List.drop_zero, List.drop_nil, List.take_succ_cons, List.take_zero, List.length_cons, List.length_nil, List.length_map, List.length_append, List.all_cons, List.all_nil, List.isEmpty_cons, List.isEmpty_nil, List.cons_append, List.nil_append, List.append_nil, Bool.and_self, Bool.or_true, Bool.true_or, Bool.or_false, Bool.false_or, ↓reduceIte, Nat.reduceEqDiff, Nat.reduceAdd, Nat.reduceSub, Nat.reduceMul, Nat.reduceLeDiff, Nat.reduceBEq, Nat.zero_add, Nat.add_zero, and_self, true_and, and_true, Bool.not_true, Bool.not_false, Bool.false_eq_true, decide_true, decide_false, natInt, Int.natCast_nonneg, Int.toNat_zero, Int.toNat_one, Int.reduceLE, Int.reduceToNat, Int.reduceLT, Int.reduceEq, eq_self, Nat.le_refl, encAlg]; exact rfl) (by simp only [trimS, Nat.testBit, Nat.reduceShiftRight, Nat.reduceAnd, Nat.reduceBneDiff, Nat.reduceBEq, bne, Bool.not_true, Bool.not_false, ↓reduceIte, Bool.false_eq_true]; exact rfl) ?_)
   change pwp _ _ _ _ _)
  refine pwp_block ?_
  refine pwp_loop (ι := Nat) (fun z => ⟨[(76, A.d (.one (.lit (.int .i64 z)))), (75, A.d (.one (.lit (.int .i64 a.size)))), (10, A.d (.one (.lit (.int .i64 y)))), (58, A.d (.one (.lit (.int .i64 y)))), (57, A.d (.one (.lit (.int .i64 a.size)))), (8, A.d (.one (.lit (.int .i64 x)))), (27, A.d (.one (.lit (.int .i64 x)))), (26, A.d (.one (.lit (.int .i64 a.size)))), (7, A.d (.one (.fn 51 [.ptr (encAlg a), .ptr [.lit (.int .i64 i)]]))), (6, .ref 6 0), (19, A.d (.one (.lit (.int .i64 i)))), (18, A.d (.one (.lit (.int .i64 g.ops.length)))), (17, A.d (.one (.sl (g.ops.map encOpr)))), (3, A.d (.one (.ptr (encAlg a))))], [(6, .var (encOpr o))]⟩)
    (fun z => z ≤ n ∧ (o.assoc = true → ∀ (z' : Nat), z' < z → tw2 a i (tw2 a i x y) z' = tw2 a i x (tw2 a i y z'))) (fun z => n - z) 0 ⟨by omega, fun _ z' h => absurd h (by omega)⟩ (by simp [weakS, gs, encAlg]) (by simp [weakM, gm, encOpr]) fun z hz => ?_
  obtain ⟨hzn, hallz⟩ := hz
  have hwz := wrap1 (k := z) (by omega)
  by_cases hzl : z < n
  rotate_left
  · have hzl' : ¬ ((z : Int) < a.size) := by omega
    have hy1 : y + 1 ≤ n ∧ (∀ (y' : Nat), y' < y + 1 → (o.comm = true → tw2 a i x y' = tw2 a i y' x) ∧ (o.assoc = true → ∀ (z : Nat), z < n → tw2 a i (tw2 a i x y') z = tw2 a i x (tw2 a i y' z))) := ⟨by omega, fun y' hy' => by
      by_cases e : y' = y
      · subst e; exact ⟨hCM, fun ha z' hz' => hallz ha z' (by omega)⟩
      · exact hally y' (by omega)⟩
    (repeat (with_reducible refine pwp_seq ?_))
    (refine region_0 (by simp only [List.map_cons, List.map_nil]; exact rfl) (runs_end (by simp only [tt_0, tt_1, tt_2, tt_3, tt_4, tt_5, tt_6, tt_7, pm_0, pm_1, pm_2, pm_3, pm_4, pm_5, pm_6, pm_7, e0P, gs, gm, initS, rb_int, rb_str, rb_sub, rb_dcl, rb_opr, rb_ints, rowsB_nil, rowsB_cons, bqtt, bqtf, bqft, bqff, List.map_cons, List.map_nil, List.getElem?_cons_zero, List.getElem?_cons_succ, List.getElem?_map, Option.map_some, Option.map_none, Option.join_some, Option.getD_some, Option.isNone_none, Option.isNone_some, Option.isSome_none, Option.isSome_some, List.drop_succ_cons, List.drop_zero, List.drop_nil, List.take_succ_cons, List.take_zero, List.length_cons, List.length_nil, List.length_map, List.length_append, List.all_cons, List.all_nil, List.isEmpty_cons, List.isEmpty_nil, List.cons_append, List.nil_append, List.append_nil, Bool.and_self, Bool.or_true, Bool.true_or, Bool.or_false, Bool.false_or, ↓reduceIte, Nat.reduceEqDiff, Nat.reduceAdd, Nat.reduceSub, Nat.reduceMul, Nat.reduceLeDiff, Nat.reduceBEq, Nat.zero_add, Nat.add_zero, and_self, true_and, and_true, Bool.not_true, Bool.not_false, Bool.false_eq_true, decide_true, decide_false, natInt, Int.natCast_nonneg, Int.toNat_zero, Int.toNat_one, Int.reduceLE, Int.reduceToNat, Int.reduceLT, Int.reduceEq, eq_self, Nat.le_refl, hzl']; exact rfl) (by simp only [trimS, Nat.testBit, Nat.reduceShiftRight, Nat.reduceAnd, Nat.reduceBneDiff, Nat.reduceBEq, bne, Bool.not_true, Bool.not_false, ↓reduceIte, Bool.false_eq_true]; exact rfl) ?_)
     change pwp _ _ _ _ _)
    (repeat (with_reducible refine pwp_seq ?_))
    (refine pwp_cf rfl ?_)
    (refine pwp_exit ?_
     change pwp _ _ _ _ _)
    (refine region_0 (by simp only [List.map_cons, List.map_nil]; exact rfl) (runs_end (by simp only [tt_0, tt_1, tt_2, tt_3, tt_4, tt_5, tt_6, tt_7, pm_0, pm_1, pm_2, pm_3, pm_4, pm_5, pm_6, pm_7, e0P, gs, gm, initS, rb_int, rb_str, rb_sub, rb_dcl, rb_opr, rb_ints, rowsB_nil, rowsB_cons, bqtt, bqtf, bqft, bqff, List.map_cons, List.map_nil, List.getElem?_cons_zero, List.getElem?_cons_succ, List.getElem?_map, Option.map_some, Option.map_none, Option.join_some, Option.getD_some, Option.isNone_none, Option.isNone_some, Option.isSome_none, Option.isSome_some, List.drop_succ_cons, List.drop_zero, List.drop_nil, List.take_succ_cons, List.take_zero, List.length_cons, List.length_nil, List.length_map, List.length_append, List.all_cons, List.all_nil, List.isEmpty_cons, List.isEmpty_nil, List.cons_append, List.nil_append, List.append_nil, Bool.and_self, Bool.or_true, Bool.true_or, Bool.or_false, Bool.false_or, ↓reduceIte, Nat.reduceEqDiff, Nat.reduceAdd, Nat.reduceSub, Nat.reduceMul, Nat.reduceLeDiff, Nat.reduceBEq, Nat.zero_add, Nat.add_zero, and_self, true_and, and_true, Bool.not_true, Bool.not_false, Bool.false_eq_true, decide_true, decide_false, natInt, Int.natCast_nonneg, Int.toNat_zero, Int.toNat_one, Int.reduceLE, Int.reduceToNat, Int.reduceLT, Int.reduceEq, eq_self, Nat.le_refl, hwy]; exact rfl) (by simp only [trimS, Nat.testBit, Nat.reduceShiftRight, Nat.reduceAnd, Nat.reduceBneDiff, Nat.reduceBEq, bne, Bool.not_true, Bool.not_false, ↓reduceIte, Bool.false_eq_true]; exact rfl) ?_)
     exact ⟨y + 1, hy1, by simp [weakS, gs, encOpr, encAlg], by simp [weakM, gm, encOpr, encAlg], by omega⟩)
  have hzl' : ((z : Int) < a.size) := by omega
  have hZ := inz hzl
  have hz1 : (o.assoc = true → tw2 a i (tw2 a i x y) z = tw2 a i x (tw2 a i y z)) → z + 1 ≤ n ∧ (o.assoc = true → ∀ (z' : Nat), z' < z + 1 → tw2 a i (tw2 a i x y) z' = tw2 a i x (tw2 a i y z')) := fun h => ⟨by omega, fun ha z' hz' => by
    by_cases e : z' = z
    · subst e; exact h ha
    · exact hallz ha z' (by omega)⟩
  (repeat (with_reducible refine pwp_seq ?_))
  (refine region_0 (by simp only [List.map_cons, List.map_nil]; exact rfl) (runs_end (by simp only [tt_0, tt_1, tt_2, tt_3, tt_4, tt_5, tt_6, tt_7, pm_0, pm_1, pm_2, pm_3, pm_4, pm_5, pm_6, pm_7, e0P, gs, gm, initS, rb_int, rb_str, rb_sub, rb_dcl, rb_opr, rb_ints, rowsB_nil, rowsB_cons, bqtt, bqtf, bqft, bqff, List.map_cons, List.map_nil, List.getElem?_cons_zero, List.getElem?_cons_succ, List.getElem?_map, Option.map_some, Option.map_none, Option.join_some, Option.getD_some, Option.isNone_none, Option.isNone_some, Option.isSome_none, Option.isSome_some, List.drop_succ_cons, List.drop_zero, List.drop_nil, List.take_succ_cons, List.take_zero, List.length_cons, List.length_nil, List.length_map, List.length_append, List.all_cons, List.all_nil, List.isEmpty_cons, List.isEmpty_nil, List.cons_append, List.nil_append, List.append_nil, Bool.and_self, Bool.or_true, Bool.true_or, Bool.or_false, Bool.false_or, ↓reduceIte, Nat.reduceEqDiff, Nat.reduceAdd, Nat.reduceSub, Nat.reduceMul, Nat.reduceLeDiff, Nat.reduceBEq, Nat.zero_add, Nat.add_zero, and_self, true_and, and_true, Bool.not_true, Bool.not_false, Bool.false_eq_true, decide_true, decide_false, natInt, Int.natCast_nonneg, Int.toNat_zero, Int.toNat_one, Int.reduceLE, Int.reduceToNat, Int.reduceLT, Int.reduceEq, eq_self, Nat.le_refl, hzl']; exact rfl) (by simp only [trimS, Nat.testBit, Nat.reduceShiftRight, Nat.reduceAnd, Nat.reduceBneDiff, Nat.reduceBEq, bne, Bool.not_true, Bool.not_false, ↓reduceIte, Bool.false_eq_true]; exact rfl) ?_)
   change pwp _ _ _ _ _)
  (repeat (with_reducible refine pwp_seq ?_))
  (refine pwp_ct rfl ?_)
  (refine pwp_skip ?_
   change pwp _ _ _ _ _)
  (repeat (with_reducible refine pwp_seq ?_))
  refine pwp_block ?_
  (repeat (with_reducible refine pwp_seq ?_))
  (refine region_0 (by simp only [List.map_cons, List.map_nil]; exact rfl) (runs_end (by simp only [tt_0, tt_1, tt_2, tt_3, tt_4, tt_5, tt_6, tt_7, pm_0, pm_1, pm_2, pm_3, pm_4, pm_5, pm_6, pm_7, e0P, gs, gm, initS, rb_int, rb_str, rb_sub, rb_dcl, rb_opr, rb_ints, rowsB_nil, rowsB_cons, bqtt, bqtf, bqft, bqff, List.map_cons, List.map_nil, List.getElem?_cons_zero, List.getElem?_cons_succ, List.getElem?_map, Option.map_some, Option.map_none, Option.join_some, Option.getD_some, Option.isNone_none, Option.isNone_some, Option.isSome_none, Option.isSome_some, List.drop_succ_cons, List.drop_zero, List.drop_nil, List.take_succ_cons, List.take_zero, List.length_cons, List.length_nil, List.length_map, List.length_append, List.all_cons, List.all_nil, List.isEmpty_cons, List.isEmpty_nil, List.cons_append, List.nil_append, List.append_nil, Bool.and_self, Bool.or_true, Bool.true_or, Bool.or_false, Bool.false_or, ↓reduceIte, Nat.reduceEqDiff, Nat.reduceAdd, Nat.reduceSub, Nat.reduceMul, Nat.reduceLeDiff, Nat.reduceBEq, Nat.zero_add, Nat.add_zero, and_self, true_and, and_true, Bool.not_true, Bool.not_false, Bool.false_eq_true, decide_true, decide_false, natInt, Int.natCast_nonneg, Int.toNat_zero, Int.toNat_one, Int.reduceLE, Int.reduceToNat, Int.reduceLT, Int.reduceEq, eq_self, Nat.le_refl, e0P]; exact rfl) (by simp only [trimS, Nat.testBit, Nat.reduceShiftRight, Nat.reduceAnd, Nat.reduceBneDiff, Nat.reduceBEq, bne, Bool.not_true, Bool.not_false, ↓reduceIte, Bool.false_eq_true]; exact rfl) ?_)
   change pwp _ _ _ _ _)
  (repeat (with_reducible refine pwp_seq ?_))
  rcases Bool.eq_false_or_eq_true o.assoc with ha | ha
  rotate_left
  · have hz2 := hz1 (fun h => by simp [ha] at h)
    (refine region_0 (by simp only [List.map_cons, List.map_nil]; exact rfl) (runs_end (by simp only [tt_0, tt_1, tt_2, tt_3, tt_4, tt_5, tt_6, tt_7, pm_0, pm_1, pm_2, pm_3, pm_4, pm_5, pm_6, pm_7, e0P, gs, gm, initS, rb_int, rb_str, rb_sub, rb_dcl, rb_opr, rb_ints, rowsB_nil, rowsB_cons, bqtt, bqtf, bqft, bqff, List.map_cons, List.map_nil, List.getElem?_cons_zero, List.getElem?_cons_succ, List.getElem?_map, Option.map_some, Option.map_none, Option.join_some, Option.getD_some, Option.isNone_none, Option.isNone_some, Option.isSome_none, Option.isSome_some, List.drop_succ_cons, List.drop_zero, List.drop_nil, List.take_succ_cons, List.take_zero, List.length_cons, List.length_nil, List.length_map, List.length_append, List.all_cons, List.all_nil, List.isEmpty_cons, List.isEmpty_nil, List.cons_append, List.nil_append, List.append_nil, Bool.and_self, Bool.or_true, Bool.true_or, Bool.or_false, Bool.false_or, ↓reduceIte, Nat.reduceEqDiff, Nat.reduceAdd, Nat.reduceSub, Nat.reduceMul, Nat.reduceLeDiff, Nat.reduceBEq, Nat.zero_add, Nat.add_zero, and_self, true_and, and_true, Bool.not_true, Bool.not_false, Bool.false_eq_true, decide_true, decide_false, natInt, Int.natCast_nonneg, Int.toNat_zero, Int.toNat_one, Int.reduceLE, Int.reduceToNat, Int.reduceLT, Int.reduceEq, eq_self, Nat.le_refl, encOpr, ha]; exact rfl) (by simp only [trimS, Nat.testBit, Nat.reduceShiftRight, Nat.reduceAnd, Nat.reduceBneDiff, Nat.reduceBEq, bne, Bool.not_true, Bool.not_false, ↓reduceIte, Bool.false_eq_true]; exact rfl) ?_)
     change pwp _ _ _ _ _)
    (refine pwp_cf rfl ?_)
    (refine pwp_skip ?_
     change pwp _ _ _ _ _)
    (refine region_0 (by simp only [List.map_cons, List.map_nil]; exact rfl) (runs_end (by simp only [tt_0, tt_1, tt_2, tt_3, tt_4, tt_5, tt_6, tt_7, pm_0, pm_1, pm_2, pm_3, pm_4, pm_5, pm_6, pm_7, e0P, gs, gm, initS, rb_int, rb_str, rb_sub, rb_dcl, rb_opr, rb_ints, rowsB_nil, rowsB_cons, bqtt, bqtf, bqft, bqff, List.map_cons, List.map_nil, List.getElem?_cons_zero, List.getElem?_cons_succ, List.getElem?_map, Option.map_some, Option.map_none, Option.join_some, Option.getD_some, Option.isNone_none, Option.isNone_some, Option.isSome_none, Option.isSome_some, List.drop_succ_cons, List.drop_zero, List.drop_nil, List.take_succ_cons, List.take_zero, List.length_cons, List.length_nil, List.length_map, List.length_append, List.all_cons, List.all_nil, List.isEmpty_cons, List.isEmpty_nil, List.cons_append, List.nil_append, List.append_nil, Bool.and_self, Bool.or_true, Bool.true_or, Bool.or_false, Bool.false_or, ↓reduceIte, Nat.reduceEqDiff, Nat.reduceAdd, Nat.reduceSub, Nat.reduceMul, Nat.reduceLeDiff, Nat.reduceBEq, Nat.zero_add, Nat.add_zero, and_self, true_and, and_true, Bool.not_true, Bool.not_false, Bool.false_eq_true, decide_true, decide_false, natInt, Int.natCast_nonneg, Int.toNat_zero, Int.toNat_one, Int.reduceLE, Int.reduceToNat, Int.reduceLT, Int.reduceEq, eq_self, Nat.le_refl, hwz]; exact rfl) (by simp only [trimS, Nat.testBit, Nat.reduceShiftRight, Nat.reduceAnd, Nat.reduceBneDiff, Nat.reduceBEq, bne, Bool.not_true, Bool.not_false, ↓reduceIte, Bool.false_eq_true]; exact rfl) ?_)
     exact ⟨z + 1, hz2, by simp [weakS, gs, encOpr, encAlg, ha], by simp [weakM, gm, encOpr, encAlg, ha], by omega⟩)
  have ht := hAt.tab (.inl ha)
  obtain ⟨_, _, _, _, _, _, hXY⟩ := ht.get hX hY
  obtain ⟨_, _, _, _, _, _, hYZ⟩ := ht.get hY hZ
  have c1 := con_implTwo ht hX hY
  have c3 := con_implTwo ht hXY hZ
  have c4 := con_implTwo ht hY hZ
  have c5 := con_implTwo ht hX hYZ
  rw [encAlg] at c1 c3 c4 c5
  (refine region_0 (by simp only [List.map_cons, List.map_nil]; exact rfl) ?_)
  (refine runs_go (by simp only [tt_0, tt_1, tt_2, tt_3, tt_4, tt_5, tt_6, tt_7, pm_0, pm_1, pm_2, pm_3, pm_4, pm_5, pm_6, pm_7, e0P, gs, gm, initS, rb_int, rb_str, rb_sub, rb_dcl, rb_opr, rb_ints, rowsB_nil, rowsB_cons, bqtt, bqtf, bqft, bqff, List.map_cons, List.map_nil, List.getElem?_cons_zero, List.getElem?_cons_succ, List.getElem?_map, Option.map_some, Option.map_none, Option.join_some, Option.getD_some, Option.isNone_none, Option.isNone_some, Option.isSome_none, Option.isSome_some, List.drop_succ_cons, List.drop_zero, List.drop_nil, List.take_succ_cons, List.take_zero, List.length_cons, List.length_nil, List.length_map, List.length_append, List.all_cons, List.all_nil, List.isEmpty_cons, List.isEmpty_nil, List.cons_append, List.nil_append, List.append_nil, Bool.and_self, Bool.or_true, Bool.true_or, Bool.or_false, Bool.false_or, ↓reduceIte, Nat.reduceEqDiff, Nat.reduceAdd, Nat.reduceSub, Nat.reduceMul, Nat.reduceLeDiff, Nat.reduceBEq, Nat.zero_add, Nat.add_zero, and_self, true_and, and_true, Bool.not_true, Bool.not_false, Bool.false_eq_true, decide_true, decide_false, natInt, Int.natCast_nonneg, Int.toNat_zero, Int.toNat_one, Int.reduceLE, Int.reduceToNat, Int.reduceLT, Int.reduceEq, eq_self, Nat.le_refl, encAlg, encOpr, ha]; exact rfl) (by simp only [tt_0, tt_1, tt_2, tt_3, tt_4, tt_5, tt_6, tt_7, pm_0, pm_1, pm_2, pm_3, pm_4, pm_5, pm_6, pm_7, e0P, gs, gm, initS, rb_int, rb_str, rb_sub, rb_dcl, rb_opr, rb_ints, rowsB_nil, rowsB_cons, bqtt, bqtf, bqft, bqff, List.map_cons, List.map_nil, List.getElem?_cons_zero, List.getElem?_cons_succ, List.getElem?_map, Option.map_some, Option.map_none, Option.join_some, Option.getD_some, Option.isNone_none, Option.isNone_some, Option.isSome_none, Option.isSome_some, List.drop_succ_cons, List.drop_zero, List.drop_nil, List.take_succ_cons, List.take_zero, List.length_cons, List.length_nil, List.length_map, List.length_append, List.all_cons, List.all_nil, List.isEmpty_cons, List.isEmpty_nil, List.cons_append, List.nil_append, List.append_nil, Bool.and_self, Bool.or_true, Bool.true_or, Bool.or_false, Bool.false_or, ↓reduceIte, Nat.reduceEqDiff, Nat.reduceAdd, Nat.reduceSub, Nat.reduceMul, Nat.reduceLeDiff, Nat.reduceBEq, Nat.zero_add, Nat.add_zero, and_self, true_and, and_true, Bool.not_true, Bool.not_false, Bool.false_eq_true, decide_true, decide_false, natInt, Int.natCast_nonneg, Int.toNat_zero, Int.toNat_one, Int.reduceLE, Int.reduceToNat, Int.reduceLT, Int.reduceEq, eq_self, Nat.le_refl, encAlg, encOpr, ha]; exact rfl) (c1) (by simp only [setA, retA]; exact rfl) ?_)
  (refine runs_go (by simp only [tt_0, tt_1, tt_2, tt_3, tt_4, tt_5, tt_6, tt_7, pm_0, pm_1, pm_2, pm_3, pm_4, pm_5, pm_6, pm_7, e0P, gs, gm, initS, rb_int, rb_str, rb_sub, rb_dcl, rb_opr, rb_ints, rowsB_nil, rowsB_cons, bqtt, bqtf, bqft, bqff, List.map_cons, List.map_nil, List.getElem?_cons_zero, List.getElem?_cons_succ, List.getElem?_map, Option.map_some, Option.map_none, Option.join_some, Option.getD_some, Option.isNone_none, Option.isNone_some, Option.isSome_none, Option.isSome_some, List.drop_succ_cons, List.drop_zero, List.drop_nil, List.take_succ_cons, List.take_zero, List.length_cons, List.length_nil, List.length_map, List.length_append, List.all_cons, List.all_nil, List.isEmpty_cons, List.isEmpty_nil, List.cons_append, List.nil_append, List.append_nil, Bool.and_self, Bool.or_true, Bool.true_or, Bool.or_false, Bool.false_or, ↓reduceIte, Nat.reduceEqDiff, Nat.reduceAdd, Nat.reduceSub, Nat.reduceMul, Nat.reduceLeDiff, Nat.reduceBEq, Nat.zero_add, Nat.add_zero, and_self, true_and, and_true, Bool.not_true, Bool.not_false, Bool.false_eq_true, decide_true, decide_false, natInt, Int.natCast_nonneg, Int.toNat_zero, Int.toNat_one, Int.reduceLE, Int.reduceToNat, Int.reduceLT, Int.reduceEq, eq_self, Nat.le_refl, encAlg, ha]; exact rfl) (by simp only [tt_0, tt_1, tt_2, tt_3, tt_4, tt_5, tt_6, tt_7, pm_0, pm_1, pm_2, pm_3, pm_4, pm_5, pm_6, pm_7, e0P, gs, gm, initS, rb_int, rb_str, rb_sub, rb_dcl, rb_opr, rb_ints, rowsB_nil, rowsB_cons, bqtt, bqtf, bqft, bqff, List.map_cons, List.map_nil, List.getElem?_cons_zero, List.getElem?_cons_succ, List.getElem?_map, Option.map_some, Option.map_none, Option.join_some, Option.getD_some, Option.isNone_none, Option.isNone_some, Option.isSome_none, Option.isSome_some, List.drop_succ_cons, List.drop_zero, List.drop_nil, List.take_succ_cons, List.take_zero, List.length_cons, List.length_nil, List.length_map, List.length_append, List.all_cons, List.all_nil, List.isEmpty_cons, List.isEmpty_nil, List.cons_append, List.nil_append, List.append_nil, Bool.and_self, Bool.or_true, Bool.true_or, Bool.or_false, Bool.false_or, ↓reduceIte, Nat.reduceEqDiff, Nat.reduceAdd, Nat.reduceSub, Nat.reduceMul, Nat.reduceLeDiff, Nat.reduceBEq, Nat.zero_add, Nat.add_zero, and_self, true_and, and_true, Bool.not_true, Bool.not_false, Bool.false_eq_true, decide_true, decide_false, natInt, Int.natCast_nonneg, Int.toNat_zero, Int.toNat_one, Int.reduceLE, Int.reduceToNat, Int.reduceLT, Int.reduceEq, eq_self, Nat.le_refl, encAlg, ha]; exact rfl) (c3) (by simp only [setA, retA]; exact rfl) ?_)
  (refine runs_go (by simp only [tt_0, tt_1, tt_2, tt_3, tt_4, tt_5, tt_6, tt_7, pm_0, pm_1, pm_2, pm_3, pm_4, pm_5, pm_6, pm_7, e0P, gs, gm, initS, rb_int, rb_str, rb_sub, rb_dcl, rb_opr, rb_ints, rowsB_nil, rowsB_cons, bqtt, bqtf, bqft, bqff, List.map_cons, List.map_nil, List.getElem?_cons_zero, List.getElem?_cons_succ, List.getElem?_map, Option.map_some, Option.map_none, Option.join_some, Option.getD_some, Option.isNone_none, Option.isNone_some, Option.isSome_none, Option.isSome_some, List.drop_succ_cons, List.drop_zero, List.drop_nil, List.take_succ_cons, List.take_zero, List.length_cons, List.length_nil, List.length_map, List.length_append, List.all_cons, List.all_nil, List.isEmpty_cons, List.isEmpty_nil, List.cons_append, List.nil_append, List.append_nil, Bool.and_self, Bool.or_true, Bool.true_or, Bool.or_false, Bool.false_or, ↓reduceIte, Nat.reduceEqDiff, Nat.reduceAdd, Nat.reduceSub, Nat.reduceMul, Nat.reduceLeDiff, Nat.reduceBEq, Nat.zero_add, Nat.add_zero, and_self, true_and, and_true, Bool.not_true, Bool.not_false, Bool.false_eq_true, decide_true, decide_false, natInt, Int.natCast_nonneg, Int.toNat_zero, Int.toNat_one, Int.reduceLE, Int.reduceToNat, Int.reduceLT, Int.reduceEq, eq_self, Nat.le_refl, encAlg, ha]; exact rfl) (by simp only [tt_0, tt_1, tt_2, tt_3, tt_4, tt_5, tt_6, tt_7, pm_0, pm_1, pm_2, pm_3, pm_4, pm_5, pm_6, pm_7, e0P, gs, gm, initS, rb_int, rb_str, rb_sub, rb_dcl, rb_opr, rb_ints, rowsB_nil, rowsB_cons, bqtt, bqtf, bqft, bqff, List.map_cons, List.map_nil, List.getElem?_cons_zero, List.getElem?_cons_succ, List.getElem?_map, Option.map_some, Option.map_none, Option.join_some, Option.getD_some, Option.isNone_none, Option.isNone_some, Option.isSome_none, Option.isSome_some, List.drop_succ_cons, List.drop_zero, List.drop_nil, List.take_succ_cons, List.take_zero, List.length_cons, List.length_nil, List.length_map, List.length_append, List.all_cons, List.all_nil, List.isEmpty_cons, List.isEmpty_nil, List.cons_append, List.nil_append, List.append_nil, Bool.and_self, Bool.or_true, Bool.true_or, Bool.or_false, Bool.false_or, ↓reduceIte, Nat.reduceEqDiff, Nat.reduceAdd, Nat.reduceSub, Nat.reduceMul, Nat.reduceLeDiff, Nat.reduceBEq, Nat.zero_add, Nat.add_zero, and_self, true_and, and_true, Bool.not_true, Bool.not_false, Bool.false_eq_true, decide_true, decide_false, natInt, Int.natCast_nonneg, Int.toNat_zero, Int.toNat_one, Int.reduceLE, Int.reduceToNat, Int.reduceLT, Int.reduceEq, eq_self, Nat.le_refl, encAlg, ha]; exact rfl) (c4) (by simp only [setA, retA]; exact rfl) ?_)
  (refine runs_go (by simp only [tt_0, tt_1, tt_2, tt_3, tt_4, tt_5, tt_6, tt_7, pm_0, pm_1, pm_2, pm_3, pm_4, pm_5, pm_6, pm_7, e0P, gs, gm, initS, rb_int, rb_str, rb_sub, rb_dcl, rb_opr, rb_ints, rowsB_nil, rowsB_cons, bqtt, bqtf, bqft, bqff, List.map_cons, List.map_nil, List.getElem?_cons_zero, List.getElem?_cons_succ, List.getElem?_map, Option.map_some, Option.map_none, Option.join_some, Option.getD_some, Option.isNone_none, Option.isNone_some, Option.isSome_none, Option.isSome_some, List.drop_succ_cons, List.drop_zero, List.drop_nil, List.take_succ_cons, List.take_zero, List.length_cons, List.length_nil, List.length_map, List.length_append, List.all_cons, List.all_nil, List.isEmpty_cons, List.isEmpty_nil, List.cons_append, List.nil_append, List.append_nil, Bool.and_self, Bool.or_true, Bool.true_or, Bool.or_false, Bool.false_or, ↓reduceIte, Nat.reduceEqDiff, Nat.reduceAdd, Nat.reduceSub, Nat.reduceMul, Nat.reduceLeDiff, Nat.reduceBEq, Nat.zero_add, Nat.add_zero, and_self, true_and, and_true, Bool.not_true, Bool.not_false, Bool.false_eq_true, decide_true, decide_false, natInt, Int.natCast_nonneg, Int.toNat_zero, Int.toNat_one, Int.reduceLE, Int.reduceToNat, Int.reduceLT, Int.reduceEq, eq_self, Nat.le_refl, encAlg, ha]; exact rfl) (by simp only [tt_0, tt_1, tt_2, tt_3, tt_4, tt_5, tt_6, tt_7, pm_0, pm_1, pm_2, pm_3, pm_4, pm_5, pm_6, pm_7, e0P, gs, gm, initS, rb_int, rb_str, rb_sub, rb_dcl, rb_opr, rb_ints, rowsB_nil, rowsB_cons, bqtt, bqtf, bqft, bqff, List.map_cons, List.map_nil, List.getElem?_cons_zero, List.getElem?_cons_succ, List.getElem?_map, Option.map_some, Option.map_none, Option.join_some, Option.getD_some, Option.isNone_none, Option.isNone_some, Option.isSome_none, Option.isSome_some, List.drop_succ_cons, List.drop_zero, List.drop_nil, List.take_succ_cons, List.take_zero, List.length_cons, List.length_nil, List.length_map, List.length_append, List.all_cons, List.all_nil, List.isEmpty_cons, List.isEmpty_nil, List.cons_append, List.nil_append, List.append_nil, Bool.and_self, Bool.or_true, Bool.true_or, Bool.or_false, Bool.false_or, ↓reduceIte, Nat.reduceEqDiff, Nat.reduceAdd, Nat.reduceSub, Nat.reduceMul, Nat.reduceLeDiff, Nat.reduceBEq, Nat.zero_add, Nat.add_zero, and_self, true_and, and_true, Bool.not_true, Bool.not_false, Bool.false_eq_true, decide_true, decide_false, natInt, Int.natCast_nonneg, Int.toNat_zero, Int.toNat_one, Int.reduceLE, Int.reduceToNat, Int.reduceLT, Int.reduceEq, eq_self, Nat.le_refl, encAlg, ha]; exact rfl) (c5) (by simp only [setA, retA]; exact rfl) ?_)
  by_cases h1 : tw2 a i (tw2 a i x y) z = tw2 a i x (tw2 a i y z)
  · have hz2 := hz1 (fun _ => h1)
    (refine runs_end (by simp only [tt_0, tt_1, tt_2, tt_3, tt_4, tt_5, tt_6, tt_7, pm_0, pm_1, pm_2, pm_3, pm_4, pm_5, pm_6, pm_7, e0P, gs, gm, initS, rb_int, rb_str, rb_sub, rb_dcl, rb_opr, rb_ints, rowsB_nil, rowsB_cons, bqtt, bqtf, bqft, bqff, List.map_cons, List.map_nil, List.getElem?_cons_zero, List.getElem?_cons_succ, List.getElem?_map, Option.map_some, Option.map_none, Option.join_some, Option.getD_some, Option.isNone_none, Option.isNone_some, Option.isSome_none, Option.isSome_some, List.drop_succ_cons, List.drop_zero, List.drop_nil, List.take_succ_cons, List.take_zero, List.length_cons, List.length_nil, List.length_map, List.length_append, List.all_cons, List.all_nil, List.isEmpty_cons, List.isEmpty_nil, List.cons_append, List.nil_append, List.append_nil, Bool.and_self, Bool.or_true, Bool.true_or, Bool.or_false, Bool.false_or, ↓reduceIte, Nat.reduceEqDiff, Nat.reduceAdd, Nat.reduceSub, Nat.reduceMul, Nat.reduceLeDiff, Nat.reduceBEq, Nat.zero_add, Nat.add_zero, and_self, true_and, and_true, Bool.not_true, Bool.not_false, Bool.false_eq_true, decide_true, decide_false, natInt, Int.natCast_nonneg, Int.toNat_zero, Int.toNat_one, Int.reduceLE, Int.reduceToNat, Int.reduceLT, Int.reduceEq, eq_self, Nat.le_refl, h1, ha]; exact rfl) (by simp only [trimS, Nat.testBit, Nat.reduceShiftRight, Nat.reduceAnd, Nat.reduceBneDiff, Nat.reduceBEq, bne, Bool.not_true, Bool.not_false, ↓reduceIte, Bool.false_eq_true]; exact rfl) ?_
     change pwp _ _ _ _ _)
    (refine pwp_cf rfl ?_)
    (refine pwp_skip ?_
     change pwp _ _ _ _ _)
    (refine region_0 (by simp only [List.map_cons, List.map_nil]; exact rfl) (runs_end (by simp only [tt_0, tt_1, tt_2, tt_3, tt_4, tt_5, tt_6, tt_7, pm_0, pm_1, pm_2, pm_3, pm_4, pm_5, pm_6, pm_7, e0P, gs, gm, initS, rb_int, rb_str, rb_sub, rb_dcl, rb_opr, rb_ints, rowsB_nil, rowsB_cons, bqtt, bqtf, bqft, bqff, List.map_cons, List.map_nil, List.getElem?_cons_zero, List.getElem?_cons_succ, List.getElem?_map, Option.map_some, Option.map_none, Option.join_some, Option.getD_some, Option.isNone_none, Option.isNone_some, Option.isSome_none, Option.isSome_some, List.drop_succ_cons, List.drop_zero, List.drop_nil, List.take_succ_cons, List.take_zero, List.length_cons, List.length_nil, List.length_map, List.length_append, List.all_cons, List.all_nil, List.isEmpty_cons, List.isEmpty_nil, List.cons_append, List.nil_append, List.append_nil, Bool.and_self, Bool.or_true, Bool.true_or, Bool.or_false, Bool.false_or, ↓reduceIte, Nat.reduceEqDiff, Nat.reduceAdd, Nat.reduceSub, Nat.reduceMul, Nat.reduceLeDiff, Nat.reduceBEq, Nat.zero_add, Nat.add_zero, and_self, true_and, and_true, Bool.not_true, Bool.not_false, Bool.false_eq_true, decide_true, decide_false, natInt, Int.natCast_nonneg, Int.toNat_zero, Int.toNat_one, Int.reduceLE, Int.reduceToNat, Int.reduceLT, Int.reduceEq, eq_self, Nat.le_refl, hwz]; exact rfl) (by simp only [trimS, Nat.testBit, Nat.reduceShiftRight, Nat.reduceAnd, Nat.reduceBneDiff, Nat.reduceBEq, bne, Bool.not_true, Bool.not_false, ↓reduceIte, Bool.false_eq_true]; exact rfl) ?_)
     exact ⟨z + 1, hz2, by simp [weakS, gs, encOpr, encAlg, ha], by simp [weakM, gm, encOpr, encAlg, ha], by omega⟩)
  · have hf := hno fun hO => h1 (hO.assoc ha x y z hX hY hZ)
    (refine runs_end (by simp only [tt_0, tt_1, tt_2, tt_3, tt_4, tt_5, tt_6, tt_7, pm_0, pm_1, pm_2, pm_3, pm_4, pm_5, pm_6, pm_7, e0P, gs, gm, initS, rb_int, rb_str, rb_sub, rb_dcl, rb_opr, rb_ints, rowsB_nil, rowsB_cons, bqtt, bqtf, bqft, bqff, List.map_cons, List.map_nil, List.getElem?_cons_zero, List.getElem?_cons_succ, List.getElem?_map, Option.map_some, Option.map_none, Option.join_some, Option.getD_some, Option.isNone_none, Option.isNone_some, Option.isSome_none, Option.isSome_some, List.drop_succ_cons, List.drop_zero, List.drop_nil, List.take_succ_cons, List.take_zero, List.length_cons, List.length_nil, List.length_map, List.length_append, List.all_cons, List.all_nil, List.isEmpty_cons, List.isEmpty_nil, List.cons_append, List.nil_append, List.append_nil, Bool.and_self, Bool.or_true, Bool.true_or, Bool.or_false, Bool.false_or, ↓reduceIte, Nat.reduceEqDiff, Nat.reduceAdd, Nat.reduceSub, Nat.reduceMul, Nat.reduceLeDiff, Nat.reduceBEq, Nat.zero_add, Nat.add_zero, and_self, true_and, and_true, Bool.not_true, Bool.not_false, Bool.false_eq_true, decide_true, decide_false, natInt, Int.natCast_nonneg, Int.toNat_zero, Int.toNat_one, Int.reduceLE, Int.reduceToNat, Int.reduceLT, Int.reduceEq, eq_self, Nat.le_refl, h1, ha]; exact rfl) (by simp only [trimS, Nat.testBit, Nat.reduceShiftRight, Nat.reduceAnd, Nat.reduceBneDiff, Nat.reduceBEq, bne, Bool.not_true, Bool.not_false, ↓reduceIte, Bool.false_eq_true]; exact rfl) ?_
     change pwp _ _ _ _ _)
    (refine pwp_ct rfl ?_)
    ((repeat (with_reducible refine pwp_seq ?_))
     (refine region_0 (by simp only [List.map_cons, List.map_nil]; exact rfl) (runs_end (by simp only [tt_0, tt_1, tt_2, tt_3, tt_4, tt_5, tt_6, tt_7, pm_0, pm_1, pm_2, pm_3, pm_4, pm_5, pm_6, pm_7, e0P, gs, gm, initS, rb_int, rb_str, rb_sub, rb_dcl, rb_opr, rb_ints, rowsB_nil, rowsB_cons, bqtt, bqtf, bqft, bqff, List.map_cons, List.map_nil, List.getElem?_cons_zero, List.getElem?_cons_succ, List.getElem?_map, Option.map_some, Option.map_none, Option.join_some, Option.getD_some, Option.isNone_none, Option.isNone_some, Option.isSome_none, Option.isSome_some, List.drop_succ_cons, List.drop_zero, List.drop_nil, List.take_succ_cons, List.take_zero, List.length_cons, List.length_nil, List.length_map, List.length_append, List.all_cons, List.all_nil, List.isEmpty_cons, List.isEmpty_nil, List.cons_append, List.nil_append, List.append_nil, Bool.and_self, Bool.or_true, Bool.true_or, Bool.or_false, Bool.false_or, ↓reduceIte, Nat.reduceEqDiff, Nat.reduceAdd, Nat.reduceSub, Nat.reduceMul, Nat.reduceLeDiff, Nat.reduceBEq, Nat.zero_add, Nat.add_zero, and_self, true_and, and_true, Bool.not_true, Bool.not_false, Bool.false_eq_true, decide_true, decide_false, natInt, Int.natCast_nonneg, Int.toNat_zero, Int.toNat_one, Int.reduceLE, Int.reduceToNat, Int.reduceLT, Int.reduceEq, eq_self, Nat.le_refl, e0P]; exact rfl) (by simp only [trimS, Nat.testBit, Nat.reduceShiftRight, Nat.reduceAnd, Nat.reduceBneDiff, Nat.reduceBEq, bne, Bool.not_true, Bool.not_false, ↓reduceIte, Bool.false_eq_true]; exact rfl) ?_)
      change pwp _ _ _ _ _)
     (refine pwp_ret (ret_ok ?_))
     simp [resOk, resA, resSlots, gs, hf])
theorem con_algOf {f : FuncId} (hb : hasBody e0.P f = true) (h : algC f) {g : Sgn} {a : Alg} (hg : okSgn g) (ha : okAlg a) : Con e0 f [.agg (encSgn g), .agg (encAlg a)] [.one (.lit (.bool (isAlg g a)))] := by
  refine con_below e0_ok hb fun w S vs hv => ?_
  match vs, hv with
  | [v, u], hv =>
    obtain ⟨⟨us, rfl, hu⟩, ⟨us', rfl, hu'⟩, _⟩ := hv
    exact (h g a S us us' w hg ha hu hu').mono fun e w' ⟨h1, h2⟩ => ⟨_, h1, h2, by simp [retA, ARel, DRel, Rep]⟩
end Go.Proofs.Ytmpcbijkbgmjkaa

namespace Go.Proofs.Ytmpcbijkbgmjkaa
open Go.RowKit Go.Sort

set_option maxHeartbeats 20000000 in
set_option maxRecDepth 100000 in
theorem implIsAlgebra : algC 50 := by
  intro g a S vs us w hokg hoka hvg hva
  obtain ⟨s, ops⟩ := g
  have hvg0 := hvg
  obtain ⟨g0, g1, g2, rfl, f0, f1, f2⟩ := repVals_Signature hvg
  obtain ⟨Ag0, cg0, rfl, _, _⟩ := f0.shape
  obtain ⟨Ag1, cg1, rfl, _, _⟩ := f1.shape
  obtain ⟨Ag2, cg2, rfl, hcg2, hmg2⟩ := f2.shape
  obtain ⟨z, tabs⟩ := a
  simp only [encAlg] at hva
  obtain ⟨v1, rfl, e1⟩ := repVals_Algebra hva
  obtain ⟨At, capt, rfl, hct, hmt⟩ := e1.shape
  have HOKG := Lib.hid hokg
  have HOKA := Lib.hid hoka
  have HVG := Lib.hid hvg0
  have F2 := Lib.hid f2
  have E1 := Lib.hid e1
  have hz64 : I64 z := hoka.1
  clear hvg hvg0 hva f0 f1 f2 e1 hokg hoka
  simp only at HVG F2 hcg2 hmg2
  simp only
  generalize s.names.length = n at *
  generalize s.subs.length = ls at *
  generalize hM : ops.length = m at *
  have HM := Lib.hid hM
  generalize hMT : tabs.length = mt at *
  have HMT := Lib.hid hMT
  clear hM hMT
  unfold maxLen at hmg2 hmt
  unfold I64 at hz64
  have HIS := Lib.hid (fun W h => implIsSignature ⟨s, ops⟩ S [.slice Ag0 n cg0, .slice Ag1 ls cg1, .slice Ag2 m cg2] W HOKG.out h)
  go_enter Try.func50, Try.ntmps50
  go_wp2_with fail
  generalize hW : (w.alloc _).alloc _ = W0
  have hb0 : Below w.heap.size w W0 := by rw [← hW]; exact (by repeat' (first | exact Below.refl _ _ | refine below_drewN ?_ _ | refine Below.alloc ?_ (by first | exact Nat.le_refl _ | (simp; done) | (simp; omega)) _))
  have p0 : W0.cell? ⟨w.heap.size, 0, none⟩ = some (.slice Ag0 n cg0) := (by rw [← hW]; repeat' (first | (simp; done) | exact keepNew (by simp) rfl | refine keepA _ ?_))
  have p1 : W0.cell? ⟨w.heap.size, 1, none⟩ = some (.slice Ag1 ls cg1) := (by rw [← hW]; repeat' (first | (simp; done) | exact keepNew (by simp) rfl | refine keepA _ ?_))
  have p2 : W0.cell? ⟨w.heap.size, 2, none⟩ = some (.slice Ag2 m cg2) := (by rw [← hW]; repeat' (first | (simp; done) | exact keepNew (by simp) rfl | refine keepA _ ?_))
  have p3 : W0.cell? ⟨w.heap.size + 1, 0, none⟩ = some (.int .i64 z) := (by rw [← hW]; repeat' (first | (simp; done) | exact keepNew (by simp) rfl | refine keepA _ ?_))
  have p4 : W0.cell? ⟨w.heap.size + 1, 1, none⟩ = some (.slice At mt capt) := (by rw [← hW]; repeat' (first | (simp; done) | exact keepNew (by simp) rfl | refine keepA _ ?_))
  clear hW
  generalize w.heap.size + 1 = g3 at *
  by_cases hs : SgnOk ⟨s, ops⟩
  rotate_left
  · have HF : Hid (isAlg ⟨s, ops⟩ ⟨z, tabs⟩ = false) := isAlg_false fun h => hs h.sgn
    rw [isSgn_false hs] at HIS
    clear hs
    refine (HIS.out _ (HVG.out.below hb0)).mono ?_
    rintro e w2 ⟨rfl, hb2⟩
    go_wp2
    go_ret
    exact ⟨ret_bool HF.out.symm, hb0.trans (hb2.mono hb0.size)⟩
  rw [isSgn_true hs] at HIS
  have HSO := Lib.hid hs
  clear hs
  refine (HIS.out _ (HVG.out.below hb0)).mono ?_
  rintro e W ⟨rfl, hb2⟩
  have hbW : Below w.heap.size w W := hb0.trans (hb2.mono hb0.size)
  have r0 := keepB hb2 p0
  have r1 := keepB hb2 p1
  have r2 := keepB hb2 p2
  have r3 := keepB hb2 p3
  have r4 := keepB hb2 p4
  have F2W := Lib.hid (F2.out.below hbW)
  have E1W := Lib.hid (E1.out.below hbW)
  clear p0 p1 p2 p3 p4 F2 E1 HVG HIS hb0 hb2
  by_cases hz1 : z < 1
  · have HF : Hid (isAlg ⟨s, ops⟩ ⟨z, tabs⟩ = false) := isAlg_false fun h => by have := h.lo; simp only at this; omega
    go_wp2
    go_ret
    exact ⟨ret_bool HF.out.symm, hbW⟩
  by_cases hz4 : 4 < z
  · have HF : Hid (isAlg ⟨s, ops⟩ ⟨z, tabs⟩ = false) := isAlg_false fun h => by have := h.hi; simp only at this; omega
    go_wp2
    go_ret
    exact ⟨ret_bool HF.out.symm, hbW⟩
  by_cases hmm : mt = m
  rotate_left
  · have HF : Hid (isAlg ⟨s, ops⟩ ⟨z, tabs⟩ = false) := isAlg_false fun h => hmm (by have := h.len; have := HM.out; have := HMT.out; simp only at *; omega)
    have n1 : (mt == m) = false := by simp [hmm]
    have n2 : ((mt : Int) == (m : Int)) = false := by simp; omega
    have n3 : ((mt : Int) != (m : Int)) = true := by simp; omega
    go_wp2
    go_ret
    exact ⟨ret_bool HF.out.symm, hbW⟩
  obtain rfl : m = mt := hmm.symm
  have n1 : (m == m) = true := by simp
  obtain ⟨zn, rfl⟩ := Int.eq_ofNat_of_zero_le (show 0 ≤ z by omega)
  obtain ⟨ip, hpi, _, hps, _⟩ := info_parts info_Op'
  go_wp2
  clear n1
  go_loopw [35] (fun i wr => ∃ k : Nat, k ≤ m ∧ i = .int .i64 k ∧ (∀ (j : Nat) (o : Opr) (d : Dcl) (t : List Int), j < k → ops[j]? = some o → o.decls[0]? = some d → tabs[j]? = some t → TabOk zn d.args.length t) ∧ Below W.heap.size W wr) (fun i _ => m - (intOf i).toNat)
  case atStart => exact ⟨0, Nat.zero_le _, rfl, fun j o d t h => by omega, Below.refl _ _⟩
  case round =>
    obtain ⟨k, hk, rfl, hall, hb⟩ := hrel
    have HALL := Lib.hid hall
    clear hall
    by_cases hkn : k < m
    · obtain ⟨o, ho⟩ : ∃ o, ops[k]? = some o := ⟨_, List.getElem?_eq_getElem (by have := HM.out; omega)⟩
      obtain ⟨t, ht⟩ : ∃ t, tabs[k]? = some t := ⟨_, List.getElem?_eq_getElem (by have := HMT.out; omega)⟩
      obtain ⟨d, hd, hdd⟩ := (HSO.out.decls o (List.mem_of_getElem? ho)).first
      have har := (HSO.out.decls o (List.mem_of_getElem? ho)).ar d hd
      have HOO := Lib.hid (HOKG.out.2 o (List.mem_of_getElem? ho))
      have HTO := Lib.hid (HOKA.out.2 t (List.mem_of_getElem? ht))
      obtain ⟨b, off, vd, rfl, hbz, c0, c1, c2, c3, c4, rd⟩ := Rep.opAt HOKG.out.2 (F2W.out.below hb) ho
      obtain ⟨bt, ot, Ax, cx, rfl, hbt, x0, hx1, hx2, rt⟩ := Rep.intsAt HOKA.out.2 (E1W.out.below hb) ht
      have HO := Lib.hid ho
      have HT := Lib.hid ht
      have HD := Lib.hid hd
      obtain ⟨name, decls, ac, cm, un⟩ := o
      simp only at c0 c2 c3 c4 rd hd
      obtain ⟨Ad, capd, rfl, hcd, hmd⟩ := rd.shape
      obtain ⟨b1, o1, rfl, _, hz1', hrow⟩ := Rep.at okDclR HOO.out.2.1 rd hd
      have hld : 0 < decls.length := (List.getElem?_eq_some_iff.1 hd).1
      obtain ⟨dargs, dres⟩ := d
      simp only [encDcl, RepRow, and_true, fieldsOf, List.length_cons, List.length_nil, Nat.reduceAdd, Nat.zero_mul, Nat.add_zero, Rep.lit_iff] at hrow
      obtain ⟨⟨u0, w0, r0'⟩, ⟨_, w1, rfl⟩⟩ := hrow
      obtain ⟨Ae, cape, rfl, hce, hme⟩ := r0'.shape
      simp only at har
      have RT := Lib.hid rt
      clear ho ht hd hdd rd rt r0'
      generalize decls.length = ld at *
      generalize hLT : t.length = lt at *
      have HLT2 := Lib.hid hLT
      generalize hDL : dargs.length = dl at *
      have HDL := Lib.hid hDL
      clear hLT hDL
      unfold maxLen at hx2 hmd hme
      go_upto_region 6 with ((with_reducible refine atStore 93 (.tmp 6) (.tmp 39) rfl ?_); refine wpList_store_new rfl 93 _ _ rfl _ _ _ rfl _ rfl (by simp) [.string name, .slice (some ⟨b1, o1, none⟩) ld capd, .bool ac, .bool cm, .int .i64 un] rfl ip hpi hps rfl (by simp [Value.oneCell']) ?_)
      simp only [Act.put]
      generalize hW7 : wr.alloc _ = W7
      have hb7 : Below wr.heap.size wr W7 := by rw [← hW7]; exact belowA _ _
      have y1 : W7.cell? ⟨wr.heap.size, 1, none⟩ = some (.slice (some ⟨b1, o1, none⟩) ld capd) := (by rw [← hW7]; repeat' (first | (simp; done) | exact keepNew (by simp) rfl | refine keepA _ ?_))
      have hbW7 : Below W.heap.size W W7 := hb.trans (hb7.mono hb.size)
      have q3 := keepB hbW7 r3
      have q4 := keepB hbW7 r4
      have v0 := keepB hb7 w0
      have v1 := keepB hb7 x0
      have RT7 := Lib.hid (RT.out.below hb7)
      clear hW7 c0 c1 c2 c3 c4 w0 w1 x0 RT hb7 hb hbz hbt hz1'
      generalize wr.heap.size = g7 at *
      go_wp2
      obtain ⟨wo, rfl⟩ : ∃ x : World, x = wr := ⟨_, rfl⟩
      go_loop [7, 46] (fun p i => ∃ j : Nat, j ≤ dl ∧ i = .int .i64 j ∧ p = .int .i64 ((zn ^ j : Nat) : Int)) (fun _ i => dl - (intOf i).toNat)
      case atStart => exact ⟨0, Nat.zero_le _, rfl, by simp⟩
      case round =>
        obtain ⟨j, hj, rfl, rfl⟩ := hrel
        by_cases hjk : j < dl
        · have hp := pow_le64 (show zn ≤ 4 by omega) (show j ≤ 3 by omega)
          have HS := Lib.hid (Nat.pow_succ zn j)
          generalize zn ^ j = p at *
          obtain ⟨m1, m2⟩ := wrap_mul hp (show zn ≤ 4 by omega)
          go_wp2
          go_round
          case rel => exact ⟨j + 1, by omega, by go_num, by rw [HS.out]; first | rfl | (simp only [Int.natCast_mul]; done) | simp [Int.natCast_mul]⟩
          case measure => simp [intOf]; omega
        · obtain rfl : dl = j := by omega
          have hpw := pow_le64 (show zn ≤ 4 by omega) har
          generalize hPW : zn ^ dl = pw at *
          have HPW := Lib.hid hPW
          clear hPW
          by_cases hlen : lt = pw
          rotate_left
          · have HF : Hid (isAlg ⟨s, ops⟩ ⟨zn, tabs⟩ = false) := isAlg_false fun h => hlen (by have := (h.tab k _ _ t HO.out HD.out HT.out).len; rw [HLT2.out] at this; simp only [HDL.out] at this; simpa [HPW.out] using this)
            have n1 : (lt == pw) = false := by simp [hlen]
            have n2 : ((lt : Int) == (pw : Int)) = false := by simp; omega
            have n3 : ((lt : Int) != (pw : Int)) = true := by simp; omega
            go_wp2
            go_ret
            exact ⟨ret_bool HF.out.symm, hbW.trans (hbW7.mono hbW.size)⟩
          obtain rfl : lt = pw := hlen
          have n1 : (lt == lt) = true := by simp
          go_wp2
          clear n1
          go_loop [67] (fun i => ∃ j : Nat, j ≤ lt ∧ i = .int .i64 j ∧ (∀ (i : Nat) (x : Int), i < j → t[i]? = some x → 0 ≤ x ∧ x < (zn : Int))) (fun i => lt - (intOf i).toNat)
          case atStart => exact ⟨0, Nat.zero_le _, rfl, fun i x h => by omega⟩
          case round =>
            obtain ⟨j, hj, rfl, hno⟩ := hrel
            have HNO := Lib.hid hno
            clear hno
            by_cases hjk : j < lt
            · obtain ⟨x, hx⟩ : ∃ x, t[j]? = some x := ⟨_, List.getElem?_eq_getElem (by have := HLT2.out; omega)⟩
              obtain ⟨bx, ox, rfl, hbx, cx0⟩ := Rep.int HTO.out RT7.out hx
              have HX := Lib.hid hx
              clear hx
              by_cases hxr : 0 ≤ x ∧ x < (zn : Int)
              · obtain ⟨e0, e1⟩ := hxr
                go_wp2
                go_round
                case rel =>
                  refine ⟨j + 1, by omega, by go_num, fun i y hi hy => ?_⟩
                  by_cases hij : i = j
                  · subst hij
                    rw [HX.out] at hy
                    injection hy with hy
                    rw [← hy]
                    exact ⟨e0, e1⟩
                  · exact HNO.out i y (by omega) hy
                case measure => simp [intOf]; omega
              · have HF : Hid (isAlg ⟨s, ops⟩ ⟨zn, tabs⟩ = false) := isAlg_false fun h => hxr ((h.tab k _ _ t HO.out HD.out HT.out).all x (List.mem_of_getElem? HX.out))
                by_cases e0 : x < 0
                · clear hxr
                  go_wp2
                  go_ret
                  exact ⟨ret_bool HF.out.symm, hbW.trans (hbW7.mono hbW.size)⟩
                · have e1 : (zn : Int) ≤ x := by omega
                  clear hxr
                  go_wp2
                  go_ret
                  exact ⟨ret_bool HF.out.symm, hbW.trans (hbW7.mono hbW.size)⟩
            · obtain rfl : lt = j := by omega
              go_wp2
              go_roundw
              case rel =>
                refine ⟨k + 1, by omega, by go_num, fun j o' d' t' hj ho hd ht => ?_, hbW7⟩
                by_cases hjk' : j = k
                · subst hjk'
                  rw [HO.out] at ho
                  injection ho with ho
                  subst ho
                  rw [HD.out] at hd
                  injection hd with hd
                  subst hd
                  rw [HT.out] at ht
                  injection ht with ht
                  subst ht
                  refine ⟨by rw [HLT2.out]; simp only [HDL.out]; simp [HPW.out], fun x hx => ?_⟩
                  obtain ⟨i, hi⟩ := List.mem_iff_getElem?.1 hx
                  exact HNO.out i x (by have hil := (List.getElem?_eq_some_iff.1 hi).1; rw [HLT2.out] at hil; exact hil) hi
                · exact HALL.out j o' d' t' (by omega) ho hd ht
              case measure => simp [intOf]; omega
    · obtain rfl : m = k := by omega
      have HF : Hid (isAlg ⟨s, ops⟩ ⟨zn, tabs⟩ = true) := isAlg_true ⟨HSO.out, by simp only; omega, by simp only; omega, by have := HM.out; have := HMT.out; simp only; omega, fun i o d t ho hd ht => HALL.out i o d t (by have hil : i < ops.length := (List.getElem?_eq_some_iff.1 ho).1; have := HM.out; omega) ho hd ht⟩
      go_wp2
      go_ret
      exact ⟨ret_bool HF.out.symm, hbW.trans (hb.mono hbW.size)⟩
end Go.Proofs.Ytmpcbijkbgmjkaa

namespace Go.Proofs.Ytmpcbijkbgmjkaa
open Go.RowKit Go.Sort

theorem specInR (n : Nat) (x : Int) (w : World) : Calls Try.prog 69 #[.int .i64 x, .int .i64 0, .int .i64 ((n : Int) - 1)] w fun e w' => e = .returned (.bool (inR n x)) ∧ w = w' :=
  (specIn x 0 ((n : Int) - 1) w).mono fun e w' ⟨h1, h2⟩ => ⟨by rw [h1]; refine ret_bool ?_; unfold inR; rw [Bool.eq_iff_iff]; simp; omega, h2⟩
set_option maxHeartbeats 4000000 in
set_option maxRecDepth 100000 in
theorem specDecls (g : Sgn) (o : Opr) (S : Nat → Prop) (vs us : List Value) (w : World) (hs : SortsOk g.sorts) (hokg : okSgn g) (hok : okOpr o) (hvg : RepVals w S (encSgn g) vs) (hv : RepVals w S (encOpr o) us) :
    Calls Try.prog 117 #[.agg vs.toArray, .agg us.toArray] w fun e w' => e = .returned (.bool (declsOk g.sorts o)) ∧ Below w.heap.size w w' := by
  obtain ⟨s, ops⟩ := g
  simp only at hs
  obtain ⟨n, hN⟩ : ∃ n, s.names.length = n := ⟨_, rfl⟩
  have hK := kinds_ok (SortsOk.subsIn hs.subs)
  have hn1 := hs.n1
  have h8 := hs.n8
  rw [hN] at hK hn1 h8
  obtain ⟨g0, g1, g2, rfl, f0, f1, f2⟩ := repVals_Signature hvg
  obtain ⟨Ag0, cg0, rfl, _, _⟩ := f0.shape
  obtain ⟨Ag1, cg1, rfl, _, _⟩ := f1.shape
  obtain ⟨Ag2, cg2, rfl, _, _⟩ := f2.shape
  have HSR : Hid (RepVals w S (encSrt s) [.slice Ag0 s.names.length cg0, .slice Ag1 s.subs.length cg1]) := by show RepVals _ _ _ _; simp only [encSrt, RepVals, and_true]; exact ⟨f0, f1⟩
  have HKI := Lib.hid (fun W h => specKinds s S [.slice Ag0 s.names.length cg0, .slice Ag1 s.subs.length cg1] W hokg.1 h hs.n1 hs.n8 hs.subs)
  obtain ⟨name, decls, ac, cm, un⟩ := o
  simp only [encOpr] at hv
  obtain ⟨v1, rfl, e1⟩ := repVals_Op hv
  obtain ⟨A1, cap1, rfl, hc1, hm1⟩ := e1.shape
  obtain ⟨ic, hci, _, hcs, _⟩ := info_parts info_Decl'
  have HOK := Lib.hid hok
  have E1 := Lib.hid e1
  have HK := Lib.hid hK
  have HN := Lib.hid hN
  rw [hN] at HSR HKI
  rw [hN]
  generalize s.subs.length = ms at *
  generalize ops.length = mo at *
  clear hv e1 hok hK hN hs hvg f0 f1 f2 hokg
  generalize hM : decls.length = m at *
  have HM := Lib.hid hM
  clear hM
  have HH := Lib.hid (fun (k : Int) (w : World) => specInR n k w)
  unfold maxLen at hm1
  by_cases hm0 : m = 0
  · subst hm0
    have HF : Hid (declsOk s ⟨name, decls, ac, cm, un⟩ = false) := declsOk_false fun h => by have := h.len1; have := HM.out; simp only at *; omega
    go_enter Try.func117, Try.ntmps117
    go_wp2
    go_ret
    exact ⟨ret_bool HF.out.symm, (belowA _ _).trans ((belowA _ _).mono (belowA _ _).size)⟩
  by_cases hm4 : 4 < m
  · have HF : Hid (declsOk s ⟨name, decls, ac, cm, un⟩ = false) := declsOk_false fun h => by have := h.len4; have := HM.out; simp only at *; omega
    go_enter Try.func117, Try.ntmps117
    go_wp2
    go_ret
    exact ⟨ret_bool HF.out.symm, (belowA _ _).trans ((belowA _ _).mono (belowA _ _).size)⟩
  obtain ⟨f, hf⟩ : ∃ f, decls[0]? = some f := ⟨_, List.getElem?_eq_getElem (by have := HM.out; omega)⟩
  obtain ⟨b1, o1, rfl, _, hz1, hrow⟩ := Rep.at okDclR HOK.out.2.1 E1.out hf
  have HFOK := Lib.hid (HOK.out.2.1 f (List.mem_of_getElem? hf))
  have HF0 := Lib.hid hf
  obtain ⟨fargs, fres⟩ := f
  simp only [encDcl, RepRow, and_true, fieldsOf, List.length_cons, List.length_nil, Nat.reduceAdd, Nat.zero_mul, Nat.add_zero, Rep.lit_iff] at hrow
  obtain ⟨⟨u0, c0, r0⟩, ⟨_, c1, rfl⟩⟩ := hrow
  obtain ⟨Af, capf, rfl, hcf, hmf⟩ := r0.shape
  have RF := Lib.hid r0
  clear hf r0
  unfold maxLen at hmf
  generalize hLF : fargs.length = lf at *
  have HLF := Lib.hid hLF
  clear hLF
  by_cases hl3 : 3 < lf
  · have HF : Hid (declsOk s ⟨name, decls, ac, cm, un⟩ = false) := declsOk_false fun h => by have := h.ar _ HF0.out; have := HLF.out; simp only at *; omega
    go_enter Try.func117, Try.ntmps117
    go_wp2
    go_ret
    exact ⟨ret_bool HF.out.symm, (belowA _ _).trans ((belowA _ _).mono (belowA _ _).size)⟩
  go_enter Try.func117, Try.ntmps117
  go_wp2_with fail
  generalize hW : (w.alloc _).alloc _ = W0
  have hb0 : Below w.heap.size w W0 := by rw [← hW]; exact ((Below.refl _ _).alloc (Nat.le_refl _) _).alloc (by simp) _
  have p3 : W0.cell? ⟨w.heap.size + 1, 1, none⟩ = some (.slice (some ⟨b1, o1, none⟩) m cap1) := (by rw [← hW]; repeat' (first | (simp; done) | exact keepNew (by simp) rfl | refine keepA _ ?_))
  have z1 : w.heap.size + 1 < W0.heap.size := by rw [← hW]; simp
  have c2 := keepB hb0 c0
  have c3 := keepB hb0 c1
  clear hW c0 c1
  generalize hg2 : w.heap.size + 1 = g3 at *
  clear hg2
  refine (HKI.out _ (HSR.out.below hb0)).mono ?_
  rintro e W1 ⟨vk, rfl, hI, hbk⟩
  obtain ⟨Ak, ck, rfl, hck, hmk, hA⟩ := hI.form
  have hkl : (casts (kinds s)).length = n := by rw [casts_len]; exact HK.out.1
  have hI' := hI.rep
  rw [hkl] at hI' hck
  rw [hkl]
  clear hkl hA
  unfold maxLen at hmk
  have VK1 := Lib.hid hI'
  clear hI hI'
  have p3' := keepB hbk p3
  have c0 := keepB hbk c2
  have c1 := keepB hbk c3
  go_wp2_with ((with_reducible refine atStore 125 (.tmp 6) (.tmp 35) rfl ?_); refine wpList_store_new rfl 125 _ _ rfl _ _ _ rfl _ rfl (by simp) [.slice Af lf capf, .int .i64 fres] rfl ic hci hcs rfl (by simp [Value.oneCell']) ?_)
  generalize hW : W1.alloc _ = W
  have hb1 : Below W1.heap.size W1 W := by rw [← hW]; exact belowA _ _
  have p4 : W.cell? ⟨W1.heap.size, 0, none⟩ = some (.slice Af lf capf) := (by rw [← hW]; repeat' (first | (simp; done) | exact keepNew (by simp) rfl | refine keepA _ ?_))
  have p5 : W.cell? ⟨W1.heap.size, 1, none⟩ = some (.int .i64 fres) := (by rw [← hW]; repeat' (first | (simp; done) | exact keepNew (by simp) rfl | refine keepA _ ?_))
  have p6 := keepB hb1 p3'
  have hbW : Below w.heap.size w W := (hb0.trans (hbk.mono hb0.size)).trans (hb1.mono (hb0.trans (hbk.mono hb0.size)).size)
  have V5 := Lib.hid (RF.out.below hbW)
  have VK := Lib.hid (VK1.out.below hb1)
  have V1 := Lib.hid (E1.out.below hbW)
  clear hW c0 c1 c2 c3 p3 p3' E1 RF VK1 hb1
  generalize W1.heap.size = g5 at *
  clear hb0 hbk z1 HKI HSR
  go_loopw [7] (fun i wr => ∃ k : Nat, k ≤ m ∧ i = .int .i64 k ∧ (∀ j d, j < k → decls[j]? = some d → DeclOk s ⟨fargs, fres⟩ d) ∧ Below W.heap.size W wr) (fun i _ => m - (intOf i).toNat)
  case atStart => exact ⟨0, Nat.zero_le _, rfl, fun j x h => by omega, Below.refl _ _⟩
  case round =>
    obtain ⟨k, hk, rfl, hall, hb⟩ := hrel
    have HALL := Lib.hid hall
    clear hall
    have q3 := keepB hb p6
    by_cases hkm' : k < m
    · obtain ⟨d, hd⟩ : ∃ d, decls[k]? = some d := ⟨_, List.getElem?_eq_getElem (by have := HM.out; omega)⟩
      obtain ⟨_, _, hA, _, hbz, hrow⟩ := Rep.at okDclR HOK.out.2.1 (V1.out.below hb) hd
      injection hA with hA
      injection hA with hA hA'
      subst hA hA'
      have HDOK := Lib.hid (HOK.out.2.1 d (List.mem_of_getElem? hd))
      have HD := Lib.hid hd
      clear hd
      obtain ⟨dargs, dres⟩ := d
      simp only [encDcl, RepRow, and_true, fieldsOf, List.length_cons, List.length_nil, Nat.reduceAdd, Rep.lit_iff] at hrow
      obtain ⟨⟨u0, c0, r0⟩, ⟨_, c1, rfl⟩⟩ := hrow
      obtain ⟨Ad, capd, rfl, hcd, hmd⟩ := r0.shape
      have RD := Lib.hid r0
      clear r0
      unfold maxLen at hmd
      generalize hLD : dargs.length = ld at *
      have HLD := Lib.hid hLD
      clear hLD
      have hone : ∀ u ∈ [Value.slice Ad ld capd, Value.int .i64 dres], u.oneCell' = true := by simp [Value.oneCell']
      have HONE := Lib.hid hone
      clear hone
      -- what is known of the first declaration
      have HFA : Hid (0 < k → DeclOk s ⟨fargs, fres⟩ ⟨fargs, fres⟩) := fun h => HALL.out 0 _ h HF0.out
      have HSM : Hid (k = 0 → fargs = dargs ∧ fres = dres) := fun h => by
        have h1 := HD.out
        rw [h, HF0.out] at h1
        injection h1 with h1
        injection h1 with h1 h2
        exact ⟨h1, h2⟩
      have q4 := keepB hb p4
      have q5 := keepB hb p5
      have z5 : g5 < wr.heap.size := World.block_lt_of_cell? _ _ q4
      have z3 : g3 < wr.heap.size := World.block_lt_of_cell? _ _ q3
      by_cases hc1 : ld = lf
      rotate_left
      · have HF : Hid (declsOk s ⟨name, decls, ac, cm, un⟩ = false) := declsOk_false fun h => hc1 (by have := (h.all _ HF0.out _ (List.mem_of_getElem? HD.out)).len; have := HLD.out; have := HLF.out; simp only at *; omega)
        have n1 : (ld == lf) = false := by simp [hc1]
        have n2 : ((ld : Int) == (lf : Int)) = false := by simp; omega
        have n3 : ((ld : Int) != (lf : Int)) = true := by simp; omega
        go_wp2_with ((with_reducible refine atStore 125 (.tmp 8) (.tmp 47) rfl ?_); refine wpList_store_new rfl 125 _ _ rfl _ _ _ rfl _ rfl (by simp) [.slice Ad ld capd, .int .i64 dres] rfl ic hci hcs rfl HONE.out ?_)
        go_ret
        exact ⟨ret_bool HF.out.symm, hbW.trans ((hb.trans ((belowA wr _).mono hb.size)).mono hbW.size)⟩
      obtain rfl : lf = ld := hc1.symm
      have n1 : (lf == lf) = true := by simp
      by_cases hc2 : 0 ≤ dres ∧ dres < n
      rotate_left
      · have HF : Hid (declsOk s ⟨name, decls, ac, cm, un⟩ = false) := declsOk_false fun h => hc2 (by have := (h.all _ HF0.out _ (List.mem_of_getElem? HD.out)).res; rw [HN.out] at this; exact this)
        have HCd := Lib.hid (fun w => HH.out dres w)
        rw [inR_false hc2] at HCd
        clear hc2
        go_wp2_with (first | (go_at_call 69; refine (HCd.out _).mono ?_; rintro e w3 ⟨rfl, rfl⟩) | ((with_reducible refine atStore 125 (.tmp 8) (.tmp 47) rfl ?_); refine wpList_store_new rfl 125 _ _ rfl _ _ _ rfl _ rfl (by simp) [.slice Ad lf capd, .int .i64 dres] rfl ic hci hcs rfl HONE.out ?_))
        go_ret
        exact ⟨ret_bool HF.out.symm, hbW.trans ((hb.trans ((belowA wr _).mono hb.size)).mono hbW.size)⟩
      have HCd := Lib.hid (fun w => HH.out dres w)
      rw [inR_true hc2] at HCd
      go_wp2_with (first | (go_at_call 69; refine (HCd.out _).mono ?_; rintro e w3 ⟨rfl, rfl⟩) | ((with_reducible refine atStore 125 (.tmp 8) (.tmp 47) rfl ?_); refine wpList_store_new rfl 125 _ _ rfl _ _ _ rfl _ rfl (by simp) [.slice Ad lf capd, .int .i64 dres] rfl ic hci hcs rfl HONE.out ?_))
      generalize hW9 : wr.alloc _ = W9
      have hb9 : Below wr.heap.size wr W9 := by rw [← hW9]; exact belowA _ _
      have y0 : W9.cell? ⟨wr.heap.size, 0, none⟩ = some (.slice Ad lf capd) := (by rw [← hW9]; repeat' (first | (simp; done) | exact keepNew (by simp) rfl | refine keepA _ ?_))
      have y1 : W9.cell? ⟨wr.heap.size, 1, none⟩ = some (.int .i64 dres) := (by rw [← hW9]; repeat' (first | (simp; done) | exact keepNew (by simp) rfl | refine keepA _ ?_))
      have hb5 : Below W.heap.size W W9 := hb.trans (hb9.mono hb.size)
      have RD2 := Lib.hid (RD.out.below hb9)
      clear hW9 c0 c1 RD q3 q4 q5 z5 z3 HCd
      generalize wr.heap.size = g9 at *
      clear hb9 hb
      obtain ⟨wo2, rfl⟩ : ∃ x : World, x = wr := ⟨_, rfl⟩
      go_loopw [9] (fun i wr => ∃ j : Nat, j ≤ lf ∧ i = .int .i64 j ∧ (∀ (i : Nat) (a b : Int), i < j → dargs[i]? = some a → fargs[i]? = some b → (0 ≤ a ∧ a < n) ∧ kd s a = kd s b) ∧ Below W9.heap.size W9 wr) (fun i _ => lf - (intOf i).toNat)
      case atStart => exact ⟨0, Nat.zero_le _, rfl, fun i a b h => by omega, Below.refl _ _⟩
      case round =>
        obtain ⟨j, hj, rfl, hall, hbr⟩ := hrel
        have HA2 := Lib.hid hall
        clear hall
        have hb6 : Below W.heap.size W wr := hb5.trans (hbr.mono hb5.size)
        have s0 := keepB hbr y0
        have s1 := keepB hbr y1
        have s4 := keepB hb6 p4
        have s5 := keepB hb6 p5
        by_cases hjn : j < lf
        · obtain ⟨x, hx⟩ : ∃ x, dargs[j]? = some x := ⟨_, List.getElem?_eq_getElem (by have := HLD.out; omega)⟩
          obtain ⟨y, hy⟩ : ∃ y, fargs[j]? = some y := ⟨_, List.getElem?_eq_getElem (by have := HLF.out; omega)⟩
          obtain ⟨bd, od, rfl, hbd, cx⟩ := Rep.int HDOK.out.1 (RD2.out.below hbr) hx
          obtain ⟨bf, of, rfl, hbf, cy⟩ := Rep.int HFOK.out.1 (V5.out.below hb6) hy
          have hyr : (0 ≤ x ∧ x < (n : Int)) → 0 ≤ y ∧ y < (n : Int) := fun h => by
            by_cases hk0 : k = 0
            · have h1 := (HSM.out hk0).1
              rw [h1, hx] at hy
              injection hy with hy
              rw [← hy]
              exact h
            · have := (HFA.out (by omega)).args y (List.mem_of_getElem? hy)
              rw [HN.out] at this
              exact this
          have HX := Lib.hid hx
          have HY := Lib.hid hy
          clear hx hy
          by_cases hxr : 0 ≤ x ∧ x < n
          rotate_left
          · have HF : Hid (declsOk s ⟨name, decls, ac, cm, un⟩ = false) := declsOk_false fun h => hxr (by have := (h.all _ HF0.out _ (List.mem_of_getElem? HD.out)).args x (List.mem_of_getElem? HX.out); rw [HN.out] at this; exact this)
            have HCd := Lib.hid (fun w => HH.out x w)
            rw [inR_false hxr] at HCd
            clear hxr hyr
            go_wp2_with fail
            have hwr : IntKind.i64.wrap ((n : Int) - 1) = (n : Int) - 1 := IntWalk.i64_in _ (by omega)
            go_quiet (first | (go_at_call 69; exact quietC (fun n => HCd.out _) _))
            go_wp2
            go_ret
            exact ⟨ret_bool HF.out.symm, hbW.trans (below_drewN (hb6.mono hbW.size) _)⟩
          have hyr2 := hyr hxr
          clear hyr
          have HCd := Lib.hid (fun w => HH.out x w)
          rw [inR_true hxr] at HCd
          obtain ⟨xn, rfl⟩ := Int.eq_ofNat_of_zero_le hxr.1
          obtain ⟨yn, rfl⟩ := Int.eq_ofNat_of_zero_le hyr2.1
          obtain ⟨bk, ok, rfl, _, kc1⟩ := kd_cell (by rw [HN.out]; exact HK.out) (by rw [HN.out]; exact h8) (VK.out.below hb6) (k := xn) (by rw [HN.out]; omega)
          obtain ⟨_, _, hA, _, kc2⟩ := kd_cell (by rw [HN.out]; exact HK.out) (by rw [HN.out]; exact h8) (VK.out.below hb6) (k := yn) (by rw [HN.out]; omega)
          injection hA with hA
          injection hA with hA hA'
          subst hA hA'
          by_cases hc3 : kd s xn = kd s yn
          rotate_left
          · have HF : Hid (declsOk s ⟨name, decls, ac, cm, un⟩ = false) := declsOk_false fun h => hc3 ((h.all _ HF0.out _ (List.mem_of_getElem? HD.out)).kargs j _ _ HX.out HY.out)
            generalize kd s xn = kx at *
            generalize kd s yn = kz at *
            have n1 : (kx == kz) = false := by simp [hc3]
            have n2 : ((kx : Int) == (kz : Int)) = false := by simp; omega
            have n3 : ((kx : Int) != (kz : Int)) = true := by simp; omega
            go_wp2_with fail
            have hwr : IntKind.i64.wrap ((n : Int) - 1) = (n : Int) - 1 := IntWalk.i64_in _ (by omega)
            go_quiet (first | (go_at_call 69; exact quietC (fun n => HCd.out _) _))
            go_wp2
            go_ret
            exact ⟨ret_bool HF.out.symm, hbW.trans (below_drewN (hb6.mono hbW.size) _)⟩
          have HC4 := Lib.hid hc3
          rw [hc3] at kc1
          generalize kd s yn = kz at kc1 kc2
          clear hc3
          go_wp2_with fail
          have hwr : IntKind.i64.wrap ((n : Int) - 1) = (n : Int) - 1 := IntWalk.i64_in _ (by omega)
          go_quiet (first | (go_at_call 69; exact quietC (fun n => HCd.out _) _))
          clear hwr
          go_wp2
          go_roundw
          case rel =>
            refine ⟨j + 1, by omega, by go_num, fun i a b hi ha hb' => ?_, below_drewN hbr _⟩
            by_cases hij : i = j
            · subst hij
              rw [HX.out] at ha
              rw [HY.out] at hb'
              injection ha with ha
              injection hb' with hb'
              rw [← ha, ← hb']
              exact ⟨hxr, HC4.out⟩
            · exact HA2.out i a b (by omega) ha hb'
          case measure => simp [intOf]; omega
        · obtain rfl : lf = j := by omega
          have hfr : 0 ≤ fres ∧ fres < (n : Int) := by
            by_cases hk0 : k = 0
            · rw [(HSM.out hk0).2]
              exact hc2
            · have := (HFA.out (by omega)).res
              rw [HN.out] at this
              exact this
          obtain ⟨dn, rfl⟩ := Int.eq_ofNat_of_zero_le hc2.1
          obtain ⟨fn, rfl⟩ := Int.eq_ofNat_of_zero_le hfr.1
          obtain ⟨bk, ok, rfl, _, kc1⟩ := kd_cell (by rw [HN.out]; exact HK.out) (by rw [HN.out]; exact h8) (VK.out.below hb6) (k := dn) (by rw [HN.out]; omega)
          obtain ⟨_, _, hA, _, kc2⟩ := kd_cell (by rw [HN.out]; exact HK.out) (by rw [HN.out]; exact h8) (VK.out.below hb6) (k := fn) (by rw [HN.out]; omega)
          injection hA with hA
          injection hA with hA hA'
          subst hA hA'
          by_cases hc3 : kd s dn = kd s fn
          rotate_left
          · have HF : Hid (declsOk s ⟨name, decls, ac, cm, un⟩ = false) := declsOk_false fun h => hc3 (h.all _ HF0.out _ (List.mem_of_getElem? HD.out)).kres
            generalize kd s dn = kx at *
            generalize kd s fn = kz at *
            have n1 : (kx == kz) = false := by simp [hc3]
            have n2 : ((kx : Int) == (kz : Int)) = false := by simp; omega
            have n3 : ((kx : Int) != (kz : Int)) = true := by simp; omega
            go_wp2_with fail
            go_quiet (fail)
            go_wp2
            go_ret
            exact ⟨ret_bool HF.out.symm, hbW.trans (below_drewN (hb6.mono hbW.size) _)⟩
          have HC3 := Lib.hid hc3
          rw [hc3] at kc1
          generalize kd s fn = ky at kc1 kc2
          clear hc3
          have HDO : Hid (DeclOk s ⟨fargs, fn⟩ ⟨dargs, dn⟩) := by
            refine ⟨by have := HLD.out; have := HLF.out; simp only; omega, by rw [HN.out]; exact hc2, fun x hx => ?_, HC3.out, fun i a b ha hb' => ?_⟩
            · rw [HN.out]
              obtain ⟨i, hi⟩ := List.mem_iff_getElem?.1 hx
              have hil : i < dargs.length := (List.getElem?_eq_some_iff.1 hi).1
              have hil2 := HLD.out
              have hil3 := HLF.out
              exact (HA2.out i x fargs[i] (by omega) hi (List.getElem?_eq_getElem (by omega))).1
            · have hil : i < fargs.length := (List.getElem?_eq_some_iff.1 hb').1
              have hil3 := HLF.out
              exact (HA2.out i a b (by omega) ha hb').2
          go_wp2_with fail
          go_quiet (fail)
          go_wp2
          go_roundw
          case rel =>
            refine ⟨k + 1, by omega, by go_num, fun i d hi hd => ?_, below_drewN hb6 _⟩
            by_cases hik : i = k
            · subst hik
              rw [HD.out] at hd
              injection hd with hd
              rw [← hd]
              exact HDO.out
            · exact HALL.out i d (by omega) hd
          case measure => simp [intOf]; omega
    · obtain rfl : m = k := by omega
      have HF : Hid (declsOk s ⟨name, decls, ac, cm, un⟩ = true) := declsOk_true (by
        have hm' := HM.out
        have hl' := HLF.out
        refine ⟨by simp only; omega, by simp only; omega, fun f hf => ?_, fun f hf d hd => ?_⟩
        · rw [HF0.out] at hf
          injection hf with hf
          subst hf
          simp only
          omega
        · rw [HF0.out] at hf
          injection hf with hf
          subst hf
          obtain ⟨i, hi⟩ := List.mem_iff_getElem?.1 hd
          exact HALL.out i d (by have hil : i < decls.length := (List.getElem?_eq_some_iff.1 hi).1; omega) hi)
      go_wp2
      go_ret
      exact ⟨ret_bool HF.out.symm, hbW.trans (hb.mono hbW.size)⟩
end Go.Proofs.Ytmpcbijkbgmjkaa

