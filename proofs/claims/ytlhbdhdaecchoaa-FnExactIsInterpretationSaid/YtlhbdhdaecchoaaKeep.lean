/-
  What is known of a world stays known later. No function of the program is named here.
-/
import Derived.Test.YtlhbdhdaecchoaaBase2
set_option linter.unusedSimpArgs false
set_option linter.unusedVariables false
namespace Go.Proofs.Ytlhbdhdaecchoaa
open Go.RowKit

/-! What is known of a world stays known later. -/
section
variable {w w' : World} {S : Nat → Prop}
theorem keepA {a : Addr} {v : Value} (o : Obj) (h : w.cell? a = some v) : (w.alloc o).cell? a = some v := by
  rw [World.cell?_alloc_lt _ _ _ (World.block_lt_of_cell? w a h)]; exact h
theorem keepNew {c : Array Value} {t : TypeId} {g i : Nat} {v : Value} (hg : g = w.heap.size) (h : c[i]? = some v) : (w.alloc (.cells c t)).cell? ⟨g, i, none⟩ = some v := by
  subst hg
  simp [h]
theorem keepD {a : Addr} {v : Value} (h : w.cell? a = some v) : w.drew.cell? a = some v := h
theorem keepN {a : Addr} {v : Value} {n : Nat} (h : w.cell? a = some v) : (w.drewN n).cell? a = some v := h
theorem keepB {a : Addr} {v : Value} (hb : Below w.heap.size w w') (h : w.cell? a = some v) : w'.cell? a = some v :=
  (hb.cell (World.block_lt_of_cell? w a h)).trans h
theorem belowA (w : World) (o : Obj) : Below w.heap.size w (w.alloc o) := (Below.refl _ _).alloc (Nat.le_refl _) _
theorem belowD (w : World) : Below w.heap.size w w.drew := below_drewN (Below.refl _ _) 1
theorem belowN (w : World) (n : Nat) : Below w.heap.size w (w.drewN n) := below_drewN (Below.refl _ _) n
theorem RepVals.alloc {cs : List C} {us : List Value} (o : Obj) (h : RepVals w S cs us) : RepVals (w.alloc o) S cs us := h.below (belowA w o)
theorem RepVals.drew {cs : List C} {us : List Value} (h : RepVals w S cs us) : RepVals w.drew S cs us := h.below (belowD w)
theorem RepVals.drewN {cs : List C} {us : List Value} {n : Nat} (h : RepVals w S cs us) : RepVals (w.drewN n) S cs us := h.below (belowN w n)
theorem RepVals.later {cs : List C} {us : List Value} (hb : Below w.heap.size w w') (h : RepVals w S cs us) : RepVals w' S cs us := h.below hb
theorem Rep.alloc {c : C} {v : Value} (o : Obj) (h : Rep w S c v) : Rep (w.alloc o) S c v := h.below (belowA w o)
theorem Rep.drew {c : C} {v : Value} (h : Rep w S c v) : Rep w.drew S c v := h.below (belowD w)
theorem Rep.drewN {c : C} {v : Value} {n : Nat} (h : Rep w S c v) : Rep (w.drewN n) S c v := h.below (belowN w n)
theorem Rep.later {c : C} {v : Value} (hb : Below w.heap.size w w') (h : Rep w S c v) : Rep w' S c v := h.below hb
/-- One after the other, the first of them from the world where one began. -/
theorem Below.later {B : Nat} {a : World} (hb : Below w.heap.size w w') (h : Below B a w) (hB : B ≤ a.heap.size) : Below B a w' := h.trans (hb.mono (Nat.le_trans hB h.size))
end
theorem wpList_store_newN {P : Program} {ops : Array Oper} {rest : List Oper} {o : Oper} {a : Act} {w : World} {Q : Exit → Act → World → Prop} (hgd : o.guard = none) (ty : TypeId) (x y : Operand) (ho : o.op = .store ty x y)
    (w0 : World) (n : Nat) (t : TypeId) (cur : Array Value) (hw : w = (w0.alloc (.cells cur t)).drewN n) (g : Nat) (hx : a.eval x = .pointer (some ⟨g, 0, none⟩)) (hg : g = w0.heap.size) (us : List Value) (hy : (a.eval y).cells.toList = us) (i : TypeInfo) (hi : P.info? ty = some i) (hs : i.size = us.length)
    (hc : cur.size = us.length) (h1 : ∀ u ∈ us, u.oneCell' = true)
    (h : wpList P ops Q rest (a.put o.dst undef) ((w0.alloc (.cells us.toArray t)).drewN n)) : wpList P ops Q (o :: rest) a w :=
  wpList_store_new hgd ty x y ho (w0.drewN n) t cur hw g hx hg us hy i hi hs hc h1 h
/-- At this store and no other. -/
theorem atStore {P : Program} {ops : Array Oper} {rest : List Oper} {o : Oper} {a : Act} {w : World} {Q : Exit → Act → World → Prop} (ty : TypeId) (x y : Operand) (ho : o.op = .store ty x y) (h : wpList P ops Q (o :: rest) a w) : wpList P ops Q (o :: rest) a w := h
/-- A whole value stored into a variable of the call's own. -/
theorem wpList_store_row {P : Program} {ops : Array Oper} {rest : List Oper} {o : Oper} {a : Act} {w : World} {Q : Exit → Act → World → Prop} (hgd : o.guard = none) (ty : TypeId) (x y : Operand) (ho : o.op = .store ty x y)
    (g : Nat) (hx : a.eval x = .pointer (some ⟨g, 0, none⟩)) (us : List Value) (hy : (a.eval y).cells.toList = us) (i : TypeInfo) (hi : P.info? ty = some i) (hs : i.size = us.length)
    (t : TypeId) (cur : Array Value) (hg : w.heap[g]? = some (.cells cur t (0, 0))) (hf : cur.size = us.length) (h1 : ∀ u ∈ us, u.oneCell' = true)
    (h : ∀ w', Put w w' g 0 us → w'.heap[g]? = some (.cells us.toArray t (0, 0)) → wpList P ops Q rest (a.put o.dst undef) w') : wpList P ops Q (o :: rest) a w := by
  refine wpList_plain hgd fun K hK => ?_
  have hst := run_storeCells_at P g 0 t us 0 cur w hg (by simp; omega) h1
  simp only [Nat.add_zero] at hst
  have hsz : (a.eval y).cells.size = i.size := by rw [hs, ← hy, Array.length_toList]
  unfold Oper.wp execOp
  simp only [ho, hx, Instr.storeAt, Instr.sureAddr, storeVar, Sem.run_bind, Sem.run_pure, Result.andThen_ok, sizeOf, typeInfo, hi, run_program, hsz, ne_eq, not_true_eq_false, if_false, hy, hst]
  refine hK _ _ (h _ (put_setRow w g 0 t us cur hg (by omega)) ?_)
  rw [setRow_heap w g cur _ t _ hg]
  congr 2
  have hd : cur.toList.drop (0 + us.length) = [] := by rw [Nat.zero_add, ← hf]; simp
  rw [hd]
  simp
theorem Put.below {w w' : World} {g off B : Nat} {us : List Value} (h : Put w w' g off us) (hB : B ≤ g) : Below B w w' := ⟨h.os, h.tape, h.output, by have := h.size; omega, fun x hx => h.other x (by omega)⟩
end Go.Proofs.Ytlhbdhdaecchoaa
