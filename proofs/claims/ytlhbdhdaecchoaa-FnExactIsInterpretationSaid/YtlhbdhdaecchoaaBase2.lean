/-
  More laws on memory that the call makes.
-/
import Derived.Test.YtlhbdhdaecchoaaBase
import Derived.StillTailTactics
set_option linter.unusedSimpArgs false
set_option linter.unusedVariables false
namespace Go.Proofs.Ytlhbdhdaecchoaa
open Go.RowKit

theorem val_int {a b : Int} (h : a = b) : Value.int .i64 a = .int .i64 b := by rw [h]
theorem ret_bool {a b : Bool} (h : a = b) : Ending.returned (.bool a) = .returned (.bool b) := by rw [h]
theorem setRow_alloc (w : World) (cur us : Array Value) (t : TypeId) : (w.alloc (.cells cur t)).setRow w.heap.size us = w.alloc (.cells us t) := by
  unfold World.setRow World.alloc
  congr 1
  apply Array.ext
  · simp
  · intro i h1 h2
    simp only [Array.getElem_modify, Array.getElem_push]
    by_cases h : w.heap.size = i
    · subst h
      simp
    · simp only [h, if_false]
      have hi : i < w.heap.size := by simp at h2; omega
      simp [hi]
/-- A whole value stored into a variable that has just been made. -/
theorem wpList_store_new {P : Program} {ops : Array Oper} {rest : List Oper} {o : Oper} {a : Act} {w : World} {Q : Exit → Act → World → Prop} (hgd : o.guard = none) (ty : TypeId) (x y : Operand) (ho : o.op = .store ty x y)
    (w0 : World) (t : TypeId) (cur : Array Value) (hw : w = w0.alloc (.cells cur t)) (g : Nat) (hx : a.eval x = .pointer (some ⟨g, 0, none⟩)) (hg : g = w0.heap.size) (us : List Value) (hy : (a.eval y).cells.toList = us) (i : TypeInfo) (hi : P.info? ty = some i) (hs : i.size = us.length)
    (hc : cur.size = us.length) (h1 : ∀ u ∈ us, u.oneCell' = true)
    (h : wpList P ops Q rest (a.put o.dst undef) (w0.alloc (.cells us.toArray t))) : wpList P ops Q (o :: rest) a w := by
  subst hw
  subst hg
  refine wpList_plain hgd fun K hK => ?_
  have hst := run_storeCells_at P w0.heap.size 0 t us 0 cur (w0.alloc (.cells cur t)) (heap_alloc_new w0 _) (by omega) h1
  have hd : cur.toList.drop us.length = [] := by rw [← hc]; simp
  simp only [Nat.zero_add, List.take_zero, List.nil_append, hd, List.append_nil, setRow_alloc] at hst
  have hsz : (a.eval y).cells.size = i.size := by rw [hs, ← hy, Array.length_toList]
  unfold Oper.wp execOp
  simp only [ho, hx, Instr.storeAt, Instr.sureAddr, storeVar, Sem.run_bind, Sem.run_pure, Result.andThen_ok, sizeOf, typeInfo, hi, run_program, hsz, ne_eq, not_true_eq_false, if_false, hy, hst]
  exact hK _ _ h
end Go.Proofs.Ytlhbdhdaecchoaa
