/-
  A map from texts to bool that the call itself made, every entry true: a set of texts. No function of the program is named here.
-/
import Derived.Test.YtlhbdhdaecchoaaBase2
import Derived.MapKept
import Derived.ChangeMaps5
import Derived.Laws.StructEq
set_option linter.unusedSimpArgs false
set_option linter.unusedVariables false
namespace Go.Proofs.Ytlhbdhdaecchoaa
open Go.RowKit Go.MapKept Go.ChangeMaps

def Seen (w : World) (b : Nat) (l : List ByteArray) : Prop := ∃ (es : Array MapEntry) (clock : Nat), w.heap[b]? = some (.map es clock) ∧ es.toList.map (fun e => (e.key, e.val)) = l.map (fun s => (Value.string s, Value.bool true))
def hasStr (l : List ByteArray) (s : ByteArray) : Bool := l.any (fun t => s.toList == t.toList)
theorem Seen.made (w : World) : Seen (w.alloc (.map #[] 0)) w.heap.size [] := ⟨#[], 0, heap_alloc_new w _, rfl⟩
theorem Seen.lt {w : World} {b : Nat} {l : List ByteArray} (h : Seen w b l) : b < w.heap.size := by
  obtain ⟨es, clock, h, _⟩ := h
  exact (Array.getElem?_eq_some_iff.1 h).1
theorem Seen.below {w w' : World} {b : Nat} {l : List ByteArray} (h : Seen w b l) (hb : Below w.heap.size w w') : Seen w' b l := by
  have hl := h.lt
  obtain ⟨es, clock, h1, h2⟩ := h
  exact ⟨es, clock, by rw [hb.block b hl]; exact h1, h2⟩
theorem find_seen (s : ByteArray) : ∀ (es : List MapEntry) (l : List ByteArray) (i : Nat), es.map (fun e => (e.key, e.val)) = l.map (fun s => (Value.string s, Value.bool true)) →
    (hasStr l s = true → ∃ j, Instr.findNow .string (.string s) es i = some (some (j, .bool true))) ∧ (hasStr l s = false → Instr.findNow .string (.string s) es i = some none)
  | [], [], i, _ => ⟨fun h => by simp [hasStr] at h, fun _ => rfl⟩
  | [], _ :: _, _, h => by simp at h
  | _ :: _, [], _, h => by simp at h
  | e :: es, t :: ts, i, h => by
    simp only [List.map_cons, List.cons.injEq, Prod.mk.injEq] at h
    obtain ⟨⟨h1, h2⟩, h3⟩ := h
    obtain ⟨ih1, ih2⟩ := find_seen s es ts (i + 1) h3
    simp only [Instr.findNow, h1, h2, Instr.sameNow, beq_toListBytes, hasStr, List.any_cons]
    cases he : (s.toList == t.toList)
    · simp only [Bool.false_or]
      exact ⟨ih1, ih2⟩
    · simp
theorem run_seen {P : Program} {w : World} {b : Nat} {l : List ByteArray} {t k e : TypeId} (h : Seen w b l) (ht : P.underlying t = some (.map k e)) (hk : P.underlying k = some .string) (hz : (zeroValue e).run P w = .ok (.bool false) w) (s : ByteArray) :
    (Instr.lookup t (.map (some b)) (.string s) false).run P w = .ok (.bool (hasStr l s)) w := by
  obtain ⟨es, clock, h1, h2⟩ := h
  obtain ⟨f1, f2⟩ := find_seen s es.toList l 0 h2
  have hc : ∀ em, (Instr.checkKey em 10000 k (.string s)).run P w = .ok () w := fun em => MapKept.run_checkKey hk (by simp [MapKept.IsKey]) em 9999
  cases hs : hasStr l s
  rotate_left
  · obtain ⟨j, hf⟩ := f1 hs
    have := MapKept.run_findKey (w := w) hk hf
    simp [Instr.lookup, run_underlying ht, MapKept.run_getObj_map h1, hc, this, hs]
  · have := MapKept.run_findKey (w := w) hk (f2 hs)
    simp [Instr.lookup, run_underlying ht, MapKept.run_getObj_map h1, hc, this, hs, hz]
theorem run_see {P : Program} {w : World} {b : Nat} {l : List ByteArray} {t k e : TypeId} (h : Seen w b l) (ht : P.underlying t = some (.map k e)) (hk : P.underlying k = some .string) {s : ByteArray} (hs : hasStr l s = false) :
    ∃ w', (Instr.mapUpdate t (.map (some b)) (.string s) (.bool true)).run P w = .ok () w' ∧ Seen w' b (l ++ [s]) ∧ Below b w w' ∧ w.heap.size ≤ w'.heap.size ∧ ∀ x, x ≠ b → w'.heap[x]? = w.heap[x]? := by
  have hl := h.lt
  obtain ⟨es, clock, h1, h2⟩ := h
  obtain ⟨f1, f2⟩ := find_seen s es.toList l 0 h2
  have hc : ∀ em, (Instr.checkKey em 10000 k (.string s)).run P w = .ok () w := fun em => MapKept.run_checkKey hk (by simp [MapKept.IsKey]) em 9999
  have := MapKept.run_findKey (w := w) hk (f2 hs)
  refine ⟨setBlock w b (.map (es.push { key := .string s, val := .bool true, born := clock }) (clock + 1)), ?_, ⟨_, _, heap_setBlock_same h1 _, by simp [h2]⟩, ⟨rfl, rfl, rfl, by simp [setBlock], fun x hx => heap_setBlock_other h1 _ (by omega)⟩, by simp [setBlock], fun x hx => heap_setBlock_other h1 _ hx⟩
  simp [Instr.mapUpdate, run_underlying ht, MapKept.run_getObj_map h1, hc, this, MapKept.run_setObj_map _ h1, setBlock]
end Go.Proofs.Ytlhbdhdaecchoaa
