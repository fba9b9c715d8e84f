/-
  Slices of numbers that the call itself made. No function of the program is named here.
-/
import Derived.Test.YtlhbdhdaecchoaaEnc
import Derived.Test.YtlhbdhdaecchoaaBase2
set_option linter.unusedSimpArgs false
set_option linter.unusedVariables false
namespace Go.Proofs.Ytlhbdhdaecchoaa
open Go.RowKit

/-- The slice v, made by the call (blocks from base on), holds the numbers l. -/
def Ints (w : World) (base : Nat) (v : Value) (l : List Int) : Prop := w.ownsRow base 3 1 v l.length (l.map (Value.int .i64))
section
variable {w w' : World} {base : Nat} {v : Value} {l : List Int}
theorem Ints.form (h : Ints w base v l) : ∃ A cap, v = .slice A l.length cap ∧ l.length ≤ cap ∧ cap ≤ maxLen ∧ (0 < l.length → ∃ g, A = some ⟨g, 0, none⟩ ∧ base ≤ g ∧ g < w.heap.size) := by
  obtain ⟨_, h⟩ := h
  rcases h with ⟨rfl, h0⟩ | ⟨g, cap, cur, rfl, hb, hg, hc, hm, _⟩
  · exact ⟨none, 0, by rw [h0], by omega, by simp [maxLen], fun h => by omega⟩
  · exact ⟨_, cap, rfl, hc, hm, fun _ => ⟨g, rfl, hb, (Array.getElem?_eq_some_iff.1 hg).1⟩⟩
theorem Ints.cell {g n cap : Nat} (h : Ints w base (.slice (some ⟨g, 0, none⟩) n cap) l) {i : Nat} {x : Int} (hx : l[i]? = some x) : w.cell? ⟨g, i, none⟩ = some (.int .i64 x) := by
  have := World.ownsRow.cells h (g := g) rfl i (.int .i64 x) (by rw [List.getElem?_map, hx]; rfl)
  rw [← this]
  congr 1
  unfold Addr.add
  split <;> simp_all
theorem Ints.frozen {g n cap : Nat} (h : Ints w base (.slice (some ⟨g, 0, none⟩) n cap) l) (o : Nat) : w.frozen? ⟨g, o, none⟩ = false := by
  obtain ⟨_, h⟩ := h
  rcases h with ⟨h, _⟩ | ⟨g', cap', cur, h, hb, hg, _⟩
  · cases h
  · injection h with h1
    injection h1 with h1
    injection h1 with h1
    subst h1
    exact frozen_of_row w _ o cur _ hg
theorem Ints.set {g n cap : Nat} (h : Ints w base (.slice (some ⟨g, 0, none⟩) n cap) l) {i : Nat} (hi : i < l.length) (x : Int) : Ints (w.setCell ⟨g, i, none⟩ (.int .i64 x)) base (.slice (some ⟨g, 0, none⟩) n cap) (l.set i x) := by
  obtain ⟨h0, h⟩ := h
  refine ⟨by simp, .inr ?_⟩
  rcases h with ⟨h, _⟩ | ⟨g', cap', cur, hv, hb, hg, hc, hm, hs, ht⟩
  · cases h
  · injection hv with h1 h2 h3
    injection h1 with h1
    injection h1 with h1
    subst h1
    subst h2 h3
    refine ⟨g, cap, cur.set! i (.int .i64 x), by simp, hb, ?_, by simpa using hc, hm, by simpa using hs, ?_⟩
    · unfold World.setCell
      simp [Array.getElem?_modify, hg]
    · simp only [List.length_set, Nat.mul_one] at ht ⊢
      rw [Array.set!_eq_setIfInBounds, Array.toList_setIfInBounds, List.take_set, ht, List.map_set]
theorem Ints.rep (h : Ints w base v l) : Rep w (fun b => base ≤ b) (.sl (l.map encInt)) v := by
  obtain ⟨A, cap, rfl, hc, hm, hg⟩ := h.form
  simp only [Rep]
  refine ⟨A, _, cap, rfl, by simp, hc, hm, fun h0 => ?_⟩
  obtain ⟨g, rfl, hb, hz⟩ := hg h0
  refine ⟨g, 0, rfl, hb, hz, ?_⟩
  have hall : ∀ (m : List Int) (off : Nat), (∀ i x, m[i]? = some x → w.cell? ⟨g, off + i, none⟩ = some (.int .i64 x)) → RepRows w (fun b => base ≤ b) g off (m.map encInt) := by
    intro m
    induction m with
    | nil => intro off _; simp [RepRows]
    | cons a m ih =>
      intro off hm
      simp only [List.map_cons, RepRows, encInt, RepRow, and_true, List.length_cons, List.length_nil, Nat.zero_add]
      refine ⟨⟨_, hm 0 a rfl, by simp [Rep]⟩, ih (off + 1) (fun i x hx => ?_)⟩
      have := hm (i + 1) x (by simpa using hx)
      rw [← this]
      congr 2
      omega
  exact hall l 0 (fun i x hx => by simpa using h.cell hx)
theorem Ints.below (h : Ints w base v l) (hb : Below w.heap.size w w') : Ints w' base v l := by
  refine World.ownsRow.kept (row := none) h ⟨hb.os, hb.tape, hb.output, hb.size, fun k hk _ => hb.block k hk⟩ ?_
  cases hv : v.ownBlock <;> simp
theorem Ints.base_le {base' : Nat} (h : Ints w base v l) (hb : base' ≤ base) : Ints w base' v l := by
  refine ⟨h.1, ?_⟩
  rcases h.2 with h | ⟨g, cap, cur, h1, h2, h3⟩
  · exact .inl h
  · exact .inr ⟨g, cap, cur, h1, by omega, h3⟩
theorem Ints.empty (w : World) : Ints (w.alloc (.cells #[] 3)) w.heap.size (.slice (some ⟨w.heap.size, 0, none⟩) 0 0) [] :=
  ⟨by simp, .inr ⟨w.heap.size, 0, #[], rfl, Nat.le_refl _, heap_alloc_new w _, Nat.le_refl _, by simp [maxLen], rfl, rfl⟩⟩
theorem Ints.drew (h : Ints w base v l) : Ints w.drew base v l := h
theorem Ints.alloc (h : Ints w base v l) (o : Obj) : Ints (w.alloc o) base v l := World.ownsRow.alloc h o
theorem Ints.lt (h : Ints w base v l) : ∀ k, v.ownBlock = some k → base ≤ k ∧ k < w.heap.size := World.ownsRow.lt h
end
/-- A number appended to a slice of the call's own. -/
theorem wpList_app_int {P : Program} {ops : Array Oper} {rest : List Oper} {o : Oper} {a : Act} {w : World} {Q : Exit → Act → World → Prop} (hgd : o.guard = none) (s x : Operand) (t : TypeId)
    (ho : o.op = .call { callee := .builtin .append, args := #[s, x], argTypes := #[t, t] }) (i : TypeInfo) (ht : P.underlying t = some (.slice 3)) (hi : P.info? 3 = some i) (hz : i.zero = some (.int .i64 0)) (hsize : i.size = 1) (hby : i.bytes = 8)
    (base : Nat) (v : Value) (l : List Int) (hs : a.eval s = v) (w0 : World) (u : Int) (t' : TypeId) (hw : w = w0.alloc (.cells #[.int .i64 u] t')) (hown : Ints w0 base v l) (hx : a.eval x = .slice (some ⟨w0.heap.size, 0, none⟩) 1 1) (hl : l.length ≤ 1099511627776) (hbase : base ≤ w0.heap.size)
    (h : ∀ v' w', Ints w' base v' (l ++ [u]) → (∀ B, B ≤ base → Below B w0 w') → wpList P ops Q rest (a.put o.dst v') w') : wpList P ops Q (o :: rest) a w := by
  subst hw
  refine wpList_append_own _ hgd s x t ho base 3 i (.int .i64 0) 1 8 ht hi hz hsize hby rfl (by decide) v _ _ hs (World.ownsRow.alloc hown _) ⟨w0.heap.size, 0, none⟩ 1 1 [.int .i64 u] hx rfl ?_ ?_ (by unfold maxLen; omega) (by omega) (by simp; omega) ?_
  · intro j y hj
    match j, hj with
    | 0, hj => simp at hj; subst hj; simp [Addr.add]
  · intro y hy
    simp at hy
    subst hy
    rfl
  · intro v' w' h1 h2 _
    refine h v' w' ?_ (fun B hB => ?_)
    · unfold Ints
      simpa using h1
    · refine (((Below.refl B w0).alloc (by omega) _).grown h2 (by simp; omega) ?_)
      intro k hk
      have := Ints.lt hown k hk
      omega
end Go.Proofs.Ytlhbdhdaecchoaa
