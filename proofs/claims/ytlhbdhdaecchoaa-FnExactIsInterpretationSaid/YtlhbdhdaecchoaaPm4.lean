/-
  The plain machine is sound: operations in a fixed order. No function of the program is named here.
-/
import Derived.Test.YtlhbdhdaecchoaaPm3
set_option linter.unusedSimpArgs false
set_option linter.unusedVariables false
namespace Go.Proofs.Ytlhbdhdaecchoaa
open Go.RowKit

structure Sim (e : Env) (w0 : World) (S0 : Nat → Prop) (nt : Nat) (σ : St) (a : Act) (w : World) (S : Nat → Prop) (B : Nat → Nat) : Prop where
  cls : Cls e w0.heap.size S0 σ.m w S B
  rel : ∀ t, ARel w S B (gs σ.s t) (a.tmps.getD t undef)
  size : a.tmps.size = nt
  defers : a.defers = []
  kept : Kept e.E w0.heap.size w0 w
def SimE (e : Env) (w0 : World) (S0 : Nat → Prop) (nt : Nat) (σ : St) (a : Act) (w : World) : Prop := ∃ S B, Sim e w0 S0 nt σ a w S B

section
variable {e : Env} {w0 : World} {S0 : Nat → Prop} {nt : Nat} {σ : St} {a : Act} {w : World} {S : Nat → Prop} {B : Nat → Nat} {o : Oper}
theorem Sim.eval (h : Sim e w0 S0 nt σ a w S B) (x : Operand) : ARel w S B (evA σ.s x) (a.eval x) := by
  cases x with
  | tmp t => exact h.rel t
  | const v =>
    simp only [evA, Act.eval, ARel, DRel]
    unfold toC
    split
    · simp only [Rep]; exact ⟨none, 0, 0, rfl, rfl, Nat.le_refl _, by decide, fun h => absurd h (by decide)⟩
    · simp [Rep]
  | func f => simp [evA, Act.eval, ARel, DRel, Rep]
  | global g => trivial

theorem ARel.putB {x : A} {v : Value} {k b : Nat} (h : ARel w S B x v) (hx : ∀ off, x ≠ .ref k off) : ARel w S (fun t => if t = k then b else B t) x v := by
  cases x with
  | undef => trivial
  | no => exact h
  | d x => exact h
  | tup xs => exact h
  | ref m off =>
    have : m ≠ k := fun e => hx off (by rw [e])
    simp only [ARel, this, if_false]
    exact h
theorem gs_killR (k t : Nat) : ∀ (s : List (Nat × A)), gs (killR k s) t = gs s t ∧ (∀ off, gs s t ≠ .ref k off) ∨ gs (killR k s) t = .undef
  | [] => by simp [killR, gs]
  | (t', x) :: r => by
    have ih := gs_killR k t r
    cases x with
    | ref m off =>
      simp only [killR, gs]
      by_cases ht : t = t'
      · simp only [ht, if_true]
        by_cases hm : m = k
        · simp [hm]
        · simp only [hm, if_false]
          exact .inl ⟨trivial, fun off' h => by injection h with h1 h2; exact hm h1⟩
      · simp only [ht, if_false]; exact ih
    | undef =>
      simp only [killR, gs]
      by_cases ht : t = t'
      · simp [ht]
      · simp only [ht, if_false]; exact ih
    | no =>
      simp only [killR, gs]
      by_cases ht : t = t'
      · simp [ht]
      · simp only [ht, if_false]; exact ih
    | d x =>
      simp only [killR, gs]
      by_cases ht : t = t'
      · simp [ht]
      · simp only [ht, if_false]; exact ih
    | tup x =>
      simp only [killR, gs]
      by_cases ht : t = t'
      · simp [ht]
      · simp only [ht, if_false]; exact ih

theorem getD_put {a : Act} {d t : Nat} {v : Value} (h : d < a.tmps.size) : (a.put (some d) v).tmps.getD t undef = if t = d then v else a.tmps.getD t undef := by
  by_cases ht : t = d
  · subst ht; rw [getD_put_self h]; simp
  · rw [getD_put_ne (Ne.symm ht)]; simp [ht]

/-- A new variable with these values. -/
theorem Sim.new (h : Sim e w0 S0 nt σ a w S B) (he : e.Ok) {d : Nat} (hd : d < nt) {us : Array Value} {cs : List C} {ty : TypeId} (hu : RepVals w S cs us.toList) :
    SimE e w0 S0 nt ⟨(d, .ref d 0) :: killR d σ.s, (d, cs) :: σ.m⟩ (a.put (some d) (.pointer (some ⟨w.heap.size, 0, none⟩))) (w.alloc (.cells us ty)) := by
  have hb : Below w.heap.size w (w.alloc (.cells us ty)) := belowA w _
  have hkc : ∀ b o, S b → (w.alloc (.cells us ty)).cell? ⟨b, o, none⟩ = w.cell? ⟨b, o, none⟩ := fun b o hs => cell_of_heap (hb.block b (h.cls.sin b hs).1) o
  have hz : w.heap.size ≤ (w.alloc (.cells us ty)).heap.size := hb.size
  have hz1 : (w.alloc (.cells us ty)).heap.size = w.heap.size + 1 := by simp
  have hg : e.G (w.alloc (.cells us ty)) := he.keep _ _ hz (fun b hE => hb.block b (Nat.lt_of_lt_of_le (h.cls.ein b hE) h.cls.bsz)) h.cls.g
  have hc1 := h.cls.later (S' := S) (Kept.of_below hb) hg (fun _ h => h) (fun _ h => .inl h)
  have hlt : d < a.tmps.size := by rw [h.size]; exact hd
  refine ⟨S, fun t => if t = d then w.heap.size else B t, ⟨⟨hc1.sin, hc1.sfr, hc1.ein, hc1.bsz, fun k cs' hk => ?_, fun k k' c1 c2 h1 h2 hBB => ?_, hg⟩, fun t => ?_, by simp [Act.put, h.size], by simp [Act.put, h.defers], h.kept.trans (Kept.of_below (hb.mono h.cls.bsz))⟩⟩
  · simp only [gm] at hk
    by_cases hkd : k = d
    · simp only [hkd, if_true, Option.some.injEq] at hk ⊢
      subst hk
      refine ⟨h.cls.bsz, by omega, fun hs => by have := (h.cls.sin _ hs).1; omega, ⟨us, ty, heap_alloc_new w _, by have := hu.len; simpa using this⟩, ?_⟩
      have hv := RepVals.keep2 hz hkc (fun _ h => h) hu
      exact RepRow.of_vals cs us.toList 0 hv (fun j u hj => by rw [Nat.zero_add]; exact keepNew rfl (by simpa using hj))
    · simp only [hkd, if_false] at hk ⊢
      exact hc1.own k cs' hk
  · simp only [gm] at h1 h2
    by_cases e1 : k = d
    · by_cases e2 : k' = d
      · rw [e1, e2]
      · simp only [e1, e2, if_true, if_false] at hBB h2
        have := (h.cls.own k' c2 h2).2.1
        omega
    · by_cases e2 : k' = d
      · simp only [e1, e2, if_true, if_false] at hBB h1
        have := (h.cls.own k c1 h1).2.1
        omega
      · simp only [e1, e2, if_false] at hBB h1 h2
        exact h.cls.inj k k' c1 c2 h1 h2 hBB
  · rw [getD_put hlt]
    simp only [gs]
    by_cases ht : t = d
    · simp only [ht, if_true, ARel]
    · simp only [ht, if_false]
      rcases gs_killR d t σ.s with ⟨h1, h2⟩ | h1
      · rw [h1]
        exact ((h.rel t).keep hz hkc (fun _ h => h)).putB h2
      · rw [h1]; trivial

theorem RepVals_zero {w : World} {S : Nat → Prop} : ∀ (l : List Value), RepVals w S (l.map toC) l
  | [] => by simp [RepVals]
  | v :: l => by
    simp only [List.map_cons, RepVals]
    refine ⟨?_, RepVals_zero l⟩
    unfold toC
    split
    · simp only [Rep]; exact ⟨none, 0, 0, rfl, rfl, Nat.le_refl _, by decide, fun h => absurd h (by decide)⟩
    · simp [Rep]
theorem oneCell_cells {v : Value} (h : v.oneCell' = true) : v.cells = #[v] := by
  cases v <;> simp [Value.oneCell', Value.cells] at h ⊢
theorem okCell_one {c : C} {v : Value} (h : okCell c = true) (hr : Rep w S c v) : v.oneCell' = true := by
  cases c with
  | lit x => simp only [Rep] at hr; subst hr; exact h
  | sl rows => simp only [Rep] at hr; obtain ⟨A, n, cap, rfl, _⟩ := hr; rfl
theorem okCell_all : ∀ {cs : List C} {vs : List Value}, cs.all okCell = true → RepVals w S cs vs → ∀ v ∈ vs, v.oneCell' = true
  | [], [], _, _ => by simp
  | c :: cs, v :: vs, h, hr => by
    simp only [List.all_cons, Bool.and_eq_true, RepVals] at h hr
    intro u hu
    rcases List.mem_cons.1 hu with rfl | hu
    · exact okCell_one h.1 hr.1
    · exact okCell_all h.2 hr.2 u hu
  | [], _ :: _, _, h => by simp [RepVals] at h
  | _ :: _, [], _, h => by simp [RepVals] at h
theorem cellsA_spec {x : A} {v : Value} {cs : List C} (h : cellsA x = some cs) (hr : ARel w S B x v) : RepVals w S cs v.cells.toList ∧ (∀ u ∈ v.cells.toList, u.oneCell' = true) := by
  unfold cellsA at h
  split at h
  · rename_i c
    split at h
    · rename_i hok
      injection h with h
      subst h
      have h1 := okCell_one hok hr
      rw [oneCell_cells h1]
      exact ⟨by simp only [RepVals]; exact ⟨hr, trivial⟩, by simpa using h1⟩
    · cases h
  · rename_i cs'
    split at h
    · rename_i hok
      injection h with h
      subst h
      obtain ⟨vs, rfl, hv⟩ := hr
      exact ⟨by simpa [Value.cells] using hv, by simpa [Value.cells] using okCell_all hok hv⟩
    · cases h
  · cases h

theorem Sim.put (h : Sim e w0 S0 nt σ a w S B) {α : A} {v : Value} (hv : ARel w S B α v) (hd : ∀ d, o.dst = some d → d < nt) : Sim e w0 S0 nt ⟨setA σ.s o.dst α, σ.m⟩ (a.put o.dst v) w S B := by
  cases ho : o.dst with
  | none => exact h
  | some d =>
    have hlt : d < a.tmps.size := by rw [h.size]; exact hd d ho
    refine ⟨h.cls, fun t => ?_, by simp [Act.put, h.size], by simp [Act.put, h.defers], h.kept⟩
    rw [getD_put hlt]
    simp only [setA, gs]
    split
    · exact hv
    · exact h.rel t
theorem Sim.later (h : Sim e w0 S0 nt σ a w S B) {w' : World} {S' : Nat → Prop} (hC : Cls e w0.heap.size S0 σ.m w' S' B) (hk : Kept e.E w.heap.size w w') (hS : ∀ b, S b → S' b) : Sim e w0 S0 nt σ a w' S' B :=
  ⟨hC, fun t => (h.rel t).keep hk.size (h.cls.cell hk) hS, h.size, h.defers, h.kept.trans (hk.mono h.cls.bsz)⟩

/-- A store into a variable of the call's own. -/
theorem Sim.store (h : Sim e w0 S0 nt σ a w S B) (he : e.Ok) {k off : Nat} {cs us : List C} {vs : List Value} (hm : gm σ.m k = some cs) (hl : off + us.length ≤ cs.length) (hu : RepVals w S us vs) (h1 : ∀ v ∈ vs, v.oneCell' = true) :
    ∃ w', (storeCells ⟨B k, off, none⟩ vs).run e.P w = .ok () w' ∧ SimE e w0 S0 nt ⟨σ.s, (k, cs.take off ++ us ++ cs.drop (off + us.length)) :: σ.m⟩ a w' := by
  obtain ⟨hb1, hb2, hb3, ⟨arr, ty, hb4, hb5⟩, hb6⟩ := h.cls.own k cs hm
  have hvl := hu.len
  have hst := run_storeCells_at e.P (B k) off ty vs 0 arr w hb4 (by rw [hb5]; omega) h1
  simp only [Nat.add_zero] at hst
  have hput := put_setRow w (B k) off ty vs arr hb4 (by rw [hb5]; omega)
  refine ⟨_, hst, ?_⟩
  have hheap := setRow_heap w (B k) arr (arr.toList.take off ++ vs ++ arr.toList.drop (off + vs.length)).toArray ty _ hb4
  generalize hW : w.setRow (B k) (arr.toList.take off ++ vs ++ arr.toList.drop (off + vs.length)).toArray = W at hput hheap ⊢
  have hsz : W.heap.size = w.heap.size := hput.size
  have hkc : ∀ b o, S b → W.cell? ⟨b, o, none⟩ = w.cell? ⟨b, o, none⟩ := fun b o hs => cell_of_heap (hput.other b (fun e => hb3 (e ▸ hs))) o
  have hg : e.G W := he.keep _ _ (by omega) (fun b hE => hput.other b (fun eq => by have := h.cls.ein b hE; omega)) h.cls.g
  refine ⟨S, B, ⟨⟨fun b hs => by rw [hsz]; exact h.cls.sin b hs, h.cls.sfr, h.cls.ein, by rw [hsz]; exact h.cls.bsz, fun k' cs' hk' => ?_, fun k1 k2 c1 c2 e1 e2 => ?_, hg⟩, fun t => (h.rel t).keep (by omega) hkc (fun _ h => h), h.size, h.defers,
    h.kept.trans ⟨hput.os, hput.tape, hput.output, by omega, fun b hb _ => hput.other b (by omega)⟩⟩⟩
  · simp only [gm] at hk'
    by_cases hkk : k' = k
    · simp only [hkk, if_true, Option.some.injEq] at hk' ⊢
      subst hk'
      refine ⟨hb1, by omega, hb3, ⟨_, ty, hheap, by simp; omega⟩, ?_⟩
      have hz : w.heap.size ≤ W.heap.size := by omega
      have r1 := RepRow.keepAt (S' := S) hz hkc (fun _ h => h) (B k) 0 (cs.take off) (fun j hj => hput.old _ (.inl (by simp at hj; omega))) (hb6.take off)
      have r2 : RepRow W S (B k) off us := RepRow.of_vals us vs off (RepVals.keep2 hz hkc (fun _ h => h) hu) hput.new
      have r3 := RepRow.keepAt (S' := S) hz hkc (fun _ h => h) (B k) _ (cs.drop (off + us.length)) (fun j hj => hput.old _ (.inr (by omega))) (hb6.drop (off + us.length))
      have hlo : (cs.take off).length = off := by simp; omega
      refine RepRow.append _ _ 0 (RepRow.append _ _ 0 r1 (by rw [hlo, Nat.zero_add]; exact r2)) ?_
      rw [List.length_append, hlo]
      exact r3
    · simp only [hkk, if_false] at hk'
      obtain ⟨q1, q2, q3, ⟨arr', ty', q4, q5⟩, q6⟩ := h.cls.own k' cs' hk'
      have hne : B k' ≠ B k := fun eq => hkk (h.cls.inj k' k cs' cs hk' hm eq)
      exact ⟨q1, by omega, q3, ⟨arr', ty', by rw [hput.other _ hne]; exact q4, q5⟩, RepRow.keep2 (by omega) hkc (fun _ h => h) _ (fun o => cell_of_heap (hput.other _ hne) o) 0 cs' q6⟩
  · have f1 : ∃ c, gm σ.m k1 = some c := by
      simp only [gm] at e1
      by_cases hq : k1 = k
      · exact ⟨cs, by rw [hq]; exact hm⟩
      · simp only [hq, if_false] at e1; exact ⟨_, e1⟩
    have f2 : ∃ c, gm σ.m k2 = some c := by
      simp only [gm] at e2
      by_cases hq : k2 = k
      · exact ⟨cs, by rw [hq]; exact hm⟩
      · simp only [hq, if_false] at e2; exact ⟨_, e2⟩
    obtain ⟨d1, f1⟩ := f1
    obtain ⟨d2, f2⟩ := f2
    exact h.cls.inj k1 k2 d1 d2 f1 f2
end
end Go.Proofs.Ytlhbdhdaecchoaa
