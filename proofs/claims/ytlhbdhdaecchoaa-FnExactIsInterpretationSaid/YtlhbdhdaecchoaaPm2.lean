/-
  The plain machine is sound: operations that change no memory. No function of the program is named here.
-/
import Derived.Test.YtlhbdhdaecchoaaPm
set_option linter.unusedSimpArgs false
set_option linter.unusedVariables false
namespace Go.Proofs.Ytlhbdhdaecchoaa
open Go.RowKit

section
variable {w w' : World} {S S' : Nat → Prop}
/-- A row in a block whose cells are as they were; what lies deeper by S. -/
theorem RepRow.keep2 (hz : w.heap.size ≤ w'.heap.size) (hk : ∀ b o, S b → w'.cell? ⟨b, o, none⟩ = w.cell? ⟨b, o, none⟩) (hS : ∀ b, S b → S' b) (b : Nat) (hb : ∀ o, w'.cell? ⟨b, o, none⟩ = w.cell? ⟨b, o, none⟩) :
    ∀ (off : Nat) (cs : List C), RepRow w S b off cs → RepRow w' S' b off cs
  | _, [], _ => by simp [RepRow]
  | off, c :: cs, h => by
    simp only [RepRow] at h ⊢
    obtain ⟨⟨u, hu, hr⟩, h2⟩ := h
    exact ⟨⟨u, by rw [hb off]; exact hu, Rep.keep hz hk hS c u hr⟩, RepRow.keep2 hz hk hS b hb _ cs h2⟩
theorem RepVals.keep2 (hz : w.heap.size ≤ w'.heap.size) (hk : ∀ b o, S b → w'.cell? ⟨b, o, none⟩ = w.cell? ⟨b, o, none⟩) (hS : ∀ b, S b → S' b) :
    ∀ {cs : List C} {us : List Value}, RepVals w S cs us → RepVals w' S' cs us
  | [], [], _ => by simp [RepVals]
  | c :: cs, u :: us, h => by
    simp only [RepVals] at h ⊢
    exact ⟨Rep.keep hz hk hS c u h.1, RepVals.keep2 hz hk hS h.2⟩
  | [], _ :: _, h => by simp [RepVals] at h
  | _ :: _, [], h => by simp [RepVals] at h
theorem RepRow.keepAt (hz : w.heap.size ≤ w'.heap.size) (hk : ∀ b o, S b → w'.cell? ⟨b, o, none⟩ = w.cell? ⟨b, o, none⟩) (hS : ∀ b, S b → S' b) (b : Nat) :
    ∀ (off : Nat) (cs : List C), (∀ j, j < cs.length → w'.cell? ⟨b, off + j, none⟩ = w.cell? ⟨b, off + j, none⟩) → RepRow w S b off cs → RepRow w' S' b off cs
  | _, [], _, _ => by simp [RepRow]
  | off, c :: cs, hb, h => by
    simp only [RepRow] at h ⊢
    obtain ⟨⟨u, hu, hr⟩, h2⟩ := h
    exact ⟨⟨u, by have := hb 0 (by simp); rw [Nat.add_zero] at this; rw [this]; exact hu, Rep.keep hz hk hS c u hr⟩,
      RepRow.keepAt hz hk hS b _ cs (fun j hj => by have := hb (j + 1) (by simp; omega); rw [show off + 1 + j = off + (j + 1) by omega]; exact this) h2⟩
theorem RepRow.of_vals {b : Nat} : ∀ (cs : List C) (vs : List Value) (off : Nat), RepVals w S cs vs → (∀ j u, vs[j]? = some u → w.cell? ⟨b, off + j, none⟩ = some u) → RepRow w S b off cs
  | [], _, _, _, _ => by simp [RepRow]
  | c :: cs, [], _, h, _ => by simp [RepVals] at h
  | c :: cs, v :: vs, off, h1, h2 => by
    simp only [RepVals, RepRow] at h1 ⊢
    exact ⟨⟨v, by simpa using h2 0 v (by simp), h1.1⟩, RepRow.of_vals cs vs (off + 1) h1.2 (fun j u hj => by have := h2 (j + 1) u (by simpa using hj); rw [show off + 1 + j = off + (j + 1) by omega]; exact this)⟩
theorem RepRow.append {b : Nat} : ∀ (xs ys : List C) (off : Nat), RepRow w S b off xs → RepRow w S b (off + xs.length) ys → RepRow w S b off (xs ++ ys)
  | [], ys, off, _, h2 => by simpa using h2
  | x :: xs, ys, off, h1, h2 => by
    simp only [RepRow, List.cons_append] at h1 ⊢
    refine ⟨h1.1, RepRow.append xs ys (off + 1) h1.2 ?_⟩
    rw [show off + 1 + xs.length = off + (x :: xs).length by simp; omega]
    exact h2
theorem DRel.keep (hz : w.heap.size ≤ w'.heap.size) (hk : ∀ b o, S b → w'.cell? ⟨b, o, none⟩ = w.cell? ⟨b, o, none⟩) (hS : ∀ b, S b → S' b) {x : D} {v : Value} (h : DRel w S x v) : DRel w' S' x v := by
  cases x with
  | one c => exact Rep.keep hz hk hS c v h
  | agg cs => obtain ⟨vs, hv, hr⟩ := h; exact ⟨vs, hv, RepVals.keep2 hz hk hS hr⟩
  | elt cs => obtain ⟨b, off, hv, hs, hb, hr⟩ := h; exact ⟨b, off, hv, hS b hs, Nat.lt_of_lt_of_le hb hz, RepRow.keep2 hz hk hS b (fun o => hk b o hs) off cs hr⟩
theorem DsRel.keep (hz : w.heap.size ≤ w'.heap.size) (hk : ∀ b o, S b → w'.cell? ⟨b, o, none⟩ = w.cell? ⟨b, o, none⟩) (hS : ∀ b, S b → S' b) : ∀ {xs : List D} {vs : List Value}, DsRel w S xs vs → DsRel w' S' xs vs
  | [], [], _ => by simp [DsRel]
  | x :: xs, v :: vs, h => by
    simp only [DsRel] at h ⊢
    exact ⟨DRel.keep hz hk hS h.1, DsRel.keep hz hk hS h.2⟩
  | [], _ :: _, h => by simp [DsRel] at h
  | _ :: _, [], h => by simp [DsRel] at h
theorem ARel.keep {B : Nat → Nat} (hz : w.heap.size ≤ w'.heap.size) (hk : ∀ b o, S b → w'.cell? ⟨b, o, none⟩ = w.cell? ⟨b, o, none⟩) (hS : ∀ b, S b → S' b) {x : A} {v : Value} (h : ARel w S B x v) : ARel w' S' B x v := by
  cases x with
  | undef => trivial
  | no => exact h
  | d x => exact DRel.keep hz hk hS h
  | tup xs => obtain ⟨vs, hv, hr⟩ := h; exact ⟨vs, hv, DsRel.keep hz hk hS hr⟩
  | ref m off => exact h
theorem DsRel.len : ∀ {xs : List D} {vs : List Value}, DsRel w S xs vs → vs.length = xs.length
  | [], [], _ => rfl
  | x :: xs, v :: vs, h => by simp only [DsRel] at h; simp [DsRel.len h.2]
  | [], _ :: _, h => by simp [DsRel] at h
  | _ :: _, [], h => by simp [DsRel] at h
theorem DsRel.get : ∀ {xs : List D} {vs : List Value} {i : Nat} {x : D}, DsRel w S xs vs → xs[i]? = some x → ∃ v, vs[i]? = some v ∧ DRel w S x v
  | [], _, _, _, _, hi => by simp at hi
  | x :: xs, v :: vs, 0, y, h, hi => by simp only [DsRel] at h; simp at hi; subst hi; exact ⟨v, by simp, h.1⟩
  | x :: xs, v :: vs, i + 1, y, h, hi => by simp only [DsRel] at h; have := DsRel.get h.2 (by simpa using hi); simpa using this
  | _ :: _, [], _, _, h, _ => by simp [DsRel] at h
end

/-- The world and the data of a call under way: S the blocks that stay, B the blocks of the call's own variables. -/
structure Cls (e : Env) (base : Nat) (S0 : Nat → Prop) (m : List (Nat × List C)) (w : World) (S : Nat → Prop) (B : Nat → Nat) : Prop where
  sin : ∀ b, S b → b < w.heap.size ∧ ¬ e.E b
  sfr : ∀ b, S b → S0 b ∨ base ≤ b
  ein : ∀ b, e.E b → b < base
  bsz : base ≤ w.heap.size
  own : ∀ k cs, gm m k = some cs → base ≤ B k ∧ B k < w.heap.size ∧ ¬ S (B k) ∧ (∃ arr ty, w.heap[B k]? = some (.cells arr ty (0, 0)) ∧ arr.size = cs.length) ∧ RepRow w S (B k) 0 cs
  inj : ∀ k k' cs cs', gm m k = some cs → gm m k' = some cs' → B k = B k' → k = k'
  g : e.G w

theorem cell_of_heap {w w' : World} {b : Nat} (h : w'.heap[b]? = w.heap[b]?) (o : Nat) : w'.cell? ⟨b, o, none⟩ = w.cell? ⟨b, o, none⟩ := World.cell?_of_block h

/-- After something that kept what was there, and made blocks. -/
theorem Cls.later {e : Env} {base : Nat} {S0 : Nat → Prop} {m : List (Nat × List C)} {w w' : World} {S S' : Nat → Prop} {B : Nat → Nat} (h : Cls e base S0 m w S B) (hk : Kept e.E w.heap.size w w') (hg : e.G w')
    (hS : ∀ b, S b → S' b) (hS' : ∀ b, S' b → S b ∨ (w.heap.size ≤ b ∧ b < w'.heap.size)) : Cls e base S0 m w' S' B := by
  have hz := hk.size
  have hkc : ∀ b o, S b → w'.cell? ⟨b, o, none⟩ = w.cell? ⟨b, o, none⟩ := fun b o hs => cell_of_heap (hk.block b (h.sin b hs).1 (h.sin b hs).2) o
  refine ⟨fun b hb => ?_, fun b hb => ?_, h.ein, Nat.le_trans h.bsz hz, fun k cs hm => ?_, h.inj, hg⟩
  · rcases hS' b hb with h1 | ⟨h1, h2⟩
    · exact ⟨Nat.lt_of_lt_of_le (h.sin b h1).1 hz, (h.sin b h1).2⟩
    · exact ⟨h2, fun hE => by have := h.ein b hE; have := h.bsz; omega⟩
  · rcases hS' b hb with h1 | ⟨h1, h2⟩
    · exact h.sfr b h1
    · exact .inr (Nat.le_trans h.bsz h1)
  · obtain ⟨h1, h2, h3, ⟨arr, ty, h4, h5⟩, h6⟩ := h.own k cs hm
    have hnE : ¬ e.E (B k) := fun hE => by have := h.ein _ hE; omega
    have hb := hk.block (B k) h2 hnE
    refine ⟨h1, by omega, fun hs => ?_, ⟨arr, ty, by rw [hb]; exact h4, h5⟩, RepRow.keep2 hz hkc hS _ (fun o => cell_of_heap hb o) 0 cs h6⟩
    rcases hS' _ hs with h7 | ⟨h7, _⟩
    · exact h3 h7
    · omega
theorem Cls.cell {e : Env} {base : Nat} {S0 : Nat → Prop} {m : List (Nat × List C)} {w w' : World} {S : Nat → Prop} {B : Nat → Nat} (h : Cls e base S0 m w S B) (hk : Kept e.E w.heap.size w w') : ∀ b o, S b → w'.cell? ⟨b, o, none⟩ = w.cell? ⟨b, o, none⟩ :=
  fun b o hs => cell_of_heap (hk.block b (h.sin b hs).1 (h.sin b hs).2) o

/-- Whatever world of the kind, and whatever values for the operands: the operation gives a value for α. -/
def GivesA (e : Env) (base : Nat) (S0 : Nat → Prop) (m : List (Nat × List C)) (o : Oper) (ρ : Operand → A) (α : A) : Prop :=
  ∀ (w : World) (S : Nat → Prop) (B : Nat → Nat) (ρv : Operand → Value), Cls e base S0 m w S B → (∀ x, x ∈ o.op.operands → ARel w S B (ρ x) (ρv x)) →
    gives e.P o ρv w fun v w' => ∃ S' : Nat → Prop, (∀ b, S b → S' b) ∧ Cls e base S0 m w' S' B ∧ Kept e.E w.heap.size w w' ∧ ARel w' S' B α v

section
variable {e : Env} {base : Nat} {S0 : Nat → Prop} {m : List (Nat × List C)} {o : Oper} {ρ : Operand → A} {α : A}
theorem givesA_pure (h : ∀ (w : World) (S : Nat → Prop) (B : Nat → Nat) (ρv : Operand → Value), Cls e base S0 m w S B → (∀ x, x ∈ o.op.operands → ARel w S B (ρ x) (ρv x)) → ∃ v, (execOp ρv o).run e.P w = .ok (.value v) w ∧ ARel w S B α v) :
    GivesA e base S0 m o ρ α := by
  intro w S B ρv hC hr
  obtain ⟨v, hv, ha⟩ := h w S B ρv hC hr
  unfold gives
  rw [hv]
  exact ⟨S, fun _ h => h, hC, Kept.refl _ _ _, ha⟩

theorem RepRow.drop {w : World} {S : Nat → Prop} {b : Nat} : ∀ {cs : List C} {off : Nat} (n : Nat), RepRow w S b off cs → RepRow w S b (off + n) (cs.drop n)
  | cs, off, 0, h => by simpa using h
  | [], off, n + 1, h => by simp [RepRow]
  | c :: cs, off, n + 1, h => by
    simp only [RepRow] at h
    have := RepRow.drop (cs := cs) (off := off + 1) n h.2
    rw [show off + (n + 1) = off + 1 + n by omega]
    simpa using this
theorem RepRow.vals {w : World} {S : Nat → Prop} {b : Nat} : ∀ {cs : List C} {off : Nat}, RepRow w S b off cs → ∃ vs : List Value, RepVals w S cs vs ∧ ∀ j u, vs[j]? = some u → w.cell? ⟨b, off + j, none⟩ = some u
  | [], off, _ => ⟨[], by simp [RepVals], by simp⟩
  | c :: cs, off, h => by
    simp only [RepRow] at h
    obtain ⟨⟨u, hu, hr⟩, h2⟩ := h
    obtain ⟨vs, h3, h4⟩ := RepRow.vals h2
    refine ⟨u :: vs, by simp only [RepVals]; exact ⟨hr, h3⟩, fun j v hj => ?_⟩
    cases j with
    | zero => simp at hj; subst hj; simpa using hu
    | succ j => have := h4 j v (by simpa using hj); rw [show off + (j + 1) = off + 1 + j by omega]; exact this
theorem RepRow.take {w : World} {S : Nat → Prop} {b : Nat} : ∀ {cs : List C} {off : Nat} (n : Nat), RepRow w S b off cs → RepRow w S b off (cs.take n)
  | cs, off, 0, h => by simp [RepRow]
  | [], off, n + 1, h => by simp [RepRow]
  | c :: cs, off, n + 1, h => by
    simp only [RepRow, List.take_succ_cons] at h ⊢
    exact ⟨h.1, RepRow.take n h.2⟩
theorem RepVals.drop {w : World} {S : Nat → Prop} : ∀ {cs : List C} {vs : List Value} (n : Nat), RepVals w S cs vs → RepVals w S (cs.drop n) (vs.drop n)
  | cs, vs, 0, h => by simpa using h
  | [], [], n + 1, h => by simp [RepVals]
  | c :: cs, v :: vs, n + 1, h => by
    simp only [RepVals] at h
    simpa using RepVals.drop n h.2
  | [], _ :: _, _ + 1, h => by simp [RepVals] at h
  | _ :: _, [], _ + 1, h => by simp [RepVals] at h
theorem RepVals.take {w : World} {S : Nat → Prop} : ∀ {cs : List C} {vs : List Value} (n : Nat), RepVals w S cs vs → RepVals w S (cs.take n) (vs.take n)
  | cs, vs, 0, h => by simp [RepVals]
  | [], [], n + 1, h => by simp [RepVals]
  | c :: cs, v :: vs, n + 1, h => by
    simp only [RepVals, List.take_succ_cons] at h ⊢
    exact ⟨h.1, RepVals.take n h.2⟩
  | [], _ :: _, _ + 1, h => by simp [RepVals] at h
  | _ :: _, [], _ + 1, h => by simp [RepVals] at h

theorem Addr.add_at (b off n : Nat) : (⟨b, off, none⟩ : Addr).add n = ⟨b, off + n, none⟩ := by unfold Addr.add; split <;> simp_all
/-- Reading a value at a place in memory. -/
theorem load_at {P : Program} {w : World} {S : Nat → Prop} {Bm : Nat → Nat} {t : TypeId} {k : TK} {b off : Nat} {cs : List C} {α : A} (hk : kindT P t = some k) (hr : RepRow w S b off cs) (hv : valT k cs = some α) :
    ∃ v, (Instr.loadAt t (.pointer (some ⟨b, off, none⟩))).run P w = .ok v w ∧ ARel w S Bm α v := by
  unfold kindT at hk
  cases hu : P.underlying t with
  | none => rw [hu] at hk; simp at hk
  | some d =>
    cases hi : P.info? t with
    | none => rw [hu, hi] at hk; simp at hk
    | some i =>
      rw [hu, hi] at hk
      simp only at hk
      cases hd : isAggD d with
      | true =>
        rw [hd] at hk
        simp only [if_true, Option.some.injEq] at hk
        subst hk
        simp only [valT] at hv
        split at hv
        · rename_i hle
          injection hv with hv
          subst hv
          obtain ⟨vs, h1, h2⟩ := (hr.take i.size).vals
          have hl : vs.length = i.size := by rw [h1.len, List.length_take]; omega
          have hlc := run_loadCells_list (P := P) w ⟨b, off, none⟩ vs (fun j u hj => by rw [Addr.add_at]; exact h2 j u hj)
          rw [hl] at hlc
          refine ⟨.agg vs.toArray, ?_, vs, rfl, h1⟩
          cases d <;> simp [isAggD] at hd <;> simp [Instr.loadAt, Instr.sureAddr, loadVar, isAgg, underlying, hu, sizeOf, typeInfo, hi, hlc, Result.andThen]
        · cases hv
      | false =>
        rw [hd] at hk
        simp only [Bool.false_eq_true, if_false] at hk
        split at hk
        · injection hk with hk
          subst hk
          cases cs with
          | nil => simp [valT] at hv
          | cons c cs =>
            simp only [valT, Option.some.injEq] at hv
            subst hv
            simp only [RepRow] at hr
            obtain ⟨⟨u, hu', hr'⟩, _⟩ := hr
            refine ⟨u, ?_, hr'⟩
            cases d <;> simp [isAggD] at hd <;> simp [Instr.loadAt, Instr.sureAddr, loadVar, isAgg, underlying, hu, hu', Result.andThen]
        · cases hk
end
end Go.Proofs.Ytlhbdhdaecchoaa
