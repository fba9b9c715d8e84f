/-
  Go data as trees, and what it means that a value stands for such a tree in a world. No program is named here.
-/
import Derived.WalkKit
import Derived.WalkSpells
import Derived.WalkLawsBesides
import Derived.Lib.Hide
import Derived.Deep.Draws
set_option linter.unusedSimpArgs false
set_option linter.unusedVariables false
namespace Go.Proofs.Ytlhbdhdaecchoaa
open Go.RowKit

/-- A cell's datum: a plain value, or a slice of rows of cells. -/
inductive C where
  | lit (v : Value)
  | sl (rows : List (List C))

mutual
/-- The value v stands for the datum in the world w; every block that is met satisfies S. -/
def Rep (w : World) (S : Nat → Prop) : C → Value → Prop
  | .lit x, v => v = x
  | .sl rows, v => ∃ A n cap, v = .slice A n cap ∧ rows.length = n ∧ n ≤ cap ∧ cap ≤ maxLen ∧
      (0 < n → ∃ b off, A = some ⟨b, off, none⟩ ∧ S b ∧ b < w.heap.size ∧ RepRows w S b off rows)
def RepRows (w : World) (S : Nat → Prop) (b : Nat) : Nat → List (List C) → Prop
  | _, [] => True
  | off, r :: rs => RepRow w S b off r ∧ RepRows w S b (off + r.length) rs
def RepRow (w : World) (S : Nat → Prop) (b : Nat) : Nat → List C → Prop
  | _, [] => True
  | off, c :: cs => (∃ u, w.cell? ⟨b, off, none⟩ = some u ∧ Rep w S c u) ∧ RepRow w S b (off + 1) cs
end

/-- A list of values stands for a row. -/
def RepVals (w : World) (S : Nat → Prop) : List C → List Value → Prop
  | [], [] => True
  | c :: cs, v :: vs => Rep w S c v ∧ RepVals w S cs vs
  | _, _ => False

section
variable {w w' : World} {S S' : Nat → Prop}

theorem Rep.lit_iff {x v : Value} : Rep w S (.lit x) v ↔ v = x := by simp [Rep]

mutual
theorem Rep.keep (hz : w.heap.size ≤ w'.heap.size) (hk : ∀ b o, S b → w'.cell? ⟨b, o, none⟩ = w.cell? ⟨b, o, none⟩) (hS : ∀ b, S b → S' b) :
    ∀ (c : C) (v : Value), Rep w S c v → Rep w' S' c v
  | .lit x, v, h => by simpa [Rep] using h
  | .sl rows, v, h => by
    simp only [Rep] at h ⊢
    obtain ⟨A, n, cap, hv, hn, hc, hm, hr⟩ := h
    refine ⟨A, n, cap, hv, hn, hc, hm, fun h0 => ?_⟩
    obtain ⟨b, off, hA, hs, hb, hrows⟩ := hr h0
    exact ⟨b, off, hA, hS b hs, by omega, RepRows.keep hz hk hS b hs off rows hrows⟩
theorem RepRows.keep (hz : w.heap.size ≤ w'.heap.size) (hk : ∀ b o, S b → w'.cell? ⟨b, o, none⟩ = w.cell? ⟨b, o, none⟩) (hS : ∀ b, S b → S' b) (b : Nat) (hb : S b) :
    ∀ (off : Nat) (rows : List (List C)), RepRows w S b off rows → RepRows w' S' b off rows
  | _, [], _ => by simp [RepRows]
  | off, r :: rs, h => by
    simp only [RepRows] at h ⊢
    exact ⟨RepRow.keep hz hk hS b hb off r h.1, RepRows.keep hz hk hS b hb _ rs h.2⟩
theorem RepRow.keep (hz : w.heap.size ≤ w'.heap.size) (hk : ∀ b o, S b → w'.cell? ⟨b, o, none⟩ = w.cell? ⟨b, o, none⟩) (hS : ∀ b, S b → S' b) (b : Nat) (hb : S b) :
    ∀ (off : Nat) (cs : List C), RepRow w S b off cs → RepRow w' S' b off cs
  | _, [], _ => by simp [RepRow]
  | off, c :: cs, h => by
    simp only [RepRow] at h ⊢
    obtain ⟨⟨u, hu, hr⟩, h2⟩ := h
    exact ⟨⟨u, by rw [hk b off hb]; exact hu, Rep.keep hz hk hS c u hr⟩, RepRow.keep hz hk hS b hb _ cs h2⟩
end

mutual
theorem Rep.inside : ∀ (c : C) (v : Value), Rep w S c v → Rep w (fun b => S b ∧ b < w.heap.size) c v
  | .lit x, v, h => by simpa [Rep] using h
  | .sl rows, v, h => by
    simp only [Rep] at h ⊢
    obtain ⟨A, n, cap, hv, hn, hc, hm, hr⟩ := h
    refine ⟨A, n, cap, hv, hn, hc, hm, fun h0 => ?_⟩
    obtain ⟨b, off, hA, hs, hb, hrows⟩ := hr h0
    exact ⟨b, off, hA, ⟨hs, hb⟩, hb, RepRows.inside b off rows hrows⟩
theorem RepRows.inside (b : Nat) : ∀ (off : Nat) (rows : List (List C)), RepRows w S b off rows → RepRows w (fun b => S b ∧ b < w.heap.size) b off rows
  | _, [], _ => by simp [RepRows]
  | off, r :: rs, h => by
    simp only [RepRows] at h ⊢
    exact ⟨RepRow.inside b off r h.1, RepRows.inside b _ rs h.2⟩
theorem RepRow.inside (b : Nat) : ∀ (off : Nat) (cs : List C), RepRow w S b off cs → RepRow w (fun b => S b ∧ b < w.heap.size) b off cs
  | _, [], _ => by simp [RepRow]
  | off, c :: cs, h => by
    simp only [RepRow] at h ⊢
    obtain ⟨⟨u, hu, hr⟩, h2⟩ := h
    exact ⟨⟨u, hu, Rep.inside c u hr⟩, RepRow.inside b _ cs h2⟩
end

/-- What was there stays, whatever the call has made besides. -/
theorem Rep.below {c : C} {v : Value} (h : Rep w S c v) (hb : Below w.heap.size w w') : Rep w' S c v :=
  Rep.keep hb.size (fun b o hs => hb.cell (p := ⟨b, o, none⟩) hs.2) (fun _ hs => hs.1) c v (Rep.inside c v h)

theorem Rep.mono {c : C} {v : Value} (h : Rep w S c v) (hS : ∀ b, S b → S' b) : Rep w S' c v :=
  Rep.keep (Nat.le_refl _) (fun _ _ _ => rfl) hS c v h

theorem RepRows.get {b k : Nat} : ∀ (rows : List (List C)) (off i : Nat) (r : List C), (∀ x ∈ rows, x.length = k) → RepRows w S b off rows → rows[i]? = some r → RepRow w S b (off + i * k) r
  | [], _, _, _, _, _, hi => by simp at hi
  | x :: xs, off, 0, r, _, h, hi => by
    simp only [List.getElem?_cons_zero, Option.some.injEq] at hi
    subst hi
    simpa using h.1
  | x :: xs, off, i + 1, r, hl, h, hi => by
    have hx := hl x (by simp)
    have := RepRows.get xs (off + x.length) i r (fun y hy => hl y (by simp [hy])) h.2 (by simpa using hi)
    rw [hx] at this
    rw [Nat.add_mul]
    have e : off + k + i * k = off + (i * k + 1 * k) := by omega
    rw [e] at this
    exact this

/-! Lists of values. -/
theorem RepVals.below : ∀ {cs : List C} {us : List Value}, RepVals w S cs us → Below w.heap.size w w' → RepVals w' S cs us
  | [], [], _, _ => by simp [RepVals]
  | c :: cs, u :: us, h, hb => by
    simp only [RepVals] at h ⊢
    exact ⟨h.1.below hb, RepVals.below h.2 hb⟩
  | [], _ :: _, h, _ => by simp [RepVals] at h
  | _ :: _, [], h, _ => by simp [RepVals] at h
theorem RepVals.mono : ∀ {cs : List C} {us : List Value}, RepVals w S cs us → (∀ b, S b → S' b) → RepVals w S' cs us
  | [], [], _, _ => by simp [RepVals]
  | c :: cs, u :: us, h, hb => by
    simp only [RepVals] at h ⊢
    exact ⟨h.1.mono hb, RepVals.mono h.2 hb⟩
  | [], _ :: _, h, _ => by simp [RepVals] at h
  | _ :: _, [], h, _ => by simp [RepVals] at h
end

/-! Data of the call's own: no block is met twice, none is frozen. -/
mutual
def Own (w : World) : C → (Nat → Prop) → Value → Prop
  | .lit x, _, v => v = x
  | .sl rows, S, v => ∃ A n cap, v = .slice A n cap ∧ rows.length = n ∧ n ≤ cap ∧ cap ≤ maxLen ∧
      (0 < n → ∃ (b off : Nat) (S' : Nat → Prop), A = some ⟨b, off, none⟩ ∧ S b ∧ b < w.heap.size ∧ (∀ o, w.frozen? ⟨b, o, none⟩ = false) ∧ (∀ x, S' x → S x ∧ x ≠ b) ∧ OwnRows w b rows S' off)
def OwnRows (w : World) (b : Nat) : List (List C) → (Nat → Prop) → Nat → Prop
  | [], _, _ => True
  | r :: rs, S, off => ∃ (S1 S2 : Nat → Prop), (∀ x, S1 x → S x) ∧ (∀ x, S2 x → S x) ∧ (∀ x, S1 x → S2 x → False) ∧ OwnRow w b r S1 off ∧ OwnRows w b rs S2 (off + r.length)
def OwnRow (w : World) (b : Nat) : List C → (Nat → Prop) → Nat → Prop
  | [], _, _ => True
  | c :: cs, S, off => ∃ (S1 S2 : Nat → Prop) (u : Value), (∀ x, S1 x → S x) ∧ (∀ x, S2 x → S x) ∧ (∀ x, S1 x → S2 x → False) ∧ w.cell? ⟨b, off, none⟩ = some u ∧ Own w c S1 u ∧ OwnRow w b cs S2 (off + 1)
end
def OwnVals (w : World) : List C → (Nat → Prop) → List Value → Prop
  | [], _, [] => True
  | c :: cs, S, u :: us => ∃ (S1 S2 : Nat → Prop), (∀ x, S1 x → S x) ∧ (∀ x, S2 x → S x) ∧ (∀ x, S1 x → S2 x → False) ∧ Own w c S1 u ∧ OwnVals w cs S2 us
  | _, _, _ => False

section
variable {w w' : World}
mutual
theorem Own.rep : ∀ (c : C) (S : Nat → Prop) (v : Value), Own w c S v → Rep w S c v
  | .lit x, _, v, h => by simpa [Rep, Own] using h
  | .sl rows, S, v, h => by
    simp only [Rep, Own] at h ⊢
    obtain ⟨A, n, cap, hv, hn, hc, hm, hr⟩ := h
    refine ⟨A, n, cap, hv, hn, hc, hm, fun h0 => ?_⟩
    obtain ⟨b, off, S', hA, hs, hb, _, hS, hrows⟩ := hr h0
    exact ⟨b, off, hA, hs, hb, OwnRows.rep rows S' S b off (fun x hx => (hS x hx).1) hrows⟩
theorem OwnRows.rep : ∀ (rows : List (List C)) (S S0 : Nat → Prop) (b off : Nat), (∀ x, S x → S0 x) → OwnRows w b rows S off → RepRows w S0 b off rows
  | [], _, _, _, _, _, _ => by simp [RepRows]
  | r :: rs, S, S0, b, off, hS, h => by
    simp only [RepRows, OwnRows] at h ⊢
    obtain ⟨S1, S2, h1, h2, _, hr, hrs⟩ := h
    exact ⟨OwnRow.rep r S1 S0 b off (fun x hx => hS x (h1 x hx)) hr, OwnRows.rep rs S2 S0 b _ (fun x hx => hS x (h2 x hx)) hrs⟩
theorem OwnRow.rep : ∀ (cs : List C) (S S0 : Nat → Prop) (b off : Nat), (∀ x, S x → S0 x) → OwnRow w b cs S off → RepRow w S0 b off cs
  | [], _, _, _, _, _, _ => by simp [RepRow]
  | c :: cs, S, S0, b, off, hS, h => by
    simp only [RepRow, OwnRow] at h ⊢
    obtain ⟨S1, S2, u, h1, h2, _, hu, hc, hcs⟩ := h
    exact ⟨⟨u, hu, (Own.rep c S1 u hc).mono (fun x hx => hS x (h1 x hx))⟩, OwnRow.rep cs S2 S0 b _ (fun x hx => hS x (h2 x hx)) hcs⟩
end
theorem OwnVals.rep : ∀ (cs : List C) (S S0 : Nat → Prop) (us : List Value), (∀ x, S x → S0 x) → OwnVals w cs S us → RepVals w S0 cs us
  | [], _, _, [], _, _ => by simp [RepVals]
  | c :: cs, S, S0, u :: us, hS, h => by
    simp only [RepVals, OwnVals] at h ⊢
    obtain ⟨S1, S2, h1, h2, _, hc, hcs⟩ := h
    exact ⟨(Own.rep c S1 u hc).mono (fun x hx => hS x (h1 x hx)), OwnVals.rep cs S2 S0 us (fun x hx => hS x (h2 x hx)) hcs⟩
  | [], _, _, _ :: _, _, h => by simp [OwnVals] at h
  | _ :: _, _, _, [], _, h => by simp [OwnVals] at h

mutual
theorem Own.keep (hz : w.heap.size ≤ w'.heap.size) : ∀ (c : C) (S S' : Nat → Prop) (v : Value), (∀ b, S b → w'.heap[b]? = w.heap[b]?) → (∀ b, S b → S' b) → Own w c S v → Own w' c S' v
  | .lit x, _, _, v, _, _, h => by simpa [Own] using h
  | .sl rows, S, S', v, hk, hS, h => by
    simp only [Own] at h ⊢
    obtain ⟨A, n, cap, hv, hn, hc, hm, hr⟩ := h
    refine ⟨A, n, cap, hv, hn, hc, hm, fun h0 => ?_⟩
    obtain ⟨b, off, T, hA, hs, hb, hf, hT, hrows⟩ := hr h0
    refine ⟨b, off, T, hA, hS b hs, by omega, fun o => ?_, fun x hx => ⟨hS x (hT x hx).1, (hT x hx).2⟩, ?_⟩
    · rw [← hf o]
      exact World.frozen?_of_block (hk b hs)
    · exact OwnRows.keep hz rows T T b off (fun o _ => World.cell?_of_block (hk b hs)) (fun x hx => hk x (hT x hx).1) (fun _ h => h) hrows
theorem OwnRows.keep (hz : w.heap.size ≤ w'.heap.size) : ∀ (rows : List (List C)) (S S' : Nat → Prop) (b off : Nat), (∀ o, o < off + rows.flatten.length → w'.cell? ⟨b, o, none⟩ = w.cell? ⟨b, o, none⟩) →
    (∀ x, S x → w'.heap[x]? = w.heap[x]?) → (∀ x, S x → S' x) → OwnRows w b rows S off → OwnRows w' b rows S' off
  | [], _, _, _, _, _, _, _, _ => by simp [OwnRows]
  | r :: rs, S, S', b, off, hb, hk, hS, h => by
    simp only [OwnRows] at h ⊢
    obtain ⟨S1, S2, h1, h2, hd, hr, hrs⟩ := h
    simp only [List.flatten_cons, List.length_append] at hb
    exact ⟨S1, S2, fun x hx => hS x (h1 x hx), fun x hx => hS x (h2 x hx), hd, OwnRow.keep hz r S1 S1 b off (fun o ho => hb o (by omega)) (fun x hx => hk x (h1 x hx)) (fun _ h => h) hr,
      OwnRows.keep hz rs S2 S2 b _ (fun o ho => hb o (by omega)) (fun x hx => hk x (h2 x hx)) (fun _ h => h) hrs⟩
theorem OwnRow.keep (hz : w.heap.size ≤ w'.heap.size) : ∀ (cs : List C) (S S' : Nat → Prop) (b off : Nat), (∀ o, o < off + cs.length → w'.cell? ⟨b, o, none⟩ = w.cell? ⟨b, o, none⟩) →
    (∀ x, S x → w'.heap[x]? = w.heap[x]?) → (∀ x, S x → S' x) → OwnRow w b cs S off → OwnRow w' b cs S' off
  | [], _, _, _, _, _, _, _, _ => by simp [OwnRow]
  | c :: cs, S, S', b, off, hb, hk, hS, h => by
    simp only [OwnRow] at h ⊢
    obtain ⟨S1, S2, u, h1, h2, hd, hu, hc, hcs⟩ := h
    simp only [List.length_cons] at hb
    exact ⟨S1, S2, u, fun x hx => hS x (h1 x hx), fun x hx => hS x (h2 x hx), hd, by rw [hb off (by omega)]; exact hu, Own.keep hz c S1 S1 u (fun x hx => hk x (h1 x hx)) (fun _ h => h) hc,
      OwnRow.keep hz cs S2 S2 b _ (fun o ho => hb o (by omega)) (fun x hx => hk x (h2 x hx)) (fun _ h => h) hcs⟩
end
theorem OwnVals.keep (hz : w.heap.size ≤ w'.heap.size) : ∀ (cs : List C) (S S' : Nat → Prop) (us : List Value), (∀ b, S b → w'.heap[b]? = w.heap[b]?) → (∀ b, S b → S' b) → OwnVals w cs S us → OwnVals w' cs S' us
  | [], _, _, [], _, _, _ => by simp [OwnVals]
  | c :: cs, S, S', u :: us, hk, hS, h => by
    simp only [OwnVals] at h ⊢
    obtain ⟨S1, S2, h1, h2, hd, hc, hcs⟩ := h
    exact ⟨S1, S2, fun x hx => hS x (h1 x hx), fun x hx => hS x (h2 x hx), hd, Own.keep hz c S1 S1 u (fun x hx => hk x (h1 x hx)) (fun _ h => h) hc, OwnVals.keep hz cs S2 S2 us (fun x hx => hk x (h2 x hx)) (fun _ h => h) hcs⟩
  | [], _, _, _ :: _, _, _, h => by simp [OwnVals] at h
  | _ :: _, _, _, [], _, _, h => by simp [OwnVals] at h

/-- The cells hold the values: a row of the call's own. -/
theorem OwnRow.of_vals {b : Nat} : ∀ (cs : List C) (S : Nat → Prop) (us : List Value) (off : Nat), OwnVals w cs S us → (∀ j u, us[j]? = some u → w.cell? ⟨b, off + j, none⟩ = some u) → OwnRow w b cs S off
  | [], _, _, _, _, _ => by simp [OwnRow]
  | c :: cs, S, u :: us, off, h, hc => by
    simp only [OwnRow, OwnVals] at h ⊢
    obtain ⟨S1, S2, h1, h2, hd, hu, hus⟩ := h
    exact ⟨S1, S2, u, h1, h2, hd, by simpa using hc 0 u rfl, hu, OwnRow.of_vals cs S2 us (off + 1) hus (fun j v hv => by have := hc (j + 1) v (by simpa using hv); rw [← this]; congr 2; omega)⟩
  | _ :: _, _, [], _, h, _ => by simp [OwnVals] at h
theorem OwnRows.snoc {b : Nat} : ∀ (rows : List (List C)) (r : List C) (S S1 S2 : Nat → Prop) (off : Nat), OwnRows w b rows S1 off → OwnRow w b r S2 (off + rows.flatten.length) → (∀ x, S1 x → S x) → (∀ x, S2 x → S x) → (∀ x, S1 x → S2 x → False) → OwnRows w b (rows ++ [r]) S off
  | [], r, S, S1, S2, off, _, h2, _, e2, _ => by
    simp only [List.nil_append, OwnRows, and_true]
    exact ⟨S2, fun _ => False, e2, fun _ h => h.elim, fun _ _ h => h, by simpa using h2⟩
  | x :: xs, r, S, S1, S2, off, h1, h2, e1, e2, hd => by
    simp only [List.cons_append, OwnRows] at h1 ⊢
    obtain ⟨T1, T2, t1, t2, td, hx, hxs⟩ := h1
    refine ⟨T1, fun y => T2 y ∨ S2 y, fun y hy => e1 y (t1 y hy), fun y hy => hy.elim (fun h => e1 y (t2 y h)) (e2 y), fun y hy hy2 => hy2.elim (td y hy) (hd y (t1 y hy)), hx, ?_⟩
    refine OwnRows.snoc xs r _ T2 S2 _ hxs ?_ (fun y h => .inl h) (fun y h => .inr h) (fun y h => hd y (t2 y h))
    simp only [List.flatten_cons, List.length_append] at h2
    rw [Nat.add_assoc]
    exact h2
end

/-! Types: which rows a Go type has. -/
inductive TN where
  | int | str | ints | sub | decl | op | term | binding | bindings | occ | cond | eqn | step | link | chain | weight
inductive F where
  | int | str | bool
  | sl (t : TN)
def termF : List F := [.int, .str, .int, .sl .term]
def occF : List F := [.sl .int, .sl .term, .sl .term, .sl .binding]
def fieldsOf : TN → List F
  | .int => [.int]
  | .str => [.str]
  | .ints => [.sl .int]
  | .sub => [.int, .int]
  | .decl => [.sl .int, .int]
  | .op => [.str, .sl .decl, .bool, .bool, .int]
  | .term => termF
  | .binding => termF ++ termF
  | .bindings => [.sl .binding]
  | .occ => occF
  | .cond => termF ++ termF
  | .eqn => termF ++ termF ++ [.sl .cond]
  | .step => [.int] ++ occF ++ termF
  | .link => [.int] ++ occF ++ [.sl .chain]
  | .chain => termF ++ termF ++ [.sl .link]
  | .weight => [.int, .sl .int]
/-- The number is an int of 64 bits. -/
def I64 (n : Int) : Prop := -9223372036854775808 ≤ n ∧ n ≤ 9223372036854775807
def sortsF : List F := [.sl .str, .sl .sub]
def sigF : List F := sortsF ++ [.sl .op]
def moduleF : List F := sigF ++ [.sl .eqn, .sl .eqn]
def algF : List F := [.int, .sl .ints]
mutual
def okC : F → C → Prop
  | .int, .lit v => ∃ n : Int, v = .int .i64 n ∧ I64 n
  | .str, .lit v => ∃ s : ByteArray, v = .string s ∧ s.size ≤ maxLen
  | .bool, .lit v => ∃ b : Bool, v = .bool b
  | .sl t, .sl rows => okRows (fieldsOf t) rows
  | .int, .sl _ => False
  | .str, .sl _ => False
  | .bool, .sl _ => False
  | .sl _, .lit _ => False
def okRows (fs : List F) : List (List C) → Prop
  | [] => True
  | r :: rs => okRow fs r ∧ okRows fs rs
def okRow : List F → List C → Prop
  | [], [] => True
  | f :: fs, c :: cs => okC f c ∧ okRow fs cs
  | [], _ :: _ => False
  | _ :: _, [] => False
end
mutual
/-- How many values and letters a datum holds, as the laws count them. -/
def bulkC : C → Nat
  | .lit (.string s) => s.size
  | .lit _ => 0
  | .sl rows => rows.length + bulkRows rows
def bulkRows : List (List C) → Nat
  | [] => 0
  | r :: rs => bulkRow r + bulkRows rs
def bulkRow : List C → Nat
  | [] => 0
  | c :: cs => bulkC c + bulkRow cs
end
theorem okRow.len : ∀ {fs : List F} {cs : List C}, okRow fs cs → cs.length = fs.length
  | [], [], _ => rfl
  | f :: fs, c :: cs, h => by simp only [okRow] at h; simp [okRow.len h.2]
  | [], _ :: _, h => by simp [okRow] at h
  | _ :: _, [], h => by simp [okRow] at h
theorem okRows.get {fs : List F} : ∀ {rows : List (List C)} {i : Nat} {r : List C}, okRows fs rows → rows[i]? = some r → okRow fs r
  | [], _, _, _, h => by simp at h
  | x :: xs, 0, r, h, hi => by simp at hi; subst hi; exact h.1
  | x :: xs, i + 1, r, h, hi => okRows.get (rows := xs) (i := i) h.2 (by simpa using hi)
theorem okRows.lens {fs : List F} : ∀ {rows : List (List C)}, okRows fs rows → ∀ x ∈ rows, x.length = fs.length
  | [], _, x, hx => by simp at hx
  | r :: rs, h, x, hx => by
    rcases List.mem_cons.1 hx with rfl | hx
    · exact okRow.len h.1
    · exact okRows.lens h.2 x hx
theorem bulk_take : ∀ {rows : List (List C)} {k : Nat} {r : List C}, rows[k]? = some r → bulkRows (rows.take (k + 1)) = bulkRows (rows.take k) + bulkRow r
  | [], _, _, h => by simp at h
  | x :: xs, 0, r, h => by simp at h; subst h; simp [bulkRows]
  | x :: xs, k + 1, r, h => by have := bulk_take (rows := xs) (k := k) (by simpa using h); simp only [List.take_succ_cons, bulkRows] at this ⊢; omega
theorem bulk_take_le : ∀ (rows : List (List C)) (k : Nat), bulkRows (rows.take k) ≤ bulkRows rows
  | [], k => by simp
  | x :: xs, 0 => by simp [bulkRows]
  | x :: xs, k + 1 => by have := bulk_take_le xs k; simp only [List.take_succ_cons, bulkRows] at this ⊢; omega
mutual
def nodesC : C → Nat
  | .lit _ => 1
  | .sl rows => 1 + nodesRows rows
def nodesRows : List (List C) → Nat
  | [] => 0
  | r :: rs => nodesRow r + nodesRows rs
def nodesRow : List C → Nat
  | [] => 0
  | c :: cs => nodesC c + nodesRow cs
end
theorem nodes_get : ∀ {rows : List (List C)} {i : Nat} {r : List C}, rows[i]? = some r → nodesRow r ≤ nodesRows rows
  | [], _, _, h => by simp at h
  | x :: xs, 0, r, h => by simp at h; subst h; simp [nodesRows]
  | x :: xs, i + 1, r, h => by have := nodes_get (rows := xs) (i := i) (by simpa using h); simp only [nodesRows]; omega

/-- What the laws' counting gives: what is left, or -1. -/
def sub (left : Int) (b : Nat) : Int := if (b : Int) ≤ left then left - b else -1
theorem sub_neg {left : Int} {b : Nat} (h : left < b) : sub left b = -1 := by unfold sub; rw [if_neg (by omega)]
theorem sub_pos {left : Int} {b : Nat} (h : (b : Int) ≤ left) : sub left b = left - b := by unfold sub; rw [if_pos h]

section
variable {w : World} {S : Nat → Prop}
theorem Rep.form {rows : List (List C)} {v : Value} (h : Rep w S (.sl rows) v) : ∃ A n cap, v = .slice A n cap ∧ rows.length = n ∧ n ≤ cap ∧ cap ≤ maxLen := by
  simp only [Rep] at h
  obtain ⟨A, n, cap, hv, hn, hc, hm, _⟩ := h
  exact ⟨A, n, cap, hv, hn, hc, hm⟩
theorem Rep.get {rows : List (List C)} {A : Option Addr} {n cap i : Nat} {fs : List F} (h : Rep w S (.sl rows) (.slice A n cap)) (hok : okRows fs rows) (hi : i < n) :
    ∃ b off r, A = some ⟨b, off, none⟩ ∧ S b ∧ b < w.heap.size ∧ rows[i]? = some r ∧ okRow fs r ∧ RepRow w S b (off + i * fs.length) r := by
  simp only [Rep] at h
  obtain ⟨A', n', cap', hv, hn, hc, hm, hr⟩ := h
  injection hv with e1 e2 e3
  subst e1 e2 e3
  obtain ⟨b, off, hA, hs, hb, hrows⟩ := hr (by omega)
  have hget : rows[i]? = some rows[i] := List.getElem?_eq_getElem (by omega)
  exact ⟨b, off, rows[i], hA, hs, hb, hget, hok.get hget, RepRows.get rows off i _ (fun x hx => hok.lens x hx) hrows hget⟩
end

theorem bulk_get : ∀ {rows : List (List C)} {i : Nat} {r : List C}, rows[i]? = some r → bulkRow r ≤ bulkRows rows
  | [], _, _, h => by simp at h
  | x :: xs, 0, r, h => by simp at h; subst h; simp [bulkRows]
  | x :: xs, i + 1, r, h => by have := bulk_get (rows := xs) (i := i) (by simpa using h); simp only [bulkRows]; omega
theorem ret_int {k : IntKind} {a b : Int} (h : a = b) : Ending.returned (.int k a) = .returned (.int k b) := by rw [h]

/-- On the blocks of S the world w' is as w was; no block has gone. -/
structure Same (S : Nat → Prop) (w w' : World) : Prop where
  size : w.heap.size ≤ w'.heap.size
  block : ∀ b, S b → w'.heap[b]? = w.heap[b]?
theorem Same.refl (S : Nat → Prop) (w : World) : Same S w w := ⟨Nat.le_refl _, fun _ _ => rfl⟩
theorem Same.trans {S : Nat → Prop} {a b c : World} (h : Same S a b) (k : Same S b c) : Same S a c := ⟨Nat.le_trans h.size k.size, fun x hx => (k.block x hx).trans (h.block x hx)⟩
theorem Same.mono {S S' : Nat → Prop} {a b : World} (h : Same S a b) (hS : ∀ x, S' x → S x) : Same S' a b := ⟨h.size, fun x hx => h.block x (hS x hx)⟩
theorem Same.setCell (S : Nat → Prop) (w : World) (p : Addr) (u : Value) (h : ¬ S p.block) : Same S w (w.setCell p u) :=
  ⟨by simp [World.setCell], fun b hb => Below.heap_setCell _ _ _ _ (fun e => h (e ▸ hb))⟩
theorem Same.drew (S : Nat → Prop) (w : World) : Same S w w.drew := ⟨Nat.le_refl _, fun _ _ => rfl⟩
theorem Same.below {B : Nat} {w w' : World} (h : Below B w w') : Same (· < B) w w' := ⟨h.size, h.block⟩
theorem Own.same {w w' : World} {c : C} {S : Nat → Prop} {v : Value} (h : Own w c S v) (k : Same S w w') : Own w' c S v := Own.keep k.size c S S v k.block (fun _ h => h) h
theorem OwnVals.same {w w' : World} {cs : List C} {S : Nat → Prop} {us : List Value} (h : OwnVals w cs S us) (k : Same S w w') : OwnVals w' cs S us := OwnVals.keep k.size cs S S us k.block (fun _ h => h) h
theorem Own.mono {w : World} {c : C} {S S' : Nat → Prop} {v : Value} (h : Own w c S v) (k : ∀ x, S x → S' x) : Own w c S' v := Own.keep (Nat.le_refl _) c S S' v (fun _ _ => rfl) k h
theorem OwnVals.mono {w : World} {cs : List C} {S S' : Nat → Prop} {us : List Value} (h : OwnVals w cs S us) (k : ∀ x, S x → S' x) : OwnVals w cs S' us := OwnVals.keep (Nat.le_refl _) cs S S' us (fun _ _ => rfl) k h
theorem OwnVals.lit {w : World} {cs : List C} {S : Nat → Prop} {us : List Value} {x : Value} (h : OwnVals w cs S us) : OwnVals w (.lit x :: cs) S (x :: us) :=
  ⟨fun _ => False, S, fun _ h => h.elim, fun _ h => h, fun _ h _ => h, by simp [Own], h⟩
theorem OwnVals.nil {w : World} {S : Nat → Prop} : OwnVals w [] S [] := by simp [OwnVals]
theorem OwnVals.cons {w : World} {c : C} {cs : List C} {S : Nat → Prop} (S1 S2 : Nat → Prop) {u : Value} {us : List Value} (h : Own w c S1 u) (h2 : OwnVals w cs S2 us) (e1 : ∀ x, S1 x → S x) (e2 : ∀ x, S2 x → S x) (hd : ∀ x, S1 x → S2 x → False) : OwnVals w (c :: cs) S (u :: us) :=
  ⟨S1, S2, e1, e2, hd, h, h2⟩
theorem OwnVals.append {w : World} : ∀ {cs ds : List C} {S : Nat → Prop} (S1 S2 : Nat → Prop) {us vs : List Value}, OwnVals w cs S1 us → OwnVals w ds S2 vs → (∀ x, S1 x → S x) → (∀ x, S2 x → S x) → (∀ x, S1 x → S2 x → False) → OwnVals w (cs ++ ds) S (us ++ vs)
  | [], ds, S, S1, S2, [], vs, _, h2, _, e2, _ => by simpa using h2.mono e2
  | c :: cs, ds, S, S1, S2, u :: us, vs, h1, h2, e1, e2, hd => by
    simp only [OwnVals, List.cons_append] at h1 ⊢
    obtain ⟨T1, T2, t1, t2, td, hu, hus⟩ := h1
    exact ⟨T1, fun y => T2 y ∨ S2 y, fun y hy => e1 y (t1 y hy), fun y hy => hy.elim (fun h => e1 y (t2 y h)) (e2 y), fun y hy hy2 => hy2.elim (td y hy) (hd y (t1 y hy)), hu,
      OwnVals.append T2 S2 hus h2 (fun y h => .inl h) (fun y h => .inr h) (fun y h => hd y (t2 y h))⟩
  | [], _, _, _, _, _ :: _, _, h, _, _, _, _ => by simp [OwnVals] at h
  | _ :: _, _, _, _, _, [], _, h, _, _, _, _ => by simp [OwnVals] at h
theorem OwnVals.len {w : World} : ∀ {cs : List C} {S : Nat → Prop} {us : List Value}, OwnVals w cs S us → us.length = cs.length
  | [], _, [], _ => rfl
  | c :: cs, S, u :: us, h => by
    simp only [OwnVals] at h
    obtain ⟨_, _, _, _, _, _, h2⟩ := h
    simp [OwnVals.len h2]
  | [], _, _ :: _, h => by simp [OwnVals] at h
  | _ :: _, _, [], h => by simp [OwnVals] at h
theorem RepVals.len {w : World} {S : Nat → Prop} : ∀ {cs : List C} {us : List Value}, RepVals w S cs us → us.length = cs.length
  | [], [], _ => rfl
  | c :: cs, u :: us, h => by simp only [RepVals] at h; simp [RepVals.len h.2]
  | [], _ :: _, h => by simp [RepVals] at h
  | _ :: _, [], h => by simp [RepVals] at h

theorem okC.one {w : World} {S : Nat → Prop} {f : F} {c : C} {u : Value} (h : okC f c) (hr : Rep w S c u) : u.oneCell' = true := by
  cases c with
  | lit v =>
    simp only [Rep] at hr
    subst hr
    cases f <;> simp only [okC] at h
    · obtain ⟨n, rfl, _⟩ := h; rfl
    · obtain ⟨n, rfl, _⟩ := h; rfl
    · obtain ⟨n, rfl⟩ := h; rfl
  | sl rows =>
    obtain ⟨A, n, cap, rfl, _⟩ := hr.form
    rfl
theorem okRow.one {w : World} {S : Nat → Prop} : ∀ {fs : List F} {cs : List C} {us : List Value}, okRow fs cs → RepVals w S cs us → ∀ u ∈ us, u.oneCell' = true
  | [], [], [], _, _, u, hu => by simp at hu
  | f :: fs, c :: cs, x :: us, h, hr, u, hu => by
    simp only [okRow] at h
    simp only [RepVals] at hr
    rcases List.mem_cons.1 hu with rfl | hu
    · exact h.1.one hr.1
    · exact okRow.one h.2 hr.2 u hu
  | [], _ :: _, _, h, _, _, _ => by simp [okRow] at h
  | _ :: _, [], _, h, _, _, _ => by simp [okRow] at h
  | [], [], _ :: _, _, h, _, _ => by simp [RepVals] at h
  | _ :: _, _ :: _, [], _, h, _, _ => by simp [RepVals] at h

/-- w' is w with the values us stored into block g from off on. -/
structure Put (w w' : World) (g off : Nat) (us : List Value) : Prop where
  os : w'.os = w.os
  tape : w'.tape = w.tape
  output : w'.output = w.output
  size : w'.heap.size = w.heap.size
  other : ∀ k, k ≠ g → w'.heap[k]? = w.heap[k]?
  row : ∀ cur t, w.heap[g]? = some (.cells cur t (0, 0)) → ∃ cur', w'.heap[g]? = some (.cells cur' t (0, 0)) ∧ cur'.size = cur.size
  new : ∀ j u, us[j]? = some u → w'.cell? ⟨g, off + j, none⟩ = some u
  old : ∀ o, (o < off ∨ off + us.length ≤ o) → w'.cell? ⟨g, o, none⟩ = w.cell? ⟨g, o, none⟩
theorem put_setRow (w : World) (g off : Nat) (t : TypeId) (us : List Value) (cur : Array Value) (hg : w.heap[g]? = some (.cells cur t (0, 0))) (hf : off + us.length ≤ cur.size) :
    Put w (w.setRow g (cur.toList.take off ++ us ++ cur.toList.drop (off + us.length)).toArray) g off us := by
  have hl : (cur.toList.take off).length = off := by simp; omega
  refine ⟨rfl, rfl, rfl, by simp, fun k hk => setRow_other w g k _ hk, fun cur2 t2 h2 => ?_, fun j u hu => ?_, fun o ho => ?_⟩
  · rw [hg] at h2
    injection h2 with h2
    injection h2 with h3 h4
    subst h3 h4
    exact ⟨_, setRow_heap w g cur _ t _ hg, by simp; omega⟩
  · have hj : j < us.length := (List.getElem?_eq_some_iff.1 hu).1
    rw [cell_setRow_same w g _ cur _ t _ hg, List.getElem?_toArray, List.append_assoc, List.getElem?_append_right (by omega), hl, List.getElem?_append_left (by omega)]
    rw [← hu]
    congr 1
    omega
  · rw [cell_setRow_same w g _ cur _ t _ hg, cell_of_row w g o cur t _ hg, List.getElem?_toArray, List.append_assoc]
    rcases ho with ho | ho
    · rw [List.getElem?_append_left (by omega), List.getElem?_take]
      simp [ho]
    · rw [List.getElem?_append_right (by omega), hl, List.getElem?_append_right (by omega), List.getElem?_drop]
      have e : off + us.length + (o - off - us.length) = o := by omega
      rw [e]
      simp
theorem wpList_store_put {P : Program} {ops : Array Oper} {rest : List Oper} {o : Oper} {a : Act} {w : World} {Q : Exit → Act → World → Prop} (hgd : o.guard = none) (ty : TypeId) (x y : Operand) (ho : o.op = .store ty x y)
    (g off : Nat) (hx : a.eval x = .pointer (some ⟨g, off, none⟩)) (us : List Value) (hy : (a.eval y).cells.toList = us) (i : TypeInfo) (hi : P.info? ty = some i) (hs : i.size = us.length)
    (t : TypeId) (cur : Array Value) (hg : w.heap[g]? = some (.cells cur t (0, 0))) (hf : off + us.length ≤ cur.size) (h1 : ∀ u ∈ us, u.oneCell' = true)
    (h : ∀ w', Put w w' g off us → wpList P ops Q rest (a.put o.dst undef) w') : wpList P ops Q (o :: rest) a w := by
  refine wpList_plain hgd fun K hK => ?_
  have hst := run_storeCells_at P g off t us 0 cur w hg (by simpa using hf) h1
  simp only [Nat.add_zero] at hst
  have hsz : (a.eval y).cells.size = i.size := by rw [hs, ← hy, Array.length_toList]
  unfold Oper.wp execOp
  simp only [ho, hx, Instr.storeAt, Instr.sureAddr, storeVar, Sem.run_bind, Sem.run_pure, Result.andThen_ok, sizeOf, typeInfo, hi, run_program, hsz, ne_eq, not_true_eq_false, if_false, hy, hst]
  exact hK _ _ (h _ (put_setRow w g off t us cur hg hf))

/-- A slice of m elements, made by the call in block g (of element type E, sz cells each), of which the first k stand for the first k rows. -/
def Filling (w0 : World) (g : Nat) (E : TypeId) (m sz : Nat) (rows : List (List C)) (k : Nat) (wr : World) : Prop :=
  Below g w0 wr ∧ g < wr.heap.size ∧ (∃ cur, wr.heap[g]? = some (.cells cur E (0, 0)) ∧ cur.size = m * sz) ∧ OwnRows wr g (rows.take k) (fun x => g < x ∧ x < wr.heap.size) 0
theorem Filling.start {w0 : World} {E : TypeId} {m sz : Nat} {rows : List (List C)} {cur : Array Value} (h : cur.size = m * sz) : Filling w0 w0.heap.size E m sz rows 0 (w0.alloc (.cells cur E)) :=
  ⟨(Below.refl _ _).alloc (Nat.le_refl _) _, by simp, ⟨cur, heap_alloc_new w0 _, h⟩, by simp [OwnRows]⟩
theorem flatten_take_len {fs : List F} : ∀ {rows : List (List C)}, okRows fs rows → ∀ k, k ≤ rows.length → (rows.take k).flatten.length = k * fs.length
  | [], _, k, hk => by simp at hk; subst hk; simp
  | r :: rs, h, 0, _ => by simp
  | r :: rs, h, k + 1, hk => by
    have := flatten_take_len h.2 k (by simpa using hk)
    have hl := okRow.len h.1
    simp only [List.take_succ_cons, List.flatten_cons, List.length_append, this, hl, Nat.add_mul]
    omega
theorem take_snoc {α : Type} {l : List α} {k : Nat} {x : α} (h : l[k]? = some x) : l.take (k + 1) = l.take k ++ [x] := by
  rw [List.take_add_one, h]; rfl
theorem Filling.row {w0 wr w2 : World} {g : Nat} {E : TypeId} {m sz : Nat} {rows : List (List C)} {k : Nat} (h : Filling w0 g E m sz rows k wr) (hb : Below wr.heap.size wr w2) : ∃ cur, w2.heap[g]? = some (.cells cur E (0, 0)) ∧ cur.size = m * sz := by
  obtain ⟨cur, h1, h2⟩ := h.2.2.1
  exact ⟨cur, by rw [hb.block g h.2.1]; exact h1, h2⟩
theorem Filling.step {w0 wr w2 w3 : World} {g : Nat} {E : TypeId} {m : Nat} {fs : List F} {rows : List (List C)} {k : Nat} {r : List C} {us : List Value} (h : Filling w0 g E m fs.length rows k wr) (hok : okRows fs rows) (hk : rows[k]? = some r)
    (hb : Below wr.heap.size wr w2) (hown : OwnVals w2 r (fun x => wr.heap.size ≤ x ∧ x < w2.heap.size) us) (hp : Put w2 w3 g (k * fs.length) us) : Filling w0 g E m fs.length rows (k + 1) w3 := by
  obtain ⟨h1, h2, ⟨cur, h3, h4⟩, h5⟩ := h
  have hkl : k < rows.length := (List.getElem?_eq_some_iff.1 hk).1
  have hfl := flatten_take_len hok k (by omega)
  have hsz := hb.size
  refine ⟨?_, by have := hp.size; omega, ?_, ?_⟩
  · exact (h1.trans (hb.mono (by omega))).trans ⟨hp.os, hp.tape, hp.output, by have := hp.size; omega, fun x hx => hp.other x (by omega)⟩
  · have h3' : w2.heap[g]? = some (.cells cur E (0, 0)) := by rw [hb.block g h2]; exact h3
    obtain ⟨cur', h6, h7⟩ := hp.row cur E h3'
    exact ⟨cur', h6, by omega⟩
  · rw [take_snoc hk]
    refine OwnRows.snoc (rows.take k) r _ (fun x => g < x ∧ x < wr.heap.size) (fun x => wr.heap.size ≤ x ∧ x < w2.heap.size) 0 ?_ ?_ ?_ ?_ ?_
    · refine OwnRows.keep (w := wr) (by have := hp.size; omega) _ _ _ g 0 (fun o ho => ?_) (fun x hx => ?_) (fun _ h => h) h5
      · rw [hp.old o (.inl (by omega))]
        exact World.cell?_of_block (hb.block g h2)
      · rw [hp.other x (by omega)]
        exact hb.block x (by omega)
    · refine OwnRow.of_vals r _ us _ ?_ (fun j u hu => ?_)
      · exact OwnVals.keep (w := w2) (by have := hp.size; omega) r _ _ us (fun b hb' => hp.other b (by omega)) (fun _ h => h) hown
      · have := hp.new j u hu
        rw [← this]
        congr 2
        omega
    · intro x hx
      have := hp.size
      exact ⟨hx.1, by omega⟩
    · intro x hx
      have := hp.size
      exact ⟨by omega, by omega⟩
    · intro x hx hy
      omega
theorem Filling.done {w0 wr : World} {E : TypeId} {m sz : Nat} {rows : List (List C)} (h : Filling w0 w0.heap.size E m sz rows m wr) (hm : rows.length = m) (hmx : m ≤ maxLen) :
    Own wr (.sl rows) (fun x => w0.heap.size ≤ x ∧ x < wr.heap.size) (.slice (some ⟨w0.heap.size, 0, none⟩) m m) ∧ Below w0.heap.size w0 wr := by
  obtain ⟨h1, h2, ⟨cur, h3, h4⟩, h5⟩ := h
  rw [List.take_of_length_le (by omega)] at h5
  refine ⟨?_, h1⟩
  simp only [Own]
  exact ⟨_, m, m, rfl, hm, Nat.le_refl _, hmx, fun _ => ⟨w0.heap.size, 0, _, rfl, ⟨Nat.le_refl _, h2⟩, h2, fun o => frozen_of_row wr _ o cur E h3, fun x hx => ⟨⟨by omega, hx.2⟩, by omega⟩, h5⟩⟩

theorem okC_int {c : C} (h : okC .int c) : ∃ n : Int, c = .lit (.int .i64 n) ∧ I64 n := by
  cases c <;> simp only [okC] at h
  obtain ⟨n, rfl, h⟩ := h
  exact ⟨n, rfl, h⟩
theorem okC_str {c : C} (h : okC .str c) : ∃ s : ByteArray, c = .lit (.string s) ∧ s.size ≤ maxLen := by
  cases c <;> simp only [okC] at h
  obtain ⟨n, rfl, h⟩ := h
  exact ⟨n, rfl, h⟩
theorem okC_bool {c : C} (h : okC .bool c) : ∃ b : Bool, c = .lit (.bool b) := by
  cases c <;> simp only [okC] at h
  obtain ⟨n, rfl⟩ := h
  exact ⟨n, rfl⟩
theorem okC_sl {t : TN} {c : C} (h : okC (.sl t) c) : ∃ rows, c = .sl rows ∧ okRows (fieldsOf t) rows := by
  cases c <;> simp only [okC] at h
  exact ⟨_, rfl, h⟩
theorem mk_int {n : Int} (h : I64 n) : okC .int (.lit (.int .i64 n)) := by simp only [okC]; exact ⟨n, rfl, h⟩
theorem mk_str {s : ByteArray} (h : s.size ≤ maxLen) : okC .str (.lit (.string s)) := by simp only [okC]; exact ⟨s, rfl, h⟩
theorem mk_bool {b : Bool} : okC .bool (.lit (.bool b)) := by simp only [okC]; exact ⟨b, rfl⟩
theorem mk_sl {t : TN} {rows : List (List C)} (h : okRows (fieldsOf t) rows) : okC (.sl t) (.sl rows) := by simp only [okC]; exact h
theorem bcell {W w1 : World} (hb : Below W.heap.size W w1) : (∀ b o, b < W.heap.size → w1.cell? ⟨b, o, none⟩ = W.cell? ⟨b, o, none⟩) ∧ (∀ b o, b < W.heap.size → w1.frozen? ⟨b, o, none⟩ = W.frozen? ⟨b, o, none⟩) :=
  ⟨fun b o h => hb.cell (p := ⟨b, o, none⟩) h, fun b o h => hb.frozen (p := ⟨b, o, none⟩) h⟩
theorem len1 {α : Type} {l : List α} (h : l.length = 1) : ∃ a0, l = [a0] := by
  match l, h with
  | [a0], _ => exact ⟨a0, rfl⟩
theorem RepRow.vals1 {w : World} {S : Nat → Prop} {b off : Nat} {r : List C} (h : RepRow w S b off r) (hl : r.length = 1) :
    ∃ u0, w.cell? ⟨b, off, none⟩ = some u0 ∧ RepVals w S r [u0] := by
  obtain ⟨c0, rfl⟩ := len1 hl
  simp only [RepRow, and_true, Nat.add_assoc, Nat.reduceAdd] at h
  obtain ⟨u0, k0, h0⟩ := h
  exact ⟨u0, k0, by simp only [RepVals, and_true]; exact h0⟩
theorem len2 {α : Type} {l : List α} (h : l.length = 2) : ∃ a0 a1, l = [a0, a1] := by
  match l, h with
  | [a0, a1], _ => exact ⟨a0, a1, rfl⟩
theorem RepRow.vals2 {w : World} {S : Nat → Prop} {b off : Nat} {r : List C} (h : RepRow w S b off r) (hl : r.length = 2) :
    ∃ u0 u1, w.cell? ⟨b, off, none⟩ = some u0 ∧ w.cell? ⟨b, off + 1, none⟩ = some u1 ∧ RepVals w S r [u0, u1] := by
  obtain ⟨c0, c1, rfl⟩ := len2 hl
  simp only [RepRow, and_true, Nat.add_assoc, Nat.reduceAdd] at h
  obtain ⟨⟨u0, k0, h0⟩, ⟨u1, k1, h1⟩⟩ := h
  exact ⟨u0, u1, k0, k1, by simp only [RepVals, and_true]; exact ⟨h0, h1⟩⟩
theorem len3 {α : Type} {l : List α} (h : l.length = 3) : ∃ a0 a1 a2, l = [a0, a1, a2] := by
  match l, h with
  | [a0, a1, a2], _ => exact ⟨a0, a1, a2, rfl⟩
theorem RepRow.vals3 {w : World} {S : Nat → Prop} {b off : Nat} {r : List C} (h : RepRow w S b off r) (hl : r.length = 3) :
    ∃ u0 u1 u2, w.cell? ⟨b, off, none⟩ = some u0 ∧ w.cell? ⟨b, off + 1, none⟩ = some u1 ∧ w.cell? ⟨b, off + 2, none⟩ = some u2 ∧ RepVals w S r [u0, u1, u2] := by
  obtain ⟨c0, c1, c2, rfl⟩ := len3 hl
  simp only [RepRow, and_true, Nat.add_assoc, Nat.reduceAdd] at h
  obtain ⟨⟨u0, k0, h0⟩, ⟨u1, k1, h1⟩, ⟨u2, k2, h2⟩⟩ := h
  exact ⟨u0, u1, u2, k0, k1, k2, by simp only [RepVals, and_true]; exact ⟨h0, h1, h2⟩⟩
theorem len4 {α : Type} {l : List α} (h : l.length = 4) : ∃ a0 a1 a2 a3, l = [a0, a1, a2, a3] := by
  match l, h with
  | [a0, a1, a2, a3], _ => exact ⟨a0, a1, a2, a3, rfl⟩
theorem RepRow.vals4 {w : World} {S : Nat → Prop} {b off : Nat} {r : List C} (h : RepRow w S b off r) (hl : r.length = 4) :
    ∃ u0 u1 u2 u3, w.cell? ⟨b, off, none⟩ = some u0 ∧ w.cell? ⟨b, off + 1, none⟩ = some u1 ∧ w.cell? ⟨b, off + 2, none⟩ = some u2 ∧ w.cell? ⟨b, off + 3, none⟩ = some u3 ∧ RepVals w S r [u0, u1, u2, u3] := by
  obtain ⟨c0, c1, c2, c3, rfl⟩ := len4 hl
  simp only [RepRow, and_true, Nat.add_assoc, Nat.reduceAdd] at h
  obtain ⟨⟨u0, k0, h0⟩, ⟨u1, k1, h1⟩, ⟨u2, k2, h2⟩, ⟨u3, k3, h3⟩⟩ := h
  exact ⟨u0, u1, u2, u3, k0, k1, k2, k3, by simp only [RepVals, and_true]; exact ⟨h0, h1, h2, h3⟩⟩
theorem len5 {α : Type} {l : List α} (h : l.length = 5) : ∃ a0 a1 a2 a3 a4, l = [a0, a1, a2, a3, a4] := by
  match l, h with
  | [a0, a1, a2, a3, a4], _ => exact ⟨a0, a1, a2, a3, a4, rfl⟩
theorem RepRow.vals5 {w : World} {S : Nat → Prop} {b off : Nat} {r : List C} (h : RepRow w S b off r) (hl : r.length = 5) :
    ∃ u0 u1 u2 u3 u4, w.cell? ⟨b, off, none⟩ = some u0 ∧ w.cell? ⟨b, off + 1, none⟩ = some u1 ∧ w.cell? ⟨b, off + 2, none⟩ = some u2 ∧ w.cell? ⟨b, off + 3, none⟩ = some u3 ∧ w.cell? ⟨b, off + 4, none⟩ = some u4 ∧ RepVals w S r [u0, u1, u2, u3, u4] := by
  obtain ⟨c0, c1, c2, c3, c4, rfl⟩ := len5 hl
  simp only [RepRow, and_true, Nat.add_assoc, Nat.reduceAdd] at h
  obtain ⟨⟨u0, k0, h0⟩, ⟨u1, k1, h1⟩, ⟨u2, k2, h2⟩, ⟨u3, k3, h3⟩, ⟨u4, k4, h4⟩⟩ := h
  exact ⟨u0, u1, u2, u3, u4, k0, k1, k2, k3, k4, by simp only [RepVals, and_true]; exact ⟨h0, h1, h2, h3, h4⟩⟩
theorem len6 {α : Type} {l : List α} (h : l.length = 6) : ∃ a0 a1 a2 a3 a4 a5, l = [a0, a1, a2, a3, a4, a5] := by
  match l, h with
  | [a0, a1, a2, a3, a4, a5], _ => exact ⟨a0, a1, a2, a3, a4, a5, rfl⟩
theorem RepRow.vals6 {w : World} {S : Nat → Prop} {b off : Nat} {r : List C} (h : RepRow w S b off r) (hl : r.length = 6) :
    ∃ u0 u1 u2 u3 u4 u5, w.cell? ⟨b, off, none⟩ = some u0 ∧ w.cell? ⟨b, off + 1, none⟩ = some u1 ∧ w.cell? ⟨b, off + 2, none⟩ = some u2 ∧ w.cell? ⟨b, off + 3, none⟩ = some u3 ∧ w.cell? ⟨b, off + 4, none⟩ = some u4 ∧ w.cell? ⟨b, off + 5, none⟩ = some u5 ∧ RepVals w S r [u0, u1, u2, u3, u4, u5] := by
  obtain ⟨c0, c1, c2, c3, c4, c5, rfl⟩ := len6 hl
  simp only [RepRow, and_true, Nat.add_assoc, Nat.reduceAdd] at h
  obtain ⟨⟨u0, k0, h0⟩, ⟨u1, k1, h1⟩, ⟨u2, k2, h2⟩, ⟨u3, k3, h3⟩, ⟨u4, k4, h4⟩, ⟨u5, k5, h5⟩⟩ := h
  exact ⟨u0, u1, u2, u3, u4, u5, k0, k1, k2, k3, k4, k5, by simp only [RepVals, and_true]; exact ⟨h0, h1, h2, h3, h4, h5⟩⟩
theorem len8 {α : Type} {l : List α} (h : l.length = 8) : ∃ a0 a1 a2 a3 a4 a5 a6 a7, l = [a0, a1, a2, a3, a4, a5, a6, a7] := by
  match l, h with
  | [a0, a1, a2, a3, a4, a5, a6, a7], _ => exact ⟨a0, a1, a2, a3, a4, a5, a6, a7, rfl⟩
theorem RepRow.vals8 {w : World} {S : Nat → Prop} {b off : Nat} {r : List C} (h : RepRow w S b off r) (hl : r.length = 8) :
    ∃ u0 u1 u2 u3 u4 u5 u6 u7, w.cell? ⟨b, off, none⟩ = some u0 ∧ w.cell? ⟨b, off + 1, none⟩ = some u1 ∧ w.cell? ⟨b, off + 2, none⟩ = some u2 ∧ w.cell? ⟨b, off + 3, none⟩ = some u3 ∧ w.cell? ⟨b, off + 4, none⟩ = some u4 ∧ w.cell? ⟨b, off + 5, none⟩ = some u5 ∧ w.cell? ⟨b, off + 6, none⟩ = some u6 ∧ w.cell? ⟨b, off + 7, none⟩ = some u7 ∧ RepVals w S r [u0, u1, u2, u3, u4, u5, u6, u7] := by
  obtain ⟨c0, c1, c2, c3, c4, c5, c6, c7, rfl⟩ := len8 hl
  simp only [RepRow, and_true, Nat.add_assoc, Nat.reduceAdd] at h
  obtain ⟨⟨u0, k0, h0⟩, ⟨u1, k1, h1⟩, ⟨u2, k2, h2⟩, ⟨u3, k3, h3⟩, ⟨u4, k4, h4⟩, ⟨u5, k5, h5⟩, ⟨u6, k6, h6⟩, ⟨u7, k7, h7⟩⟩ := h
  exact ⟨u0, u1, u2, u3, u4, u5, u6, u7, k0, k1, k2, k3, k4, k5, k6, k7, by simp only [RepVals, and_true]; exact ⟨h0, h1, h2, h3, h4, h5, h6, h7⟩⟩
theorem len9 {α : Type} {l : List α} (h : l.length = 9) : ∃ a0 a1 a2 a3 a4 a5 a6 a7 a8, l = [a0, a1, a2, a3, a4, a5, a6, a7, a8] := by
  match l, h with
  | [a0, a1, a2, a3, a4, a5, a6, a7, a8], _ => exact ⟨a0, a1, a2, a3, a4, a5, a6, a7, a8, rfl⟩
theorem RepRow.vals9 {w : World} {S : Nat → Prop} {b off : Nat} {r : List C} (h : RepRow w S b off r) (hl : r.length = 9) :
    ∃ u0 u1 u2 u3 u4 u5 u6 u7 u8, w.cell? ⟨b, off, none⟩ = some u0 ∧ w.cell? ⟨b, off + 1, none⟩ = some u1 ∧ w.cell? ⟨b, off + 2, none⟩ = some u2 ∧ w.cell? ⟨b, off + 3, none⟩ = some u3 ∧ w.cell? ⟨b, off + 4, none⟩ = some u4 ∧ w.cell? ⟨b, off + 5, none⟩ = some u5 ∧ w.cell? ⟨b, off + 6, none⟩ = some u6 ∧ w.cell? ⟨b, off + 7, none⟩ = some u7 ∧ w.cell? ⟨b, off + 8, none⟩ = some u8 ∧ RepVals w S r [u0, u1, u2, u3, u4, u5, u6, u7, u8] := by
  obtain ⟨c0, c1, c2, c3, c4, c5, c6, c7, c8, rfl⟩ := len9 hl
  simp only [RepRow, and_true, Nat.add_assoc, Nat.reduceAdd] at h
  obtain ⟨⟨u0, k0, h0⟩, ⟨u1, k1, h1⟩, ⟨u2, k2, h2⟩, ⟨u3, k3, h3⟩, ⟨u4, k4, h4⟩, ⟨u5, k5, h5⟩, ⟨u6, k6, h6⟩, ⟨u7, k7, h7⟩, ⟨u8, k8, h8⟩⟩ := h
  exact ⟨u0, u1, u2, u3, u4, u5, u6, u7, u8, k0, k1, k2, k3, k4, k5, k6, k7, k8, by simp only [RepVals, and_true]; exact ⟨h0, h1, h2, h3, h4, h5, h6, h7, h8⟩⟩
theorem below_drewN {B : Nat} {a w : World} (h : Below B a w) (n : Nat) : Below B a (w.drewN n) := ⟨h.os, h.tape, h.output, h.size, h.block⟩
end Go.Proofs.Ytlhbdhdaecchoaa
