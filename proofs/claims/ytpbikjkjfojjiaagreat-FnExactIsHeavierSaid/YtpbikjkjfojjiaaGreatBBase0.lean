/-
  Part of a proof: Base, Open, Ty, LString, LSub, LSorts, LInt, LDecl, LOp, LSignature, Enc, Base2, Ints, Bits, Up, Map, Name, Sorts, Sorts2, Kinds, List, Keep.
-/
import Derived.WalkKit
import Derived.WalkSpells
import Derived.WalkLawsBesides
import Derived.Lib.Hide
import Derived.Deep.Draws
import Derived.Test.YtpbikjkjfojjiaaGreatRows
import Derived.ChangeSame
import Derived.JoinedOf
import Derived.JoinedAt
import Derived.RowKit
import Derived.RowKit2
import Derived.OpenShut
import Derived.ProofKit
import Derived.Deep.Slices
import Derived.Carry
import Derived.Deep.QuietTactic
import Derived.BigQuiet
import Derived.Deep.RegionHeld3
import Derived.StillTailTactics
import Derived.MapKept
import Derived.ChangeMaps5
import Derived.Laws.StructEq
set_option linter.unusedSimpArgs false
set_option linter.unusedVariables false
namespace Go.Proofs.YtpbikjkjfojjiaaGreat
open Go.RowKit
/-- A cell's datum: a plain value, or a slice of rows of cells. -/
inductive C where
  | lit (v : Value)
  | sl (rows : List (List C))
  | ptr (cs : List C)
  | fn (f : Nat) (caps : List C)
mutual
/-- The value v stands for the datum in the world w; every block that is met satisfies S. -/
def Rep (w : World) (S : Nat → Prop) : C → Value → Prop
  | .lit x, v => v = x
  | .sl rows, v => ∃ A n cap, v = .slice A n cap ∧ rows.length = n ∧ n ≤ cap ∧ cap ≤ maxLen ∧
      (0 < n → ∃ b off, A = some ⟨b, off, none⟩ ∧ S b ∧ b < w.heap.size ∧ RepRows w S b off rows)
  | .ptr cs, v => ∃ b off, v = .pointer (some ⟨b, off, none⟩) ∧ S b ∧ b < w.heap.size ∧ RepRow w S b off cs
  | .fn f caps, v => ∃ us : List Value, v = .func (.func f) #[] us.toArray ∧ RepVals w S caps us
def RepRows (w : World) (S : Nat → Prop) (b : Nat) : Nat → List (List C) → Prop
  | _, [] => True
  | off, r :: rs => RepRow w S b off r ∧ RepRows w S b (off + r.length) rs
def RepRow (w : World) (S : Nat → Prop) (b : Nat) : Nat → List C → Prop
  | _, [] => True
  | off, c :: cs => (∃ u, w.cell? ⟨b, off, none⟩ = some u ∧ Rep w S c u) ∧ RepRow w S b (off + 1) cs
/-- A list of values stands for a row. -/
def RepVals (w : World) (S : Nat → Prop) : List C → List Value → Prop
  | [], [] => True
  | c :: cs, v :: vs => Rep w S c v ∧ RepVals w S cs vs
  | [], _ :: _ => False
  | _ :: _, [] => False
end
section
variable {w w' : World} {S S' : Nat → Prop}
theorem Rep.lit_iff {x v : Value} : Rep w S (.lit x) v ↔ v = x := by simp [Rep]
mutual
theorem Rep.keep (hz : w.heap.size ≤ w'.heap.size) (hk : ∀ b o, S b → w'.cell? ⟨b, o, none⟩ = w.cell? ⟨b, o, none⟩) (hS : ∀ b, S b → S' b) :
    ∀ (c : C) (v : Value), Rep w S c v → Rep w' S' c v
  | .lit x, v, h => by simpa [Rep] using h
  | .sl rows, v, h => by
    simp only [Rep] at h ⊢
    obtain ⟨A, n, cap, hv, hn, hc, hm, hr⟩ := h
    refine ⟨A, n, cap, hv, hn, hc, hm, fun h0 => ?_⟩
    obtain ⟨b, off, hA, hs, hb, hrows⟩ := hr h0
    exact ⟨b, off, hA, hS b hs, by omega, RepRows.keep hz hk hS b hs off rows hrows⟩
  | .ptr cs, v, h => by
    simp only [Rep] at h ⊢
    obtain ⟨b, off, hv, hs, hb, hr⟩ := h
    exact ⟨b, off, hv, hS b hs, by omega, RepRow.keep hz hk hS b hs off cs hr⟩
  | .fn f caps, v, h => by
    simp only [Rep] at h ⊢
    obtain ⟨us, hv, hr⟩ := h
    exact ⟨us, hv, RepVals.keepC hz hk hS caps us hr⟩
theorem RepVals.keepC (hz : w.heap.size ≤ w'.heap.size) (hk : ∀ b o, S b → w'.cell? ⟨b, o, none⟩ = w.cell? ⟨b, o, none⟩) (hS : ∀ b, S b → S' b) :
    ∀ (cs : List C) (us : List Value), RepVals w S cs us → RepVals w' S' cs us
  | [], [], _ => by simp [RepVals]
  | c :: cs, u :: us, h => by
    simp only [RepVals] at h ⊢
    exact ⟨Rep.keep hz hk hS c u h.1, RepVals.keepC hz hk hS cs us h.2⟩
  | [], _ :: _, h => by simp [RepVals] at h
  | _ :: _, [], h => by simp [RepVals] at h
theorem RepRows.keep (hz : w.heap.size ≤ w'.heap.size) (hk : ∀ b o, S b → w'.cell? ⟨b, o, none⟩ = w.cell? ⟨b, o, none⟩) (hS : ∀ b, S b → S' b) (b : Nat) (hb : S b) :
    ∀ (off : Nat) (rows : List (List C)), RepRows w S b off rows → RepRows w' S' b off rows
  | _, [], _ => by simp [RepRows]
  | off, r :: rs, h => by
    simp only [RepRows] at h ⊢
    exact ⟨RepRow.keep hz hk hS b hb off r h.1, RepRows.keep hz hk hS b hb _ rs h.2⟩
theorem RepRow.keep (hz : w.heap.size ≤ w'.heap.size) (hk : ∀ b o, S b → w'.cell? ⟨b, o, none⟩ = w.cell? ⟨b, o, none⟩) (hS : ∀ b, S b → S' b) (b : Nat) (hb : S b) :
    ∀ (off : Nat) (cs : List C), RepRow w S b off cs → RepRow w' S' b off cs
  | _, [], _ => by simp [RepRow]
  | off, c :: cs, h => by
    simp only [RepRow] at h ⊢
    obtain ⟨⟨u, hu, hr⟩, h2⟩ := h
    exact ⟨⟨u, by rw [hk b off hb]; exact hu, Rep.keep hz hk hS c u hr⟩, RepRow.keep hz hk hS b hb _ cs h2⟩
end
mutual
theorem Rep.inside : ∀ (c : C) (v : Value), Rep w S c v → Rep w (fun b => S b ∧ b < w.heap.size) c v
  | .lit x, v, h => by simpa [Rep] using h
  | .sl rows, v, h => by
    simp only [Rep] at h ⊢
    obtain ⟨A, n, cap, hv, hn, hc, hm, hr⟩ := h
    refine ⟨A, n, cap, hv, hn, hc, hm, fun h0 => ?_⟩
    obtain ⟨b, off, hA, hs, hb, hrows⟩ := hr h0
    exact ⟨b, off, hA, ⟨hs, hb⟩, hb, RepRows.inside b off rows hrows⟩
  | .ptr cs, v, h => by
    simp only [Rep] at h ⊢
    obtain ⟨b, off, hv, hs, hb, hr⟩ := h
    exact ⟨b, off, hv, ⟨hs, hb⟩, hb, RepRow.inside b off cs hr⟩
  | .fn f caps, v, h => by
    simp only [Rep] at h ⊢
    obtain ⟨us, hv, hr⟩ := h
    exact ⟨us, hv, RepVals.insideC caps us hr⟩
theorem RepVals.insideC : ∀ (cs : List C) (us : List Value), RepVals w S cs us → RepVals w (fun b => S b ∧ b < w.heap.size) cs us
  | [], [], _ => by simp [RepVals]
  | c :: cs, u :: us, h => by
    simp only [RepVals] at h ⊢
    exact ⟨Rep.inside c u h.1, RepVals.insideC cs us h.2⟩
  | [], _ :: _, h => by simp [RepVals] at h
  | _ :: _, [], h => by simp [RepVals] at h
theorem RepRows.inside (b : Nat) : ∀ (off : Nat) (rows : List (List C)), RepRows w S b off rows → RepRows w (fun b => S b ∧ b < w.heap.size) b off rows
  | _, [], _ => by simp [RepRows]
  | off, r :: rs, h => by
    simp only [RepRows] at h ⊢
    exact ⟨RepRow.inside b off r h.1, RepRows.inside b _ rs h.2⟩
theorem RepRow.inside (b : Nat) : ∀ (off : Nat) (cs : List C), RepRow w S b off cs → RepRow w (fun b => S b ∧ b < w.heap.size) b off cs
  | _, [], _ => by simp [RepRow]
  | off, c :: cs, h => by
    simp only [RepRow] at h ⊢
    obtain ⟨⟨u, hu, hr⟩, h2⟩ := h
    exact ⟨⟨u, hu, Rep.inside c u hr⟩, RepRow.inside b _ cs h2⟩
end
/-- What was there stays, whatever the call has made besides. -/
theorem Rep.below {c : C} {v : Value} (h : Rep w S c v) (hb : Below w.heap.size w w') : Rep w' S c v :=
  Rep.keep hb.size (fun b o hs => hb.cell (p := ⟨b, o, none⟩) hs.2) (fun _ hs => hs.1) c v (Rep.inside c v h)
theorem Rep.mono {c : C} {v : Value} (h : Rep w S c v) (hS : ∀ b, S b → S' b) : Rep w S' c v :=
  Rep.keep (Nat.le_refl _) (fun _ _ _ => rfl) hS c v h
theorem RepRows.get {b k : Nat} : ∀ (rows : List (List C)) (off i : Nat) (r : List C), (∀ x ∈ rows, x.length = k) → RepRows w S b off rows → rows[i]? = some r → RepRow w S b (off + i * k) r
  | [], _, _, _, _, _, hi => by simp at hi
  | x :: xs, off, 0, r, _, h, hi => by
    simp only [List.getElem?_cons_zero, Option.some.injEq] at hi
    subst hi
    simpa using h.1
  | x :: xs, off, i + 1, r, hl, h, hi => by
    have hx := hl x (by simp)
    have := RepRows.get xs (off + x.length) i r (fun y hy => hl y (by simp [hy])) h.2 (by simpa using hi)
    rw [hx] at this
    rw [Nat.add_mul]
    have e : off + k + i * k = off + (i * k + 1 * k) := by omega
    rw [e] at this
    exact this
/-! Lists of values. -/
theorem RepVals.below : ∀ {cs : List C} {us : List Value}, RepVals w S cs us → Below w.heap.size w w' → RepVals w' S cs us
  | [], [], _, _ => by simp [RepVals]
  | c :: cs, u :: us, h, hb => by
    simp only [RepVals] at h ⊢
    exact ⟨h.1.below hb, RepVals.below h.2 hb⟩
  | [], _ :: _, h, _ => by simp [RepVals] at h
  | _ :: _, [], h, _ => by simp [RepVals] at h
theorem RepVals.mono : ∀ {cs : List C} {us : List Value}, RepVals w S cs us → (∀ b, S b → S' b) → RepVals w S' cs us
  | [], [], _, _ => by simp [RepVals]
  | c :: cs, u :: us, h, hb => by
    simp only [RepVals] at h ⊢
    exact ⟨h.1.mono hb, RepVals.mono h.2 hb⟩
  | [], _ :: _, h, _ => by simp [RepVals] at h
  | _ :: _, [], h, _ => by simp [RepVals] at h
end
/-! Data of the call's own: no block is met twice, none is frozen. -/
/-- The block of a slice of the call's own: its rows lie from its start on. -/
def Room (w : World) (b off cap : Nat) (rows : List (List C)) : Prop :=
  (∀ o, w.frozen? ⟨b, o, none⟩ = false) ∧ off = 0 ∧ ∃ (cur : Array Value) (ety sz : Nat), w.heap[b]? = some (.cells cur ety (0, 0)) ∧ cur.size = cap * sz ∧ 0 < sz ∧ ∀ r ∈ rows, r.length = sz
mutual
def Own (w : World) : C → (Nat → Prop) → Value → Prop
  | .lit x, _, v => v = x
  | .sl rows, S, v => ∃ A n cap, v = .slice A n cap ∧ rows.length = n ∧ n ≤ cap ∧ cap ≤ maxLen ∧
      (0 < cap → ∃ (b off : Nat) (S' : Nat → Prop), A = some ⟨b, off, none⟩ ∧ S b ∧ b < w.heap.size ∧ Room w b off cap rows ∧ (∀ x, S' x → S x ∧ x ≠ b) ∧ OwnRows w b rows S' off)
  | .ptr _, _, _ => False
  | .fn _ _, _, _ => False
def OwnRows (w : World) (b : Nat) : List (List C) → (Nat → Prop) → Nat → Prop
  | [], _, _ => True
  | r :: rs, S, off => ∃ (S1 S2 : Nat → Prop), (∀ x, S1 x → S x) ∧ (∀ x, S2 x → S x) ∧ (∀ x, S1 x → S2 x → False) ∧ OwnRow w b r S1 off ∧ OwnRows w b rs S2 (off + r.length)
def OwnRow (w : World) (b : Nat) : List C → (Nat → Prop) → Nat → Prop
  | [], _, _ => True
  | c :: cs, S, off => ∃ (S1 S2 : Nat → Prop) (u : Value), (∀ x, S1 x → S x) ∧ (∀ x, S2 x → S x) ∧ (∀ x, S1 x → S2 x → False) ∧ w.cell? ⟨b, off, none⟩ = some u ∧ Own w c S1 u ∧ OwnRow w b cs S2 (off + 1)
end
def OwnVals (w : World) : List C → (Nat → Prop) → List Value → Prop
  | [], _, [] => True
  | c :: cs, S, u :: us => ∃ (S1 S2 : Nat → Prop), (∀ x, S1 x → S x) ∧ (∀ x, S2 x → S x) ∧ (∀ x, S1 x → S2 x → False) ∧ Own w c S1 u ∧ OwnVals w cs S2 us
  | _, _, _ => False
section
variable {w w' : World}
mutual
theorem Own.rep : ∀ (c : C) (S : Nat → Prop) (v : Value), Own w c S v → Rep w S c v
  | .lit x, _, v, h => by simpa [Rep, Own] using h
  | .sl rows, S, v, h => by
    simp only [Rep, Own] at h ⊢
    obtain ⟨A, n, cap, hv, hn, hc, hm, hr⟩ := h
    refine ⟨A, n, cap, hv, hn, hc, hm, fun h0 => ?_⟩
    obtain ⟨b, off, S', hA, hs, hb, _, hS, hrows⟩ := hr (by omega)
    exact ⟨b, off, hA, hs, hb, OwnRows.rep rows S' S b off (fun x hx => (hS x hx).1) hrows⟩
  | .ptr _, _, _, h => by simp [Own] at h
  | .fn _ _, _, _, h => by simp [Own] at h
theorem OwnRows.rep : ∀ (rows : List (List C)) (S S0 : Nat → Prop) (b off : Nat), (∀ x, S x → S0 x) → OwnRows w b rows S off → RepRows w S0 b off rows
  | [], _, _, _, _, _, _ => by simp [RepRows]
  | r :: rs, S, S0, b, off, hS, h => by
    simp only [RepRows, OwnRows] at h ⊢
    obtain ⟨S1, S2, h1, h2, _, hr, hrs⟩ := h
    exact ⟨OwnRow.rep r S1 S0 b off (fun x hx => hS x (h1 x hx)) hr, OwnRows.rep rs S2 S0 b _ (fun x hx => hS x (h2 x hx)) hrs⟩
theorem OwnRow.rep : ∀ (cs : List C) (S S0 : Nat → Prop) (b off : Nat), (∀ x, S x → S0 x) → OwnRow w b cs S off → RepRow w S0 b off cs
  | [], _, _, _, _, _, _ => by simp [RepRow]
  | c :: cs, S, S0, b, off, hS, h => by
    simp only [RepRow, OwnRow] at h ⊢
    obtain ⟨S1, S2, u, h1, h2, _, hu, hc, hcs⟩ := h
    exact ⟨⟨u, hu, (Own.rep c S1 u hc).mono (fun x hx => hS x (h1 x hx))⟩, OwnRow.rep cs S2 S0 b _ (fun x hx => hS x (h2 x hx)) hcs⟩
end
theorem OwnVals.rep : ∀ (cs : List C) (S S0 : Nat → Prop) (us : List Value), (∀ x, S x → S0 x) → OwnVals w cs S us → RepVals w S0 cs us
  | [], _, _, [], _, _ => by simp [RepVals]
  | c :: cs, S, S0, u :: us, hS, h => by
    simp only [RepVals, OwnVals] at h ⊢
    obtain ⟨S1, S2, h1, h2, _, hc, hcs⟩ := h
    exact ⟨(Own.rep c S1 u hc).mono (fun x hx => hS x (h1 x hx)), OwnVals.rep cs S2 S0 us (fun x hx => hS x (h2 x hx)) hcs⟩
  | [], _, _, _ :: _, _, h => by simp [OwnVals] at h
  | _ :: _, _, _, [], _, h => by simp [OwnVals] at h
mutual
theorem Own.keep (hz : w.heap.size ≤ w'.heap.size) : ∀ (c : C) (S S' : Nat → Prop) (v : Value), (∀ b, S b → w'.heap[b]? = w.heap[b]?) → (∀ b, S b → S' b) → Own w c S v → Own w' c S' v
  | .lit x, _, _, v, _, _, h => by simpa [Own] using h
  | .sl rows, S, S', v, hk, hS, h => by
    simp only [Own] at h ⊢
    obtain ⟨A, n, cap, hv, hn, hc, hm, hr⟩ := h
    refine ⟨A, n, cap, hv, hn, hc, hm, fun h0 => ?_⟩
    obtain ⟨b, off, T, hA, hs, hb, hf, hT, hrows⟩ := hr h0
    obtain ⟨hf, hf0, cur, ety, sz, hf1, hf2⟩ := hf
    refine ⟨b, off, T, hA, hS b hs, by omega, ⟨fun o => ?_, hf0, cur, ety, sz, by rw [hk b hs]; exact hf1, hf2⟩, fun x hx => ⟨hS x (hT x hx).1, (hT x hx).2⟩, ?_⟩
    · rw [← hf o]
      exact World.frozen?_of_block (hk b hs)
    · exact OwnRows.keep hz rows T T b off (fun o _ => World.cell?_of_block (hk b hs)) (fun x hx => hk x (hT x hx).1) (fun _ h => h) hrows
  | .ptr _, _, _, _, _, _, h => by simp [Own] at h
  | .fn _ _, _, _, _, _, _, h => by simp [Own] at h
theorem OwnRows.keep (hz : w.heap.size ≤ w'.heap.size) : ∀ (rows : List (List C)) (S S' : Nat → Prop) (b off : Nat), (∀ o, o < off + rows.flatten.length → w'.cell? ⟨b, o, none⟩ = w.cell? ⟨b, o, none⟩) →
    (∀ x, S x → w'.heap[x]? = w.heap[x]?) → (∀ x, S x → S' x) → OwnRows w b rows S off → OwnRows w' b rows S' off
  | [], _, _, _, _, _, _, _, _ => by simp [OwnRows]
  | r :: rs, S, S', b, off, hb, hk, hS, h => by
    simp only [OwnRows] at h ⊢
    obtain ⟨S1, S2, h1, h2, hd, hr, hrs⟩ := h
    simp only [List.flatten_cons, List.length_append] at hb
    exact ⟨S1, S2, fun x hx => hS x (h1 x hx), fun x hx => hS x (h2 x hx), hd, OwnRow.keep hz r S1 S1 b off (fun o ho => hb o (by omega)) (fun x hx => hk x (h1 x hx)) (fun _ h => h) hr,
      OwnRows.keep hz rs S2 S2 b _ (fun o ho => hb o (by omega)) (fun x hx => hk x (h2 x hx)) (fun _ h => h) hrs⟩
theorem OwnRow.keep (hz : w.heap.size ≤ w'.heap.size) : ∀ (cs : List C) (S S' : Nat → Prop) (b off : Nat), (∀ o, o < off + cs.length → w'.cell? ⟨b, o, none⟩ = w.cell? ⟨b, o, none⟩) →
    (∀ x, S x → w'.heap[x]? = w.heap[x]?) → (∀ x, S x → S' x) → OwnRow w b cs S off → OwnRow w' b cs S' off
  | [], _, _, _, _, _, _, _, _ => by simp [OwnRow]
  | c :: cs, S, S', b, off, hb, hk, hS, h => by
    simp only [OwnRow] at h ⊢
    obtain ⟨S1, S2, u, h1, h2, hd, hu, hc, hcs⟩ := h
    simp only [List.length_cons] at hb
    exact ⟨S1, S2, u, fun x hx => hS x (h1 x hx), fun x hx => hS x (h2 x hx), hd, by rw [hb off (by omega)]; exact hu, Own.keep hz c S1 S1 u (fun x hx => hk x (h1 x hx)) (fun _ h => h) hc,
      OwnRow.keep hz cs S2 S2 b _ (fun o ho => hb o (by omega)) (fun x hx => hk x (h2 x hx)) (fun _ h => h) hcs⟩
end
theorem OwnVals.keep (hz : w.heap.size ≤ w'.heap.size) : ∀ (cs : List C) (S S' : Nat → Prop) (us : List Value), (∀ b, S b → w'.heap[b]? = w.heap[b]?) → (∀ b, S b → S' b) → OwnVals w cs S us → OwnVals w' cs S' us
  | [], _, _, [], _, _, _ => by simp [OwnVals]
  | c :: cs, S, S', u :: us, hk, hS, h => by
    simp only [OwnVals] at h ⊢
    obtain ⟨S1, S2, h1, h2, hd, hc, hcs⟩ := h
    exact ⟨S1, S2, fun x hx => hS x (h1 x hx), fun x hx => hS x (h2 x hx), hd, Own.keep hz c S1 S1 u (fun x hx => hk x (h1 x hx)) (fun _ h => h) hc, OwnVals.keep hz cs S2 S2 us (fun x hx => hk x (h2 x hx)) (fun _ h => h) hcs⟩
  | [], _, _, _ :: _, _, _, h => by simp [OwnVals] at h
  | _ :: _, _, _, [], _, _, h => by simp [OwnVals] at h
/-- The cells hold the values: a row of the call's own. -/
theorem OwnRow.of_vals {b : Nat} : ∀ (cs : List C) (S : Nat → Prop) (us : List Value) (off : Nat), OwnVals w cs S us → (∀ j u, us[j]? = some u → w.cell? ⟨b, off + j, none⟩ = some u) → OwnRow w b cs S off
  | [], _, _, _, _, _ => by simp [OwnRow]
  | c :: cs, S, u :: us, off, h, hc => by
    simp only [OwnRow, OwnVals] at h ⊢
    obtain ⟨S1, S2, h1, h2, hd, hu, hus⟩ := h
    exact ⟨S1, S2, u, h1, h2, hd, by simpa using hc 0 u rfl, hu, OwnRow.of_vals cs S2 us (off + 1) hus (fun j v hv => by have := hc (j + 1) v (by simpa using hv); rw [← this]; congr 2; omega)⟩
  | _ :: _, _, [], _, h, _ => by simp [OwnVals] at h
theorem OwnRows.snoc {b : Nat} : ∀ (rows : List (List C)) (r : List C) (S S1 S2 : Nat → Prop) (off : Nat), OwnRows w b rows S1 off → OwnRow w b r S2 (off + rows.flatten.length) → (∀ x, S1 x → S x) → (∀ x, S2 x → S x) → (∀ x, S1 x → S2 x → False) → OwnRows w b (rows ++ [r]) S off
  | [], r, S, S1, S2, off, _, h2, _, e2, _ => by
    simp only [List.nil_append, OwnRows, and_true]
    exact ⟨S2, fun _ => False, e2, fun _ h => h.elim, fun _ _ h => h, by simpa using h2⟩
  | x :: xs, r, S, S1, S2, off, h1, h2, e1, e2, hd => by
    simp only [List.cons_append, OwnRows] at h1 ⊢
    obtain ⟨T1, T2, t1, t2, td, hx, hxs⟩ := h1
    refine ⟨T1, fun y => T2 y ∨ S2 y, fun y hy => e1 y (t1 y hy), fun y hy => hy.elim (fun h => e1 y (t2 y h)) (e2 y), fun y hy hy2 => hy2.elim (td y hy) (hd y (t1 y hy)), hx, ?_⟩
    refine OwnRows.snoc xs r _ T2 S2 _ hxs ?_ (fun y h => .inl h) (fun y h => .inr h) (fun y h => hd y (t2 y h))
    simp only [List.flatten_cons, List.length_append] at h2
    rw [Nat.add_assoc]
    exact h2
end
/-! Types: which rows a Go type has. -/
inductive TN where
  | int | str | ints | sub | decl | op | term | binding | bindings | occ | cond | eqn | step | link | chain | weight
inductive F where
  | int | str | bool
  | sl (t : TN)
def termF : List F := [.int, .str, .int, .sl .term]
def occF : List F := [.sl .int, .sl .term, .sl .term, .sl .binding]
def fieldsOf : TN → List F
  | .int => [.int]
  | .str => [.str]
  | .ints => [.sl .int]
  | .sub => [.int, .int]
  | .decl => [.sl .int, .int]
  | .op => [.str, .sl .decl, .bool, .bool, .int]
  | .term => termF
  | .binding => termF ++ termF
  | .bindings => [.sl .binding]
  | .occ => occF
  | .cond => termF ++ termF
  | .eqn => termF ++ termF ++ [.sl .cond]
  | .step => [.int] ++ occF ++ termF
  | .link => [.int] ++ occF ++ [.sl .chain]
  | .chain => termF ++ termF ++ [.sl .link]
  | .weight => [.int, .sl .int]
/-- The number is an int of 64 bits. -/
def I64 (n : Int) : Prop := -9223372036854775808 ≤ n ∧ n ≤ 9223372036854775807
def sortsF : List F := [.sl .str, .sl .sub]
def sigF : List F := sortsF ++ [.sl .op]
def moduleF : List F := sigF ++ [.sl .eqn, .sl .eqn]
def algF : List F := [.int, .sl .ints]
mutual
def okC : F → C → Prop
  | .int, .lit v => ∃ n : Int, v = .int .i64 n ∧ I64 n
  | .str, .lit v => ∃ s : ByteArray, v = .string s ∧ s.size ≤ maxLen
  | .bool, .lit v => ∃ b : Bool, v = .bool b
  | .sl t, .sl rows => okRows (fieldsOf t) rows
  | .int, .sl _ => False
  | .str, .sl _ => False
  | .bool, .sl _ => False
  | .sl _, .lit _ => False
  | _, .ptr _ => False
  | _, .fn _ _ => False
def okRows (fs : List F) : List (List C) → Prop
  | [] => True
  | r :: rs => okRow fs r ∧ okRows fs rs
def okRow : List F → List C → Prop
  | [], [] => True
  | f :: fs, c :: cs => okC f c ∧ okRow fs cs
  | [], _ :: _ => False
  | _ :: _, [] => False
end
mutual
/-- How many values and letters a datum holds, as the laws count them. -/
def bulkC : C → Nat
  | .lit (.string s) => s.size
  | .lit _ => 0
  | .sl rows => rows.length + bulkRows rows
  | .ptr _ => 0
  | .fn _ _ => 0
def bulkRows : List (List C) → Nat
  | [] => 0
  | r :: rs => bulkRow r + bulkRows rs
def bulkRow : List C → Nat
  | [] => 0
  | c :: cs => bulkC c + bulkRow cs
end
theorem okRow.len : ∀ {fs : List F} {cs : List C}, okRow fs cs → cs.length = fs.length
  | [], [], _ => rfl
  | f :: fs, c :: cs, h => by simp only [okRow] at h; simp [okRow.len h.2]
  | [], _ :: _, h => by simp [okRow] at h
  | _ :: _, [], h => by simp [okRow] at h
theorem okRows.get {fs : List F} : ∀ {rows : List (List C)} {i : Nat} {r : List C}, okRows fs rows → rows[i]? = some r → okRow fs r
  | [], _, _, _, h => by simp at h
  | x :: xs, 0, r, h, hi => by simp at hi; subst hi; exact h.1
  | x :: xs, i + 1, r, h, hi => okRows.get (rows := xs) (i := i) h.2 (by simpa using hi)
theorem okRows.lens {fs : List F} : ∀ {rows : List (List C)}, okRows fs rows → ∀ x ∈ rows, x.length = fs.length
  | [], _, x, hx => by simp at hx
  | r :: rs, h, x, hx => by
    rcases List.mem_cons.1 hx with rfl | hx
    · exact okRow.len h.1
    · exact okRows.lens h.2 x hx
theorem bulk_take : ∀ {rows : List (List C)} {k : Nat} {r : List C}, rows[k]? = some r → bulkRows (rows.take (k + 1)) = bulkRows (rows.take k) + bulkRow r
  | [], _, _, h => by simp at h
  | x :: xs, 0, r, h => by simp at h; subst h; simp [bulkRows]
  | x :: xs, k + 1, r, h => by have := bulk_take (rows := xs) (k := k) (by simpa using h); simp only [List.take_succ_cons, bulkRows] at this ⊢; omega
theorem bulk_take_le : ∀ (rows : List (List C)) (k : Nat), bulkRows (rows.take k) ≤ bulkRows rows
  | [], k => by simp
  | x :: xs, 0 => by simp [bulkRows]
  | x :: xs, k + 1 => by have := bulk_take_le xs k; simp only [List.take_succ_cons, bulkRows] at this ⊢; omega
mutual
def nodesC : C → Nat
  | .lit _ => 1
  | .sl rows => 1 + nodesRows rows
  | .ptr _ => 1
  | .fn _ _ => 1
def nodesRows : List (List C) → Nat
  | [] => 0
  | r :: rs => nodesRow r + nodesRows rs
def nodesRow : List C → Nat
  | [] => 0
  | c :: cs => nodesC c + nodesRow cs
end
theorem nodes_get : ∀ {rows : List (List C)} {i : Nat} {r : List C}, rows[i]? = some r → nodesRow r ≤ nodesRows rows
  | [], _, _, h => by simp at h
  | x :: xs, 0, r, h => by simp at h; subst h; simp [nodesRows]
  | x :: xs, i + 1, r, h => by have := nodes_get (rows := xs) (i := i) (by simpa using h); simp only [nodesRows]; omega
/-- What the laws' counting gives: what is left, or -1. -/
def sub (left : Int) (b : Nat) : Int := if (b : Int) ≤ left then left - b else -1
theorem sub_neg {left : Int} {b : Nat} (h : left < b) : sub left b = -1 := by unfold sub; rw [if_neg (by omega)]
theorem sub_pos {left : Int} {b : Nat} (h : (b : Int) ≤ left) : sub left b = left - b := by unfold sub; rw [if_pos h]
section
variable {w : World} {S : Nat → Prop}
theorem Rep.form {rows : List (List C)} {v : Value} (h : Rep w S (.sl rows) v) : ∃ A n cap, v = .slice A n cap ∧ rows.length = n ∧ n ≤ cap ∧ cap ≤ maxLen := by
  simp only [Rep] at h
  obtain ⟨A, n, cap, hv, hn, hc, hm, _⟩ := h
  exact ⟨A, n, cap, hv, hn, hc, hm⟩
theorem Rep.get {rows : List (List C)} {A : Option Addr} {n cap i : Nat} {fs : List F} (h : Rep w S (.sl rows) (.slice A n cap)) (hok : okRows fs rows) (hi : i < n) :
    ∃ b off r, A = some ⟨b, off, none⟩ ∧ S b ∧ b < w.heap.size ∧ rows[i]? = some r ∧ okRow fs r ∧ RepRow w S b (off + i * fs.length) r := by
  simp only [Rep] at h
  obtain ⟨A', n', cap', hv, hn, hc, hm, hr⟩ := h
  injection hv with e1 e2 e3
  subst e1 e2 e3
  obtain ⟨b, off, hA, hs, hb, hrows⟩ := hr (by omega)
  have hget : rows[i]? = some rows[i] := List.getElem?_eq_getElem (by omega)
  exact ⟨b, off, rows[i], hA, hs, hb, hget, hok.get hget, RepRows.get rows off i _ (fun x hx => hok.lens x hx) hrows hget⟩
end
theorem bulk_get : ∀ {rows : List (List C)} {i : Nat} {r : List C}, rows[i]? = some r → bulkRow r ≤ bulkRows rows
  | [], _, _, h => by simp at h
  | x :: xs, 0, r, h => by simp at h; subst h; simp [bulkRows]
  | x :: xs, i + 1, r, h => by have := bulk_get (rows := xs) (i := i) (by simpa using h); simp only [bulkRows]; omega
theorem ret_int {k : IntKind} {a b : Int} (h : a = b) : Ending.returned (.int k a) = .returned (.int k b) := by rw [h]
/-- On the blocks of S the world w' is as w was; no block has gone. -/
structure Same (S : Nat → Prop) (w w' : World) : Prop where
  size : w.heap.size ≤ w'.heap.size
  block : ∀ b, S b → w'.heap[b]? = w.heap[b]?
theorem Same.refl (S : Nat → Prop) (w : World) : Same S w w := ⟨Nat.le_refl _, fun _ _ => rfl⟩
theorem Same.trans {S : Nat → Prop} {a b c : World} (h : Same S a b) (k : Same S b c) : Same S a c := ⟨Nat.le_trans h.size k.size, fun x hx => (k.block x hx).trans (h.block x hx)⟩
theorem Same.mono {S S' : Nat → Prop} {a b : World} (h : Same S a b) (hS : ∀ x, S' x → S x) : Same S' a b := ⟨h.size, fun x hx => h.block x (hS x hx)⟩
theorem Same.setCell (S : Nat → Prop) (w : World) (p : Addr) (u : Value) (h : ¬ S p.block) : Same S w (w.setCell p u) :=
  ⟨by simp [World.setCell], fun b hb => Below.heap_setCell _ _ _ _ (fun e => h (e ▸ hb))⟩
theorem Same.drew (S : Nat → Prop) (w : World) : Same S w w.drew := ⟨Nat.le_refl _, fun _ _ => rfl⟩
theorem Same.below {B : Nat} {w w' : World} (h : Below B w w') : Same (· < B) w w' := ⟨h.size, h.block⟩
theorem Own.same {w w' : World} {c : C} {S : Nat → Prop} {v : Value} (h : Own w c S v) (k : Same S w w') : Own w' c S v := Own.keep k.size c S S v k.block (fun _ h => h) h
theorem OwnVals.same {w w' : World} {cs : List C} {S : Nat → Prop} {us : List Value} (h : OwnVals w cs S us) (k : Same S w w') : OwnVals w' cs S us := OwnVals.keep k.size cs S S us k.block (fun _ h => h) h
theorem Own.mono {w : World} {c : C} {S S' : Nat → Prop} {v : Value} (h : Own w c S v) (k : ∀ x, S x → S' x) : Own w c S' v := Own.keep (Nat.le_refl _) c S S' v (fun _ _ => rfl) k h
theorem OwnVals.mono {w : World} {cs : List C} {S S' : Nat → Prop} {us : List Value} (h : OwnVals w cs S us) (k : ∀ x, S x → S' x) : OwnVals w cs S' us := OwnVals.keep (Nat.le_refl _) cs S S' us (fun _ _ => rfl) k h
theorem OwnVals.lit {w : World} {cs : List C} {S : Nat → Prop} {us : List Value} {x : Value} (h : OwnVals w cs S us) : OwnVals w (.lit x :: cs) S (x :: us) :=
  ⟨fun _ => False, S, fun _ h => h.elim, fun _ h => h, fun _ h _ => h, by simp [Own], h⟩
theorem OwnVals.nil {w : World} {S : Nat → Prop} : OwnVals w [] S [] := by simp [OwnVals]
theorem OwnVals.cons {w : World} {c : C} {cs : List C} {S : Nat → Prop} (S1 S2 : Nat → Prop) {u : Value} {us : List Value} (h : Own w c S1 u) (h2 : OwnVals w cs S2 us) (e1 : ∀ x, S1 x → S x) (e2 : ∀ x, S2 x → S x) (hd : ∀ x, S1 x → S2 x → False) : OwnVals w (c :: cs) S (u :: us) :=
  ⟨S1, S2, e1, e2, hd, h, h2⟩
theorem OwnVals.append {w : World} : ∀ {cs ds : List C} {S : Nat → Prop} (S1 S2 : Nat → Prop) {us vs : List Value}, OwnVals w cs S1 us → OwnVals w ds S2 vs → (∀ x, S1 x → S x) → (∀ x, S2 x → S x) → (∀ x, S1 x → S2 x → False) → OwnVals w (cs ++ ds) S (us ++ vs)
  | [], ds, S, S1, S2, [], vs, _, h2, _, e2, _ => by simpa using h2.mono e2
  | c :: cs, ds, S, S1, S2, u :: us, vs, h1, h2, e1, e2, hd => by
    simp only [OwnVals, List.cons_append] at h1 ⊢
    obtain ⟨T1, T2, t1, t2, td, hu, hus⟩ := h1
    exact ⟨T1, fun y => T2 y ∨ S2 y, fun y hy => e1 y (t1 y hy), fun y hy => hy.elim (fun h => e1 y (t2 y h)) (e2 y), fun y hy hy2 => hy2.elim (td y hy) (hd y (t1 y hy)), hu,
      OwnVals.append T2 S2 hus h2 (fun y h => .inl h) (fun y h => .inr h) (fun y h => hd y (t2 y h))⟩
  | [], _, _, _, _, _ :: _, _, h, _, _, _, _ => by simp [OwnVals] at h
  | _ :: _, _, _, _, _, [], _, h, _, _, _, _ => by simp [OwnVals] at h
theorem OwnVals.len {w : World} : ∀ {cs : List C} {S : Nat → Prop} {us : List Value}, OwnVals w cs S us → us.length = cs.length
  | [], _, [], _ => rfl
  | c :: cs, S, u :: us, h => by
    simp only [OwnVals] at h
    obtain ⟨_, _, _, _, _, _, h2⟩ := h
    simp [OwnVals.len h2]
  | [], _, _ :: _, h => by simp [OwnVals] at h
  | _ :: _, _, [], h => by simp [OwnVals] at h
theorem RepVals.len {w : World} {S : Nat → Prop} : ∀ {cs : List C} {us : List Value}, RepVals w S cs us → us.length = cs.length
  | [], [], _ => rfl
  | c :: cs, u :: us, h => by simp only [RepVals] at h; simp [RepVals.len h.2]
  | [], _ :: _, h => by simp [RepVals] at h
  | _ :: _, [], h => by simp [RepVals] at h
theorem okC.one {w : World} {S : Nat → Prop} {f : F} {c : C} {u : Value} (h : okC f c) (hr : Rep w S c u) : u.oneCell' = true := by
  cases c with
  | lit v =>
    simp only [Rep] at hr
    subst hr
    cases f <;> simp only [okC] at h
    · obtain ⟨n, rfl, _⟩ := h; rfl
    · obtain ⟨n, rfl, _⟩ := h; rfl
    · obtain ⟨n, rfl⟩ := h; rfl
  | sl rows =>
    obtain ⟨A, n, cap, rfl, _⟩ := hr.form
    rfl
  | ptr cs => cases f <;> simp [okC] at h
  | fn f' caps => cases f <;> simp [okC] at h
theorem okRow.one {w : World} {S : Nat → Prop} : ∀ {fs : List F} {cs : List C} {us : List Value}, okRow fs cs → RepVals w S cs us → ∀ u ∈ us, u.oneCell' = true
  | [], [], [], _, _, u, hu => by simp at hu
  | f :: fs, c :: cs, x :: us, h, hr, u, hu => by
    simp only [okRow] at h
    simp only [RepVals] at hr
    rcases List.mem_cons.1 hu with rfl | hu
    · exact h.1.one hr.1
    · exact okRow.one h.2 hr.2 u hu
  | [], _ :: _, _, h, _, _, _ => by simp [okRow] at h
  | _ :: _, [], _, h, _, _, _ => by simp [okRow] at h
  | [], [], _ :: _, _, h, _, _ => by simp [RepVals] at h
  | _ :: _, _ :: _, [], _, h, _, _ => by simp [RepVals] at h
/-- w' is w with the values us stored into block g from off on. -/
structure Put (w w' : World) (g off : Nat) (us : List Value) : Prop where
  os : w'.os = w.os
  tape : w'.tape = w.tape
  output : w'.output = w.output
  size : w'.heap.size = w.heap.size
  other : ∀ k, k ≠ g → w'.heap[k]? = w.heap[k]?
  row : ∀ cur t, w.heap[g]? = some (.cells cur t (0, 0)) → ∃ cur', w'.heap[g]? = some (.cells cur' t (0, 0)) ∧ cur'.size = cur.size
  new : ∀ j u, us[j]? = some u → w'.cell? ⟨g, off + j, none⟩ = some u
  old : ∀ o, (o < off ∨ off + us.length ≤ o) → w'.cell? ⟨g, o, none⟩ = w.cell? ⟨g, o, none⟩
theorem put_setRow (w : World) (g off : Nat) (t : TypeId) (us : List Value) (cur : Array Value) (hg : w.heap[g]? = some (.cells cur t (0, 0))) (hf : off + us.length ≤ cur.size) :
    Put w (w.setRow g (cur.toList.take off ++ us ++ cur.toList.drop (off + us.length)).toArray) g off us := by
  have hl : (cur.toList.take off).length = off := by simp; omega
  refine ⟨rfl, rfl, rfl, by simp, fun k hk => setRow_other w g k _ hk, fun cur2 t2 h2 => ?_, fun j u hu => ?_, fun o ho => ?_⟩
  · rw [hg] at h2
    injection h2 with h2
    injection h2 with h3 h4
    subst h3 h4
    exact ⟨_, setRow_heap w g cur _ t _ hg, by simp; omega⟩
  · have hj : j < us.length := (List.getElem?_eq_some_iff.1 hu).1
    rw [cell_setRow_same w g _ cur _ t _ hg, List.getElem?_toArray, List.append_assoc, List.getElem?_append_right (by omega), hl, List.getElem?_append_left (by omega)]
    rw [← hu]
    congr 1
    omega
  · rw [cell_setRow_same w g _ cur _ t _ hg, cell_of_row w g o cur t _ hg, List.getElem?_toArray, List.append_assoc]
    rcases ho with ho | ho
    · rw [List.getElem?_append_left (by omega), List.getElem?_take]
      simp [ho]
    · rw [List.getElem?_append_right (by omega), hl, List.getElem?_append_right (by omega), List.getElem?_drop]
      have e : off + us.length + (o - off - us.length) = o := by omega
      rw [e]
      simp
theorem wpList_store_put {P : Program} {ops : Array Oper} {rest : List Oper} {o : Oper} {a : Act} {w : World} {Q : Exit → Act → World → Prop} (hgd : o.guard = none) (ty : TypeId) (x y : Operand) (ho : o.op = .store ty x y)
    (g off : Nat) (hx : a.eval x = .pointer (some ⟨g, off, none⟩)) (us : List Value) (hy : (a.eval y).cells.toList = us) (i : TypeInfo) (hi : P.info? ty = some i) (hs : i.size = us.length)
    (t : TypeId) (cur : Array Value) (hg : w.heap[g]? = some (.cells cur t (0, 0))) (hf : off + us.length ≤ cur.size) (h1 : ∀ u ∈ us, u.oneCell' = true)
    (h : ∀ w', Put w w' g off us → wpList P ops Q rest (a.put o.dst undef) w') : wpList P ops Q (o :: rest) a w := by
  refine wpList_plain hgd fun K hK => ?_
  have hst := run_storeCells_at P g off t us 0 cur w hg (by simpa using hf) h1
  simp only [Nat.add_zero] at hst
  have hsz : (a.eval y).cells.size = i.size := by rw [hs, ← hy, Array.length_toList]
  unfold Oper.wp execOp
  simp only [ho, hx, Instr.storeAt, Instr.sureAddr, storeVar, Sem.run_bind, Sem.run_pure, Result.andThen_ok, sizeOf, typeInfo, hi, run_program, hsz, ne_eq, not_true_eq_false, if_false, hy, hst]
  exact hK _ _ (h _ (put_setRow w g off t us cur hg hf))
/-- A slice of m elements, made by the call in block g (of element type E, sz cells each), of which the first k stand for the first k rows. -/
def Filling (w0 : World) (g : Nat) (E : TypeId) (m sz : Nat) (rows : List (List C)) (k : Nat) (wr : World) : Prop :=
  Below g w0 wr ∧ g < wr.heap.size ∧ (∃ cur, wr.heap[g]? = some (.cells cur E (0, 0)) ∧ cur.size = m * sz) ∧ OwnRows wr g (rows.take k) (fun x => g < x ∧ x < wr.heap.size) 0
theorem Filling.start {w0 : World} {E : TypeId} {m sz : Nat} {rows : List (List C)} {cur : Array Value} (h : cur.size = m * sz) : Filling w0 w0.heap.size E m sz rows 0 (w0.alloc (.cells cur E)) :=
  ⟨(Below.refl _ _).alloc (Nat.le_refl _) _, by simp, ⟨cur, heap_alloc_new w0 _, h⟩, by simp [OwnRows]⟩
theorem flatten_take_len {fs : List F} : ∀ {rows : List (List C)}, okRows fs rows → ∀ k, k ≤ rows.length → (rows.take k).flatten.length = k * fs.length
  | [], _, k, hk => by simp at hk; subst hk; simp
  | r :: rs, h, 0, _ => by simp
  | r :: rs, h, k + 1, hk => by
    have := flatten_take_len h.2 k (by simpa using hk)
    have hl := okRow.len h.1
    simp only [List.take_succ_cons, List.flatten_cons, List.length_append, this, hl, Nat.add_mul]
    omega
theorem take_snoc {α : Type} {l : List α} {k : Nat} {x : α} (h : l[k]? = some x) : l.take (k + 1) = l.take k ++ [x] := by
  rw [List.take_add_one, h]; rfl
theorem Filling.row {w0 wr w2 : World} {g : Nat} {E : TypeId} {m sz : Nat} {rows : List (List C)} {k : Nat} (h : Filling w0 g E m sz rows k wr) (hb : Below wr.heap.size wr w2) : ∃ cur, w2.heap[g]? = some (.cells cur E (0, 0)) ∧ cur.size = m * sz := by
  obtain ⟨cur, h1, h2⟩ := h.2.2.1
  exact ⟨cur, by rw [hb.block g h.2.1]; exact h1, h2⟩
theorem Filling.step {w0 wr w2 w3 : World} {g : Nat} {E : TypeId} {m : Nat} {fs : List F} {rows : List (List C)} {k : Nat} {r : List C} {us : List Value} (h : Filling w0 g E m fs.length rows k wr) (hok : okRows fs rows) (hk : rows[k]? = some r)
    (hb : Below wr.heap.size wr w2) (hown : OwnVals w2 r (fun x => wr.heap.size ≤ x ∧ x < w2.heap.size) us) (hp : Put w2 w3 g (k * fs.length) us) : Filling w0 g E m fs.length rows (k + 1) w3 := by
  obtain ⟨h1, h2, ⟨cur, h3, h4⟩, h5⟩ := h
  have hkl : k < rows.length := (List.getElem?_eq_some_iff.1 hk).1
  have hfl := flatten_take_len hok k (by omega)
  have hsz := hb.size
  refine ⟨?_, by have := hp.size; omega, ?_, ?_⟩
  · exact (h1.trans (hb.mono (by omega))).trans ⟨hp.os, hp.tape, hp.output, by have := hp.size; omega, fun x hx => hp.other x (by omega)⟩
  · have h3' : w2.heap[g]? = some (.cells cur E (0, 0)) := by rw [hb.block g h2]; exact h3
    obtain ⟨cur', h6, h7⟩ := hp.row cur E h3'
    exact ⟨cur', h6, by omega⟩
  · rw [take_snoc hk]
    refine OwnRows.snoc (rows.take k) r _ (fun x => g < x ∧ x < wr.heap.size) (fun x => wr.heap.size ≤ x ∧ x < w2.heap.size) 0 ?_ ?_ ?_ ?_ ?_
    · refine OwnRows.keep (w := wr) (by have := hp.size; omega) _ _ _ g 0 (fun o ho => ?_) (fun x hx => ?_) (fun _ h => h) h5
      · rw [hp.old o (.inl (by omega))]
        exact World.cell?_of_block (hb.block g h2)
      · rw [hp.other x (by omega)]
        exact hb.block x (by omega)
    · refine OwnRow.of_vals r _ us _ ?_ (fun j u hu => ?_)
      · exact OwnVals.keep (w := w2) (by have := hp.size; omega) r _ _ us (fun b hb' => hp.other b (by omega)) (fun _ h => h) hown
      · have := hp.new j u hu
        rw [← this]
        congr 2
        omega
    · intro x hx
      have := hp.size
      exact ⟨hx.1, by omega⟩
    · intro x hx
      have := hp.size
      exact ⟨by omega, by omega⟩
    · intro x hx hy
      omega
theorem Filling.done {w0 wr : World} {E : TypeId} {m sz : Nat} {rows : List (List C)} (h : Filling w0 w0.heap.size E m sz rows m wr) (hm : rows.length = m) (hmx : m ≤ maxLen) (hz : 0 < sz) (hl : ∀ r ∈ rows, r.length = sz) :
    Own wr (.sl rows) (fun x => w0.heap.size ≤ x ∧ x < wr.heap.size) (.slice (some ⟨w0.heap.size, 0, none⟩) m m) ∧ Below w0.heap.size w0 wr := by
  obtain ⟨h1, h2, ⟨cur, h3, h4⟩, h5⟩ := h
  rw [List.take_of_length_le (by omega)] at h5
  refine ⟨?_, h1⟩
  simp only [Own]
  exact ⟨_, m, m, rfl, hm, Nat.le_refl _, hmx, fun _ => ⟨w0.heap.size, 0, _, rfl, ⟨Nat.le_refl _, h2⟩, h2, ⟨fun o => frozen_of_row wr _ o cur E h3, rfl, cur, E, sz, h3, h4, hz, hl⟩, fun x hx => ⟨⟨by omega, hx.2⟩, by omega⟩, h5⟩⟩
theorem okC_int {c : C} (h : okC .int c) : ∃ n : Int, c = .lit (.int .i64 n) ∧ I64 n := by
  cases c <;> simp only [okC] at h
  obtain ⟨n, rfl, h⟩ := h
  exact ⟨n, rfl, h⟩
theorem okC_str {c : C} (h : okC .str c) : ∃ s : ByteArray, c = .lit (.string s) ∧ s.size ≤ maxLen := by
  cases c <;> simp only [okC] at h
  obtain ⟨n, rfl, h⟩ := h
  exact ⟨n, rfl, h⟩
theorem okC_bool {c : C} (h : okC .bool c) : ∃ b : Bool, c = .lit (.bool b) := by
  cases c <;> simp only [okC] at h
  obtain ⟨n, rfl⟩ := h
  exact ⟨n, rfl⟩
theorem okC_sl {t : TN} {c : C} (h : okC (.sl t) c) : ∃ rows, c = .sl rows ∧ okRows (fieldsOf t) rows := by
  cases c <;> simp only [okC] at h
  exact ⟨_, rfl, h⟩
theorem mk_int {n : Int} (h : I64 n) : okC .int (.lit (.int .i64 n)) := by simp only [okC]; exact ⟨n, rfl, h⟩
theorem mk_str {s : ByteArray} (h : s.size ≤ maxLen) : okC .str (.lit (.string s)) := by simp only [okC]; exact ⟨s, rfl, h⟩
theorem mk_bool {b : Bool} : okC .bool (.lit (.bool b)) := by simp only [okC]; exact ⟨b, rfl⟩
theorem mk_sl {t : TN} {rows : List (List C)} (h : okRows (fieldsOf t) rows) : okC (.sl t) (.sl rows) := by simp only [okC]; exact h
theorem bcell {W w1 : World} (hb : Below W.heap.size W w1) : (∀ b o, b < W.heap.size → w1.cell? ⟨b, o, none⟩ = W.cell? ⟨b, o, none⟩) ∧ (∀ b o, b < W.heap.size → w1.frozen? ⟨b, o, none⟩ = W.frozen? ⟨b, o, none⟩) :=
  ⟨fun b o h => hb.cell (p := ⟨b, o, none⟩) h, fun b o h => hb.frozen (p := ⟨b, o, none⟩) h⟩
theorem len1 {α : Type} {l : List α} (h : l.length = 1) : ∃ a0, l = [a0] := by
  match l, h with
  | [a0], _ => exact ⟨a0, rfl⟩
theorem RepRow.vals1 {w : World} {S : Nat → Prop} {b off : Nat} {r : List C} (h : RepRow w S b off r) (hl : r.length = 1) :
    ∃ u0, w.cell? ⟨b, off, none⟩ = some u0 ∧ RepVals w S r [u0] := by
  obtain ⟨c0, rfl⟩ := len1 hl
  simp only [RepRow, and_true, Nat.add_assoc, Nat.reduceAdd] at h
  obtain ⟨u0, k0, h0⟩ := h
  exact ⟨u0, k0, by simp only [RepVals, and_true]; exact h0⟩
theorem len2 {α : Type} {l : List α} (h : l.length = 2) : ∃ a0 a1, l = [a0, a1] := by
  match l, h with
  | [a0, a1], _ => exact ⟨a0, a1, rfl⟩
theorem RepRow.vals2 {w : World} {S : Nat → Prop} {b off : Nat} {r : List C} (h : RepRow w S b off r) (hl : r.length = 2) :
    ∃ u0 u1, w.cell? ⟨b, off, none⟩ = some u0 ∧ w.cell? ⟨b, off + 1, none⟩ = some u1 ∧ RepVals w S r [u0, u1] := by
  obtain ⟨c0, c1, rfl⟩ := len2 hl
  simp only [RepRow, and_true, Nat.add_assoc, Nat.reduceAdd] at h
  obtain ⟨⟨u0, k0, h0⟩, ⟨u1, k1, h1⟩⟩ := h
  exact ⟨u0, u1, k0, k1, by simp only [RepVals, and_true]; exact ⟨h0, h1⟩⟩
theorem len3 {α : Type} {l : List α} (h : l.length = 3) : ∃ a0 a1 a2, l = [a0, a1, a2] := by
  match l, h with
  | [a0, a1, a2], _ => exact ⟨a0, a1, a2, rfl⟩
theorem len4 {α : Type} {l : List α} (h : l.length = 4) : ∃ a0 a1 a2 a3, l = [a0, a1, a2, a3] := by
  match l, h with
  | [a0, a1, a2, a3], _ => exact ⟨a0, a1, a2, a3, rfl⟩
theorem RepRow.vals4 {w : World} {S : Nat → Prop} {b off : Nat} {r : List C} (h : RepRow w S b off r) (hl : r.length = 4) :
    ∃ u0 u1 u2 u3, w.cell? ⟨b, off, none⟩ = some u0 ∧ w.cell? ⟨b, off + 1, none⟩ = some u1 ∧ w.cell? ⟨b, off + 2, none⟩ = some u2 ∧ w.cell? ⟨b, off + 3, none⟩ = some u3 ∧ RepVals w S r [u0, u1, u2, u3] := by
  obtain ⟨c0, c1, c2, c3, rfl⟩ := len4 hl
  simp only [RepRow, and_true, Nat.add_assoc, Nat.reduceAdd] at h
  obtain ⟨⟨u0, k0, h0⟩, ⟨u1, k1, h1⟩, ⟨u2, k2, h2⟩, ⟨u3, k3, h3⟩⟩ := h
  exact ⟨u0, u1, u2, u3, k0, k1, k2, k3, by simp only [RepVals, and_true]; exact ⟨h0, h1, h2, h3⟩⟩
theorem len5 {α : Type} {l : List α} (h : l.length = 5) : ∃ a0 a1 a2 a3 a4, l = [a0, a1, a2, a3, a4] := by
  match l, h with
  | [a0, a1, a2, a3, a4], _ => exact ⟨a0, a1, a2, a3, a4, rfl⟩
theorem RepRow.vals5 {w : World} {S : Nat → Prop} {b off : Nat} {r : List C} (h : RepRow w S b off r) (hl : r.length = 5) :
    ∃ u0 u1 u2 u3 u4, w.cell? ⟨b, off, none⟩ = some u0 ∧ w.cell? ⟨b, off + 1, none⟩ = some u1 ∧ w.cell? ⟨b, off + 2, none⟩ = some u2 ∧ w.cell? ⟨b, off + 3, none⟩ = some u3 ∧ w.cell? ⟨b, off + 4, none⟩ = some u4 ∧ RepVals w S r [u0, u1, u2, u3, u4] := by
  obtain ⟨c0, c1, c2, c3, c4, rfl⟩ := len5 hl
  simp only [RepRow, and_true, Nat.add_assoc, Nat.reduceAdd] at h
  obtain ⟨⟨u0, k0, h0⟩, ⟨u1, k1, h1⟩, ⟨u2, k2, h2⟩, ⟨u3, k3, h3⟩, ⟨u4, k4, h4⟩⟩ := h
  exact ⟨u0, u1, u2, u3, u4, k0, k1, k2, k3, k4, by simp only [RepVals, and_true]; exact ⟨h0, h1, h2, h3, h4⟩⟩
theorem len8 {α : Type} {l : List α} (h : l.length = 8) : ∃ a0 a1 a2 a3 a4 a5 a6 a7, l = [a0, a1, a2, a3, a4, a5, a6, a7] := by
  match l, h with
  | [a0, a1, a2, a3, a4, a5, a6, a7], _ => exact ⟨a0, a1, a2, a3, a4, a5, a6, a7, rfl⟩
theorem RepRow.vals8 {w : World} {S : Nat → Prop} {b off : Nat} {r : List C} (h : RepRow w S b off r) (hl : r.length = 8) :
    ∃ u0 u1 u2 u3 u4 u5 u6 u7, w.cell? ⟨b, off, none⟩ = some u0 ∧ w.cell? ⟨b, off + 1, none⟩ = some u1 ∧ w.cell? ⟨b, off + 2, none⟩ = some u2 ∧ w.cell? ⟨b, off + 3, none⟩ = some u3 ∧ w.cell? ⟨b, off + 4, none⟩ = some u4 ∧ w.cell? ⟨b, off + 5, none⟩ = some u5 ∧ w.cell? ⟨b, off + 6, none⟩ = some u6 ∧ w.cell? ⟨b, off + 7, none⟩ = some u7 ∧ RepVals w S r [u0, u1, u2, u3, u4, u5, u6, u7] := by
  obtain ⟨c0, c1, c2, c3, c4, c5, c6, c7, rfl⟩ := len8 hl
  simp only [RepRow, and_true, Nat.add_assoc, Nat.reduceAdd] at h
  obtain ⟨⟨u0, k0, h0⟩, ⟨u1, k1, h1⟩, ⟨u2, k2, h2⟩, ⟨u3, k3, h3⟩, ⟨u4, k4, h4⟩, ⟨u5, k5, h5⟩, ⟨u6, k6, h6⟩, ⟨u7, k7, h7⟩⟩ := h
  exact ⟨u0, u1, u2, u3, u4, u5, u6, u7, k0, k1, k2, k3, k4, k5, k6, k7, by simp only [RepVals, and_true]; exact ⟨h0, h1, h2, h3, h4, h5, h6, h7⟩⟩
theorem len9 {α : Type} {l : List α} (h : l.length = 9) : ∃ a0 a1 a2 a3 a4 a5 a6 a7 a8, l = [a0, a1, a2, a3, a4, a5, a6, a7, a8] := by
  match l, h with
  | [a0, a1, a2, a3, a4, a5, a6, a7, a8], _ => exact ⟨a0, a1, a2, a3, a4, a5, a6, a7, a8, rfl⟩
theorem RepRow.vals9 {w : World} {S : Nat → Prop} {b off : Nat} {r : List C} (h : RepRow w S b off r) (hl : r.length = 9) :
    ∃ u0 u1 u2 u3 u4 u5 u6 u7 u8, w.cell? ⟨b, off, none⟩ = some u0 ∧ w.cell? ⟨b, off + 1, none⟩ = some u1 ∧ w.cell? ⟨b, off + 2, none⟩ = some u2 ∧ w.cell? ⟨b, off + 3, none⟩ = some u3 ∧ w.cell? ⟨b, off + 4, none⟩ = some u4 ∧ w.cell? ⟨b, off + 5, none⟩ = some u5 ∧ w.cell? ⟨b, off + 6, none⟩ = some u6 ∧ w.cell? ⟨b, off + 7, none⟩ = some u7 ∧ w.cell? ⟨b, off + 8, none⟩ = some u8 ∧ RepVals w S r [u0, u1, u2, u3, u4, u5, u6, u7, u8] := by
  obtain ⟨c0, c1, c2, c3, c4, c5, c6, c7, c8, rfl⟩ := len9 hl
  simp only [RepRow, and_true, Nat.add_assoc, Nat.reduceAdd] at h
  obtain ⟨⟨u0, k0, h0⟩, ⟨u1, k1, h1⟩, ⟨u2, k2, h2⟩, ⟨u3, k3, h3⟩, ⟨u4, k4, h4⟩, ⟨u5, k5, h5⟩, ⟨u6, k6, h6⟩, ⟨u7, k7, h7⟩, ⟨u8, k8, h8⟩⟩ := h
  exact ⟨u0, u1, u2, u3, u4, u5, u6, u7, u8, k0, k1, k2, k3, k4, k5, k6, k7, k8, by simp only [RepVals, and_true]; exact ⟨h0, h1, h2, h3, h4, h5, h6, h7, h8⟩⟩
theorem below_drewN {B : Nat} {a w : World} (h : Below B a w) (n : Nat) : Below B a (w.drewN n) := ⟨h.os, h.tape, h.output, h.size, h.block⟩
end Go.Proofs.YtpbikjkjfojjiaaGreat
namespace Go.Proofs.YtpbikjkjfojjiaaGreat
open Go.ChangeShapes Go.WideShapes Go.ChangeAt Go.RowKit Go.Deep
/-- The type t of the program lies in memory as the cells fs; T gives the element types. -/
inductive TyOk (P : Program) (T : TN → TypeId) (R : TN → Prop) : TypeId → List F → Prop where
  | int {t : TypeId} : P.underlying t = some (.int .i64) → TyOk P T R t [.int]
  | str {t : TypeId} : P.underlying t = some .string → TyOk P T R t [.str]
  | bool {t : TypeId} : P.underlying t = some .bool → TyOk P T R t [.bool]
  | sl {t : TypeId} {tn : TN} : P.underlying t = some (.slice (T tn)) → P.cellsOf (T tn) = (fieldsOf tn).length → R tn → TyOk P T R t [.sl tn]
  | st {t : TypeId} {flds : Array Field} {fss : List (List F)} : P.underlying t = some (.struct flds) → flds.size = fss.length → P.cellsOf t = fss.flatten.length →
      (∀ (j : Nat) (f : Field) (fs : List F), flds[j]? = some f → fss[j]? = some fs → f.offset = (fss.take j).flatten.length ∧ P.cellsOf f.type = fs.length) →
      (∀ (j : Nat) (f : Field) (fs : List F), flds[j]? = some f → fss[j]? = some fs → TyOk P T R f.type fs) → TyOk P T R t fss.flatten
section
variable {H : Type} {enc : TypeId × Value → H} {P : Program} {w : World} {base : Nat} {spare : Nat → Bool} {held : Bool}
theorem RepVals.cat {S : Nat → Prop} : ∀ {cs ds : List C} {us vs : List Value}, RepVals w S cs us → RepVals w S ds vs → RepVals w S (cs ++ ds) (us ++ vs)
  | [], _, [], _, _, h2 => by simpa using h2
  | c :: cs, ds, u :: us, vs, h1, h2 => by
    simp only [RepVals, List.cons_append] at h1 ⊢
    exact ⟨h1.1, RepVals.cat h1.2 h2⟩
  | [], _, _ :: _, _, h, _ => by simp [RepVals] at h
  | _ :: _, _, [], _, h, _ => by simp [RepVals] at h
theorem okRow.cat : ∀ {fs gs : List F} {cs ds : List C}, okRow fs cs → okRow gs ds → okRow (fs ++ gs) (cs ++ ds)
  | [], _, [], _, _, h2 => by simpa using h2
  | f :: fs, gs, c :: cs, ds, h1, h2 => by
    simp only [okRow, List.cons_append] at h1 ⊢
    exact ⟨h1.1, okRow.cat h1.2 h2⟩
  | [], _, _ :: _, _, h, _ => by simp [okRow] at h
  | _ :: _, _, [], _, h, _ => by simp [okRow] at h
theorem cat_parts (S : Nat → Prop) : ∀ (fss : List (List F)) (cs : List Value) (off : Nat), cs.length = off + fss.flatten.length →
    (∀ (j : Nat) (fs : List F), fss[j]? = some fs → ∃ row, okRow fs row ∧ RepVals w S row ((cs.drop (off + (fss.take j).flatten.length)).take fs.length)) →
    ∃ row, okRow fss.flatten row ∧ RepVals w S row (cs.drop off)
  | [], cs, off, hl, _ => ⟨[], by simp [okRow], by
      have : cs.drop off = [] := by simp at hl ⊢; omega
      rw [this]; simp [RepVals]⟩
  | fs :: fss, cs, off, hl, h => by
    simp only [List.flatten_cons, List.length_append] at hl
    obtain ⟨row0, h0, r0⟩ := h 0 fs rfl
    obtain ⟨row1, h1, r1⟩ := cat_parts S fss cs (off + fs.length) (by omega) (fun j gs hj => by
      obtain ⟨row, ha, hb⟩ := h (j + 1) gs (by simpa using hj)
      refine ⟨row, ha, ?_⟩
      simp only [List.take_succ_cons, List.flatten_cons, List.length_append] at hb
      rw [Nat.add_assoc]
      exact hb)
    simp only [List.take_zero, List.flatten_nil, List.length_nil, Nat.add_zero] at r0
    refine ⟨row0 ++ row1, okRow.cat h0 h1, ?_⟩
    have e : cs.drop off = (cs.drop off).take fs.length ++ cs.drop (off + fs.length) := by
      rw [← List.drop_drop, List.take_append_drop]
    rw [e]
    exact RepVals.cat r0 r1
theorem RepRow.of_cells {S : Nat → Prop} {b : Nat} : ∀ (row : List C) (us : List Value) (off : Nat), RepVals w S row us → (∀ j, j < us.length → w.cell? ⟨b, off + j, none⟩ = us[j]?) → RepRow w S b off row
  | [], _, _, _, _ => by simp [RepRow]
  | c :: cs, u :: us, off, h, hc => by
    simp only [RepRow, RepVals] at h ⊢
    refine ⟨⟨u, by have := hc 0 (by simp); simpa using this, h.1⟩, RepRow.of_cells cs us (off + 1) h.2 (fun j hj => ?_)⟩
    have := hc (j + 1) (by simpa using hj)
    simp only [List.getElem?_cons_succ] at this
    rw [← this]
    congr 2
    omega
  | _ :: _, [], _, h, _ => by simp [RepVals] at h
theorem RepRows.of_range {S : Nat → Prop} {b k : Nat} (f : Nat → List C) : ∀ (n i off : Nat), (∀ j, j < n → (f (i + j)).length = k ∧ RepRow w S b (off + j * k) (f (i + j))) → RepRows w S b off ((List.range' i n).map f)
  | 0, _, _, _ => by simp [RepRows]
  | n + 1, i, off, h => by
    simp only [List.range'_succ, List.map_cons, RepRows]
    have h0 := h 0 (by omega)
    simp only [Nat.add_zero, Nat.zero_mul] at h0
    refine ⟨h0.2, ?_⟩
    rw [h0.1]
    refine RepRows.of_range (k := k) f n (i + 1) (off + k) (fun j hj => ?_)
    have := h (j + 1) (by omega)
    have e1 : i + (j + 1) = i + 1 + j := by omega
    have e2 : off + (j + 1) * k = off + k + j * k := by rw [Nat.add_mul]; omega
    rw [e1, e2] at this
    exact this
theorem okRows.of_range {fs : List F} (f : Nat → List C) : ∀ (n i : Nat), (∀ j, j < n → okRow fs (f (i + j))) → okRows fs ((List.range' i n).map f)
  | 0, _, _ => by simp [okRows]
  | n + 1, i, h => by
    simp only [List.range'_succ, List.map_cons, okRows]
    refine ⟨by simpa using h 0 (by omega), okRows.of_range f n (i + 1) (fun j hj => ?_)⟩
    have := h (j + 1) (by omega)
    have e1 : i + (j + 1) = i + 1 + j := by omega
    rw [e1] at this
    exact this
theorem fieldsOf_pos (tn : TN) : 0 < (fieldsOf tn).length := by cases tn <;> simp [fieldsOf, termF, occF]
theorem add_form (a : Addr) (n : Nat) (h : ∃ v, w.cell? (a.add n) = some v) (h0 : ∃ v, w.cell? (a.add 0) = some v) : a = ⟨a.block, a.off, none⟩ := by
  obtain ⟨v, hv⟩ := h0
  obtain ⟨b, o, s⟩ := a
  simp only [Addr.add, if_true] at hv
  cases s with
  | none => rfl
  | some s =>
    simp only [World.cell?] at hv
    split at hv <;> simp at hv
theorem open_slice_at {t e : TypeId} {fuel : Nat} {cs : List Value} {x : DataW H × List MemPlace} (ht : P.underlying t = some (.slice e)) (h : DataW.trod enc P w base spare held (fuel + 1) t cs = some x) :
    (cs = [.slice none 0 0] ∧ True) ∨ ∃ (a : Addr) (len cap : Nat), cs = [.slice (some a) len cap] ∧ len ≤ cap ∧ cap ≤ maxLen ∧
      ∀ i, i < len → ∃ cs' y, w.cells? base (a.add (i * P.cellsOf e)) (P.cellsOf e) = some cs' ∧ DataW.trod enc P w base spare held fuel e cs' = some y := by
  rcases DataW.trod_slice ht h with ⟨h0, _⟩ | ⟨a, len, cap, elems, rest, n, hn, rfl, _, hb, hl, hm, hlen, hel, _, _⟩
  · exact .inl ⟨h0, trivial⟩
  · obtain rfl : fuel = n := by omega
    refine .inr ⟨a, len, cap, rfl, hl, hm, fun i hi => ?_⟩
    have hx := hel i hi
    rw [List.getElem?_eq_getElem (by omega)] at hx
    obtain ⟨cs', h1, h2⟩ := Option.bind_eq_some_iff.1 hx
    exact ⟨cs', _, h1, h2⟩
theorem add_plain {a : Addr} (h : a = ⟨a.block, a.off, none⟩) (n : Nat) : a.add n = ⟨a.block, a.off + n, none⟩ := by
  obtain ⟨b, o, s⟩ := a
  simp only [Addr.mk.injEq, true_and] at h
  subst h
  unfold Addr.add
  split
  · rename_i h0
    subst h0
    rfl
  · rfl
/-- What can be read at such a type stands for a row of data. -/
theorem open_row {T : TN → TypeId} {R : TN → Prop} (hT : ∀ tn, R tn → TyOk P T R (T tn) (fieldsOf tn)) : ∀ (fuel : Nat) (t : TypeId) (fs : List F) (cs : List Value) (x : DataW H × List MemPlace),
    TyOk P T R t fs → DataW.trod enc P w base spare held fuel t cs = some x → ∃ row, okRow fs row ∧ RepVals w (fun _ => True) row cs := by
  intro fuel
  induction fuel with
  | zero => intro t fs cs x _ h; simp [DataW.trod] at h
  | succ fuel ih =>
    intro t fs cs x hty h
    cases hty with
    | int hu =>
      obtain ⟨n, rfl, _, hwf⟩ := DataW.trod_int hu h
      refine ⟨[.lit (.int .i64 n)], ?_, by simp [RepVals, Rep]⟩
      simp only [okRow, and_true]
      refine mk_int ?_
      simp [Lit.wf, IntKind.min, IntKind.max, IntKind.signed, IntKind.bits] at hwf
      exact ⟨by omega, by omega⟩
    | str hu =>
      obtain ⟨s, rfl, _, hs⟩ := DataW.trod_string hu h
      exact ⟨[.lit (.string s)], by simp only [okRow, and_true]; exact mk_str hs, by simp [RepVals, Rep]⟩
    | bool hu =>
      obtain ⟨b, rfl, _⟩ := DataW.trod_bool hu h
      exact ⟨[.lit (.bool b)], by simp only [okRow, and_true]; exact mk_bool, by simp [RepVals, Rep]⟩
    | @sl _ tn hu hc hR =>
      rcases open_slice_at hu h with ⟨rfl, _⟩ | ⟨a, len, cap, rfl, hl, hm, hel⟩
      · refine ⟨[.sl []], by simp only [okRow, and_true]; exact mk_sl (by simp [okRows]), ?_⟩
        simp only [RepVals, Rep, and_true]
        exact ⟨none, 0, 0, rfl, rfl, Nat.le_refl _, by simp [maxLen], fun h => absurd h (by omega)⟩
      · rw [hc] at hel
        have hpos := fieldsOf_pos tn
        have hex : ∀ i, i < len → ∃ row, okRow (fieldsOf tn) row ∧ ∃ us : List Value, RepVals w (fun _ => True) row us ∧ us.length = (fieldsOf tn).length ∧ ∀ j, j < us.length → w.cell? ((a.add (i * (fieldsOf tn).length)).add j) = us[j]? := by
          intro i hi
          obtain ⟨cs', y, h1, h2⟩ := hel i hi
          obtain ⟨_, h3, h4⟩ := World.cells?_some h1
          obtain ⟨row, ho, hr⟩ := ih _ _ _ _ (hT tn hR) h2
          exact ⟨row, ho, cs', hr, h3, fun j hj => h4 j (by omega)⟩
        have hch := fun (i : Fin len) => hex i.1 i.2
        let f : Nat → List C := fun i => if h : i < len then Classical.choose (hex i h) else []
        have hf : ∀ i (hi : i < len), okRow (fieldsOf tn) (f i) ∧ ∃ us : List Value, RepVals w (fun _ => True) (f i) us ∧ us.length = (fieldsOf tn).length ∧ ∀ j, j < us.length → w.cell? ((a.add (i * (fieldsOf tn).length)).add j) = us[j]? := by
          intro i hi
          have := Classical.choose_spec (hex i hi)
          simp only [f, hi, dif_pos]
          exact this
        refine ⟨[.sl ((List.range' 0 len).map f)], ?_, ?_⟩
        · simp only [okRow, and_true]
          exact mk_sl (okRows.of_range f len 0 (fun j hj => by simpa using (hf j hj).1))
        · simp only [RepVals, Rep, and_true]
          refine ⟨some a, len, cap, rfl, by simp, hl, hm, fun h0 => ?_⟩
          have hcell : ∀ i, i < len → ∀ j, j < (fieldsOf tn).length → ∃ v, w.cell? ((a.add (i * (fieldsOf tn).length)).add j) = some v := by
            intro i hi j hj
            obtain ⟨_, us, _, hul, hus⟩ := hf i hi
            exact ⟨_, (hus j (by omega)).trans (List.getElem?_eq_getElem (by omega))⟩
          have h00 := hcell 0 h0 0 hpos
          simp only [Nat.zero_mul] at h00
          have ha0 : a.add 0 = a := by simp [Addr.add]
          rw [ha0] at h00
          have hform := add_form (w := w) a 0 h00 h00
          obtain ⟨v00, hv00⟩ := h00
          have hblk : a.block < w.heap.size := by
            rw [ha0] at hv00
            exact World.block_lt_of_cell? w a hv00
          refine ⟨a.block, a.off, by rw [← hform], trivial, hblk, ?_⟩
          refine RepRows.of_range (k := (fieldsOf tn).length) f len 0 a.off (fun j hj => ?_)
          simp only [Nat.zero_add]
          obtain ⟨ho, us, hr, hul, hus⟩ := hf j hj
          refine ⟨ho.len, RepRow.of_cells (f j) us _ hr (fun q hq => ?_)⟩
          rw [← hus q hq]
          congr 1
          rw [add_plain hform, add_plain (a := ⟨a.block, a.off + j * (fieldsOf tn).length, none⟩) rfl]
    | @st _ flds fss hu hsz hcl hfl htys =>
      obtain ⟨xs, n, hn, _, hlen, hxl, hg⟩ := DataW.trod_struct hu h
      obtain rfl : fuel = n := by omega
      have := cat_parts (w := w) (fun _ => True) fss cs 0 (by omega) (fun j gs hj => by
        have hjl : j < fss.length := (List.getElem?_eq_some_iff.1 hj).1
        have hf : flds[j]? = some (flds[j]'(by omega)) := Array.getElem?_eq_getElem (by omega)
        obtain ⟨ho, hk⟩ := hfl j _ gs hf hj
        have hty := htys j _ gs hf hj
        have ht := hg j _ hf
        have hx : xs[j]? = some (xs[j]'(by omega)) := List.getElem?_eq_getElem (by omega)
        rw [hx, ho, hk] at ht
        simpa using ih _ _ _ _ hty ht)
      simpa using this
theorem trodAll_stays (hl : laidOutB P = true) {W W' : World} {sp : Nat → Bool} : ∀ {ts : List TypeId} {vs : List Value} {ds : List (DataW H)} {ps : List MemPlace}, (∀ t ∈ ts, P.readableRec t = true ∧ t < P.types.size) →
    DataW.TrodAll enc P W 0 (fun _ => true) true ts vs ds ps → (∀ p ∈ ps, W.sameAt W' p) → (∀ p ∈ ps, sp p.block = true) → DataW.TrodAll enc P W' 0 sp true ts vs ds ps
  | [], [], [], ps, _, h, _, _ => h
  | t :: ts, v :: vs, d :: ds, ps, ht, h, hs, hp => by
    simp only [DataW.TrodAll] at h ⊢
    obtain ⟨p, q, h1, h2, rfl⟩ := h
    exact ⟨p, q, WideElems.Trod_stays hl (ht t (by simp)).1 (ht t (by simp)).2 h1 (fun x hx => hs x (by simp [hx])) (fun x hx => hp x (by simp [hx])),
      trodAll_stays hl (fun t' ht' => ht t' (by simp [ht'])) h2 (fun x hx => hs x (by simp [hx])) (fun x hx => hp x (by simp [hx])), rfl⟩
  | [], _ :: _, _, _, _, h, _, _ => by simp [DataW.TrodAll] at h
  | [], [], _ :: _, _, _, h, _, _ => by simp [DataW.TrodAll] at h
  | _ :: _, [], _, _, _, h, _, _ => by simp [DataW.TrodAll] at h
  | _ :: _, _ :: _, [], _, _, h, _, _ => by simp [DataW.TrodAll] at h
/-- A law that returned true and turned nothing that was there: its row's post. -/
theorem law_post {f : Func} {s : ChangeSpec} {W W' : World} {args : Array Value} {ds : List (DataW H)} {before : List MemPlace} {tb : TypeId} (hl : laidOutB P = true) (hvars : s.vars = [])
    (hres : f.resultTypes = #[tb]) (hb : P.underlying tb = some .bool) (hps : ∀ t ∈ f.params.toList, P.readableRec t = true ∧ t < P.types.size)
    (hW : DataW.Whole enc P f.params.toList s.vars false W args.toList ds [] before) (hfn : s.fn H (ds ++ []) = { results := [.lit (.bool true)], args := ds }) (hbel : Below W.heap.size W W') :
    s.post enc P f false true false false W args (.bool true) W' := by
  have hlt : ∀ p ∈ before, p.block < W.heap.size := fun p hp => hW.lt p hp
  obtain ⟨p, q, hA, hV, rfl, hfz, hnd⟩ := id hW
  rw [hvars] at hV
  obtain ⟨_, rfl⟩ := trodVars_none hV
  simp only [List.append_nil] at hlt
  refine ⟨ds, [], p ++ [], [], p, [], hW, ?_, ?_, ?_, World.keptBut_mono (fun x hx => ⟨hx, .inr (.inl (by simpa using hx))⟩) (hbel.frame (· ∈ p ++ [])), fun h => by cases h⟩
  · rw [hfn, hres]
    exact trodAll_cons_mk (shut_bool hb _) trodAll_mk0
  · rw [hfn]
    exact trodAll_stays hl hps hA (fun x hx => hbel.same (hlt x hx)) (fun x hx => by simpa using hlt x hx)
  · rw [hfn, hvars]
    rfl
end
def TyAll (P : Program) (T : TN → TypeId) (R : TN → Prop) : List Field → List (List F) → Prop
  | [], [] => True
  | f :: fl, fs :: fss => TyOk P T R f.type fs ∧ TyAll P T R fl fss
  | _, _ => False
def offsOk (P : Program) : List Field → List (List F) → Nat → Bool
  | [], [], _ => true
  | f :: fl, fs :: fss, o => f.offset == o && P.cellsOf f.type == fs.length && offsOk P fl fss (o + fs.length)
  | _, _, _ => false
theorem TyAll.len {P : Program} {T : TN → TypeId} {R : TN → Prop} : ∀ {fl : List Field} {fss : List (List F)}, TyAll P T R fl fss → fl.length = fss.length
  | [], [], _ => rfl
  | f :: fl, fs :: fss, h => by simp only [TyAll] at h; simp [TyAll.len h.2]
  | [], _ :: _, h => by simp [TyAll] at h
  | _ :: _, [], h => by simp [TyAll] at h
theorem TyAll.get {P : Program} {T : TN → TypeId} {R : TN → Prop} : ∀ {fl : List Field} {fss : List (List F)} {j : Nat} {f : Field} {fs : List F}, TyAll P T R fl fss → fl[j]? = some f → fss[j]? = some fs → TyOk P T R f.type fs
  | [], _, _, _, _, _, h, _ => by simp at h
  | f :: fl, fs :: fss, 0, g, gs, h, h1, h2 => by
    simp at h1 h2
    subst h1 h2
    exact h.1
  | f :: fl, fs :: fss, j + 1, g, gs, h, h1, h2 => TyAll.get (fl := fl) (fss := fss) (j := j) h.2 (by simpa using h1) (by simpa using h2)
  | _ :: _, [], _, _, _, _, _, h => by simp at h
theorem offsOk.get {P : Program} : ∀ {fl : List Field} {fss : List (List F)} {o j : Nat} {f : Field} {fs : List F}, offsOk P fl fss o = true → fl[j]? = some f → fss[j]? = some fs → f.offset = o + (fss.take j).flatten.length ∧ P.cellsOf f.type = fs.length
  | [], _, _, _, _, _, _, h, _ => by simp at h
  | f :: fl, fs :: fss, o, 0, g, gs, h, h1, h2 => by
    simp at h1 h2
    subst h1 h2
    simp only [offsOk, Bool.and_eq_true, beq_iff_eq] at h
    simpa using h.1
  | f :: fl, fs :: fss, o, j + 1, g, gs, h, h1, h2 => by
    simp only [offsOk, Bool.and_eq_true, beq_iff_eq] at h
    have := offsOk.get (fl := fl) (fss := fss) (o := o + fs.length) (j := j) h.2 (by simpa using h1) (by simpa using h2)
    simp only [List.take_succ_cons, List.flatten_cons, List.length_append]
    exact ⟨by omega, this.2⟩
  | _ :: _, [], _, _, _, _, _, _, h => by simp at h
theorem TyOk.st_of {P : Program} {T : TN → TypeId} {R : TN → Prop} {t : TypeId} {fl : List Field} (fss : List (List F)) (hu : P.underlying t = some (.struct fl.toArray)) (ho : offsOk P fl fss 0 = true) (hc : P.cellsOf t = fss.flatten.length) (h : TyAll P T R fl fss) : TyOk P T R t fss.flatten := by
  refine .st hu (by simpa using h.len) hc (fun j f fs h1 h2 => ?_) (fun j f fs h1 h2 => h.get (by simpa using h1) h2)
  have := ho
  have := offsOk.get ho (by simpa using h1) h2
  simpa using this
theorem own : ownKnob Tryz.prog.godebug = none := by kernel_rfl
theorem laidOut : laidOutB Tryz.prog = true := by kernel_rfl
end Go.Proofs.YtpbikjkjfojjiaaGreat
namespace Go.Proofs.YtpbikjkjfojjiaaGreat
open Go.RowKit
def seatT : TN → TypeId
  | .int => 3
  | .str => 9
  | .ints => 69
  | .sub => 198
  | .decl => 215
  | .op => 145
  | .term => 31
  | .cond => 148
  | .eqn => 34
  | .weight => 131
  | _ => 0
def seatR : TN → Prop
  | .int => True
  | .str => True
  | .ints => True
  | .sub => True
  | .decl => True
  | .op => True
  | .term => True
  | .cond => True
  | .eqn => True
  | .weight => True
  | _ => False
theorem ty_int : TyOk Tryz.prog seatT seatR 3 [.int] := .int Tryz.underlying3
theorem ty_str : TyOk Tryz.prog seatT seatR 9 [.str] := .str Tryz.underlying9
theorem ty_bool : TyOk Tryz.prog seatT seatR 4 [.bool] := .bool Tryz.underlying4
theorem ty_s_int : TyOk Tryz.prog seatT seatR 69 [.sl .int] := .sl (tn := .int) Tryz.underlying69 (by kernel_rfl) trivial
theorem ty_s_str : TyOk Tryz.prog seatT seatR 22 [.sl .str] := .sl (tn := .str) Tryz.underlying22 (by kernel_rfl) trivial
theorem ty_s_ints : TyOk Tryz.prog seatT seatR 66 [.sl .ints] := .sl (tn := .ints) Tryz.underlying66 (by kernel_rfl) trivial
theorem ty_s_sub : TyOk Tryz.prog seatT seatR 23 [.sl .sub] := .sl (tn := .sub) Tryz.underlying23 (by kernel_rfl) trivial
theorem ty_s_decl : TyOk Tryz.prog seatT seatR 143 [.sl .decl] := .sl (tn := .decl) Tryz.underlying143 (by kernel_rfl) trivial
theorem ty_s_op : TyOk Tryz.prog seatT seatR 26 [.sl .op] := .sl (tn := .op) Tryz.underlying26 (by kernel_rfl) trivial
theorem ty_s_term : TyOk Tryz.prog seatT seatR 29 [.sl .term] := .sl (tn := .term) Tryz.underlying29 (by kernel_rfl) trivial
theorem ty_s_cond : TyOk Tryz.prog seatT seatR 32 [.sl .cond] := .sl (tn := .cond) Tryz.underlying32 (by kernel_rfl) trivial
theorem ty_s_eqn : TyOk Tryz.prog seatT seatR 55 [.sl .eqn] := .sl (tn := .eqn) Tryz.underlying55 (by kernel_rfl) trivial
theorem ty_s_weight : TyOk Tryz.prog seatT seatR 85 [.sl .weight] := .sl (tn := .weight) Tryz.underlying85 (by kernel_rfl) trivial
theorem ty_Sub : TyOk Tryz.prog seatT seatR 198 (fieldsOf .sub) := TyOk.st_of [[.int], [.int]] Tryz.underlying198 (by kernel_rfl) (by kernel_rfl) ⟨ty_int, ty_int, trivial⟩
theorem ty_Sorts : TyOk Tryz.prog seatT seatR 25 (sortsF) := TyOk.st_of [[.sl .str], [.sl .sub]] Tryz.underlying25 (by kernel_rfl) (by kernel_rfl) ⟨ty_s_str, ty_s_sub, trivial⟩
theorem ty_Decl : TyOk Tryz.prog seatT seatR 215 (fieldsOf .decl) := TyOk.st_of [[.sl .int], [.int]] Tryz.underlying215 (by kernel_rfl) (by kernel_rfl) ⟨ty_s_int, ty_int, trivial⟩
theorem ty_Op : TyOk Tryz.prog seatT seatR 145 (fieldsOf .op) := TyOk.st_of [[.str], [.sl .decl], [.bool], [.bool], [.int]] Tryz.underlying145 (by kernel_rfl) (by kernel_rfl) ⟨ty_str, ty_s_decl, ty_bool, ty_bool, ty_int, trivial⟩
theorem ty_Signature : TyOk Tryz.prog seatT seatR 28 (sigF) := TyOk.st_of [sortsF, [.sl .op]] Tryz.underlying28 (by kernel_rfl) (by kernel_rfl) ⟨ty_Sorts, ty_s_op, trivial⟩
theorem ty_Term : TyOk Tryz.prog seatT seatR 31 (fieldsOf .term) := TyOk.st_of [[.int], [.str], [.int], [.sl .term]] Tryz.underlying31 (by kernel_rfl) (by kernel_rfl) ⟨ty_int, ty_str, ty_int, ty_s_term, trivial⟩
theorem ty_Condition : TyOk Tryz.prog seatT seatR 148 (fieldsOf .cond) := TyOk.st_of [termF, termF] Tryz.underlying148 (by kernel_rfl) (by kernel_rfl) ⟨ty_Term, ty_Term, trivial⟩
theorem ty_Equation : TyOk Tryz.prog seatT seatR 34 (fieldsOf .eqn) := TyOk.st_of [termF, termF, [.sl .cond]] Tryz.underlying34 (by kernel_rfl) (by kernel_rfl) ⟨ty_Term, ty_Term, ty_s_cond, trivial⟩
theorem ty_Module : TyOk Tryz.prog seatT seatR 57 (moduleF) := TyOk.st_of [sigF, [.sl .eqn], [.sl .eqn]] Tryz.underlying57 (by kernel_rfl) (by kernel_rfl) ⟨ty_Signature, ty_s_eqn, ty_s_eqn, trivial⟩
theorem ty_Algebra : TyOk Tryz.prog seatT seatR 68 (algF) := TyOk.st_of [[.int], [.sl .ints]] Tryz.underlying68 (by kernel_rfl) (by kernel_rfl) ⟨ty_int, ty_s_ints, trivial⟩
theorem ty_Weight : TyOk Tryz.prog seatT seatR 131 (fieldsOf .weight) := TyOk.st_of [[.int], [.sl .int]] Tryz.underlying131 (by kernel_rfl) (by kernel_rfl) ⟨ty_int, ty_s_int, trivial⟩
theorem seatTR : ∀ tn, seatR tn → TyOk Tryz.prog seatT seatR (seatT tn) (fieldsOf tn) := by
  intro tn h
  cases tn
  all_goals first
    | exact (h : False).elim
    | exact ty_int
    | exact ty_str
    | exact ty_s_int
    | exact ty_Sub
    | exact ty_Decl
    | exact ty_Op
    | exact ty_Term
    | exact ty_Condition
    | exact ty_Equation
    | exact ty_Weight
end Go.Proofs.YtpbikjkjfojjiaaGreat
namespace Go.Proofs.YtpbikjkjfojjiaaGreat
open Go.RowKit
theorem okRow_String {r : List C} (h : okRow (fieldsOf .str) r) : ∃ x0 : ByteArray, r = [.lit (.string x0)] ∧ x0.size ≤ maxLen := by
  obtain ⟨c0, rfl⟩ := len1 h.len
  simp only [fieldsOf, okRow, and_true] at h
  have h0 := h
  obtain ⟨x0, rfl, g0⟩ := okC_str h0
  exact ⟨x0, rfl, g0⟩
theorem mkRow_String {x0 : ByteArray} (g0 : x0.size ≤ maxLen) : okRow (fieldsOf .str) [.lit (.string x0)] := by
  simp only [fieldsOf, okRow, and_true]
  exact mk_str g0
def szStringSC (rows : List (List C)) : Prop := ∀ (S : Nat → Prop) (v : Value) (left : Int) (w : World), okRows (fieldsOf .str) rows → Rep w S (.sl rows) v → 0 ≤ left → left ≤ 1048576 →
  Calls Tryz.prog 88 #[v, .int .i64 left] w fun e w' => e = .returned (.int .i64 (sub left (rows.length + bulkRows rows))) ∧ Below w.heap.size w w'
def eqStringSC (rows : List (List C)) : Prop := ∀ (S S' : Nat → Prop) (v v' : Value) (w : World), okRows (fieldsOf .str) rows → Rep w S (.sl rows) v → Rep w S' (.sl rows) v' →
  Calls Tryz.prog 109 #[v, v'] w fun e w' => e = .returned (.bool true) ∧ Below w.heap.size w w'
def toStringSC (rows : List (List C)) : Prop := ∀ (S : Nat → Prop) (v : Value) (w : World), okRows (fieldsOf .str) rows → Rep w S (.sl rows) v → rows.length + bulkRows rows ≤ 1048576 →
  Calls Tryz.prog 101 #[v] w fun e w' => ∃ v', e = .returned v' ∧ Own w' (.sl rows) (fun x => w.heap.size ≤ x ∧ x < w'.heap.size) v' ∧ Below w.heap.size w w'
set_option maxHeartbeats 1000000 in
theorem szStringS_any (rows : List (List C)) : szStringSC rows := by
  intro S v left w hok hv h0 h1
  obtain ⟨A, m, cap, rfl, hm, hmc, hcm⟩ := hv.form
  have HV := Lib.hid hv
  have HM := Lib.hid hm
  have HOK := Lib.hid hok
  clear hv hm hok
  unfold maxLen at hcm
  by_cases hlt : left - m < 0
  · rw [sub_neg (by have := HM.out; omega)]
    go_enter Tryz.func88, Tryz.ntmps88
    go_wp2
    go_ret
    exact ⟨rfl, Below.refl _ _⟩
  · go_enter Tryz.func88, Tryz.ntmps88
    go_wp2
    go_loopw [1, 5] (fun l i wr => ∃ k : Nat, k ≤ m ∧ i = .int .i64 k ∧ l = .int .i64 (left - m - (bulkRows (rows.take k) : Int)) ∧ 0 ≤ left - m - (bulkRows (rows.take k) : Int) ∧ Below w.heap.size w wr) (fun _ i _ => m - (intOf i).toNat)
    case atStart => exact ⟨0, Nat.zero_le _, rfl, by simp [bulkRows], by simp [bulkRows]; omega, Below.refl _ _⟩
    case round =>
      obtain ⟨k, hk, rfl, rfl, hl0, hb⟩ := hrel
      by_cases hkm : k < m
      · obtain ⟨b, off, r, rfl, hS, hbz, hget, hokr, hrow⟩ := (HV.out.below hb).get HOK.out hkm
        obtain ⟨u0, c0, hvals⟩ := hrow.vals1 hokr.len
        obtain ⟨x0, rfl, g0⟩ := okRow_String hokr
        simp only [RepVals, Rep.lit_iff, and_true] at hvals
        subst hvals
        unfold maxLen at g0
        have hle := bulk_take_le rows (k+1)
        have HBT := Lib.hid (bulk_take hget)
        simp only [bulkRow, bulkC, Nat.add_zero] at HBT
        clear hokr hrow hget
        simp only [fieldsOf, List.length_cons, List.length_nil, Nat.reduceAdd, Nat.mul_one] at c0
        by_cases h2 : left - m - (bulkRows (rows.take k) : Int) - x0.size < 0
        · go_wp2
          go_ret
          exact ⟨ret_int (a := -1) (sub_neg (by have := HBT.out; have := HM.out; omega)).symm, hb⟩
        · go_wp2
          go_roundw
          case rel => exact ⟨k + 1, by omega, by go_num, by have := HBT.out; congr 1; omega, by have := HBT.out; omega, hb⟩
          case measure => simp [intOf]; omega
      · go_wp2
        go_ret
        have e : k = m := by omega
        subst e
        have : rows.take k = rows := List.take_of_length_le (by have := HM.out; omega)
        rw [this] at hl0 ⊢
        exact ⟨ret_int (by have := HM.out; rw [sub_pos (by omega)]; omega), hb⟩
set_option maxHeartbeats 1000000 in
theorem eqStringS_any (rows : List (List C)) : eqStringSC rows := by
  intro S S' v v' w hok hv hv'
  obtain ⟨A, m, cap, rfl, hm, hmc, hcm⟩ := hv.form
  obtain ⟨A', m', cap', rfl, hm', hmc', hcm'⟩ := hv'.form
  obtain rfl : m = m' := by omega
  have HV := Lib.hid hv
  have HV' := Lib.hid hv'
  have HM := Lib.hid hm
  have HOK := Lib.hid hok
  clear hv hm hok hm' hv'
  unfold maxLen at hcm hcm'
  go_enter Tryz.func109, Tryz.ntmps109
  go_wp2
  go_loopw [5] (fun i wr => ∃ k : Nat, k ≤ m ∧ i = .int .i64 k ∧ Below w.heap.size w wr) (fun i _ => m - (intOf i).toNat)
  case atStart => exact ⟨0, Nat.zero_le _, rfl, Below.refl _ _⟩
  case round =>
    obtain ⟨k, hk, rfl, hb⟩ := hrel
    by_cases hkm : k < m
    · obtain ⟨b, off, r, rfl, hS, hbz, hget, hokr, hrow⟩ := (HV.out.below hb).get HOK.out hkm
      obtain ⟨b', off', r', rfl, hS', hbz', hget', hokr', hrow'⟩ := (HV'.out.below hb).get HOK.out hkm
      obtain rfl : r = r' := by rw [hget] at hget'; exact Option.some.inj hget'
      obtain ⟨u0, c0, hvals⟩ := hrow.vals1 hokr.len
      obtain ⟨u1, d0, hvals'⟩ := hrow'.vals1 hokr.len
      obtain ⟨x0, rfl, g0⟩ := okRow_String hokr
      simp only [RepVals, Rep.lit_iff, and_true] at hvals hvals'
      subst hvals
      subst hvals'
      clear hokr hokr' hrow hrow' hget hget' g0
      simp only [fieldsOf, List.length_cons, List.length_nil, Nat.reduceAdd, Nat.mul_one] at c0 d0
      have k0 : (0 : Int) ≤ (k : Int) := by omega
      have k1 : (k : Int) < (m : Int) := by omega
      go_wp2_with fail
      go_quiet (fail)
      go_wp2
      go_roundw
      case rel => exact ⟨k + 1, by omega, by go_num, hb.trans (below_drewN (Below.refl _ _) _)⟩
      case measure => simp [intOf]; omega
    · go_wp2
      go_ret
      exact ⟨rfl, hb⟩
theorem info_String : (Tryz.prog.info? 9).map (fun i => (i.zero, i.size, i.bytes)) = some (some (.string .empty), 1, 16) := by kernel_rfl
set_option maxHeartbeats 1000000 in
theorem toStringS_any (rows : List (List C)) : toStringSC rows := by
  intro S v w hok hv hlen
  obtain ⟨A, m, cap, rfl, hm, hmc, hcm⟩ := hv.form
  obtain ⟨i0, hi, hz0, hz1, hz2⟩ := info_parts info_String
  have HV := Lib.hid hv
  have HM := Lib.hid hm
  have HOK := Lib.hid hok
  have hml : m ≤ 1048576 := by omega
  clear hv hm hok
  unfold maxLen at hcm
  have hmk := run_make (P := Tryz.prog) w 22 9 i0 _ Tryz.underlying22 hi hz0 .i64 .i64 (m : Int) (m : Int) (by omega) (by omega) (by rw [hz2]; omega) (by omega)
  go_enter Tryz.func101, Tryz.ntmps101
  go_wp2
  clear hmk
  go_loopw [4] (fun i wr => ∃ k : Nat, k ≤ m ∧ i = .int .i64 k ∧ Filling w w.heap.size 9 m 1 rows k wr) (fun i _ => m - (intOf i).toNat)
  case atStart => exact ⟨0, Nat.zero_le _, rfl, Filling.start (by rw [size_madeCells]; omega)⟩
  case round =>
    obtain ⟨k, hk, rfl, hfill⟩ := hrel
    have hb := hfill.1
    by_cases hkm : k < m
    · obtain ⟨b, off, r, rfl, hS, hbz, hget, hokr, hrow⟩ := (HV.out.below hb).get HOK.out hkm
      obtain ⟨u0, c0, hvals⟩ := hrow.vals1 hokr.len
      obtain ⟨x0, rfl, g0⟩ := okRow_String hokr
      simp only [RepVals, Rep.lit_iff, and_true] at hvals
      subst hvals
      have HGET := Lib.hid hget
      have HF := Lib.hid hfill
      obtain ⟨cur, hcur, hcs⟩ := HF.out.row (Below.refl _ _)
      have HCUR := Lib.hid hcur
      have HCS := Lib.hid hcs
      clear hokr hrow hget hfill g0 hcur hcs
      simp only [fieldsOf, List.length_cons, List.length_nil, Nat.reduceAdd, Nat.mul_one] at c0
      go_wp2_with (refine wpList_store_put rfl 9 _ _ rfl w.heap.size k rfl [.string x0] rfl i0 hi hz1 9 cur HCUR.out (by have := HCS.out; simp only [List.length_cons, List.length_nil]; omega) (by simp [Value.oneCell']) ?_; intro w3 hput)
      go_roundw
      case rel => exact ⟨k + 1, by omega, by go_num, HF.out.step (fs := fieldsOf .str) HOK.out HGET.out (Below.refl _ _) (OwnVals.lit OwnVals.nil) (by simpa [fieldsOf] using hput)⟩
      case measure => simp [intOf]; omega
    · go_wp2
      go_ret
      have e : k = m := by omega
      subst e
      exact ⟨_, rfl, hfill.done HM.out (by unfold maxLen; omega) (by decide) HOK.out.lens⟩
end Go.Proofs.YtpbikjkjfojjiaaGreat
namespace Go.Proofs.YtpbikjkjfojjiaaGreat
open Go.RowKit
theorem okRow_Sub {r : List C} (h : okRow (fieldsOf .sub) r) : ∃ (i0 : Int) (i1 : Int), r = [.lit (.int .i64 i0), .lit (.int .i64 i1)] ∧ I64 i0 ∧ I64 i1 := by
  obtain ⟨c0, c1, rfl⟩ := len2 h.len
  simp only [fieldsOf, termF, occF, sortsF, sigF, moduleF, algF, List.cons_append, List.nil_append, okRow, and_true] at h
  obtain ⟨h0, h1⟩ := h
  obtain ⟨i0, rfl, g0⟩ := okC_int h0
  obtain ⟨i1, rfl, g1⟩ := okC_int h1
  exact ⟨i0, i1, rfl, g0, g1⟩
theorem mkRow_Sub {i0 : Int} {i1 : Int} (g0 : I64 i0) (g1 : I64 i1) : okRow (fieldsOf .sub) [.lit (.int .i64 i0), .lit (.int .i64 i1)] := by
  simp only [fieldsOf, termF, occF, sortsF, sigF, moduleF, algF, List.cons_append, List.nil_append, okRow, and_true]
  exact ⟨mk_int g0, mk_int g1⟩
theorem repVals_Sub {w : World} {S : Nat → Prop} {i0 : Int} {i1 : Int} {us : List Value} (h : RepVals w S [.lit (.int .i64 i0), .lit (.int .i64 i1)] us) : us = [.int .i64 i0, .int .i64 i1] := by
  obtain ⟨u0, u1, rfl⟩ := len2 h.len
  simp only [RepVals, Rep.lit_iff, and_true] at h
  obtain ⟨rfl, rfl⟩ := h
  exact rfl
def eqSubC (row : List C) : Prop := ∀ (S S' : Nat → Prop) (us us' : List Value) (w : World), okRow (fieldsOf .sub) row → RepVals w S row us → RepVals w S' row us' →
  Calls Tryz.prog 152 #[.agg us.toArray, .agg us'.toArray] w fun e w' => e = .returned (.bool true) ∧ Below w.heap.size w w'
def toSubC (row : List C) : Prop := ∀ (S : Nat → Prop) (us : List Value) (w : World), okRow (fieldsOf .sub) row → RepVals w S row us → bulkRow row ≤ 1048576 →
  Calls Tryz.prog 141 #[.agg us.toArray] w fun e w' => ∃ us' : List Value, e = .returned (.agg us'.toArray) ∧ OwnVals w' row (fun x => w.heap.size ≤ x ∧ x < w'.heap.size) us' ∧ Below w.heap.size w w'
def szSubSC (rows : List (List C)) : Prop := ∀ (S : Nat → Prop) (v : Value) (left : Int) (w : World), okRows (fieldsOf .sub) rows → Rep w S (.sl rows) v → 0 ≤ left → left ≤ 1048576 →
  Calls Tryz.prog 89 #[v, .int .i64 left] w fun e w' => e = .returned (.int .i64 (sub left (rows.length + bulkRows rows))) ∧ Below w.heap.size w w'
def eqSubSC (rows : List (List C)) : Prop := ∀ (S S' : Nat → Prop) (v v' : Value) (w : World), okRows (fieldsOf .sub) rows → Rep w S (.sl rows) v → Rep w S' (.sl rows) v' →
  Calls Tryz.prog 110 #[v, v'] w fun e w' => e = .returned (.bool true) ∧ Below w.heap.size w w'
def toSubSC (rows : List (List C)) : Prop := ∀ (S : Nat → Prop) (v : Value) (w : World), okRows (fieldsOf .sub) rows → Rep w S (.sl rows) v → rows.length + bulkRows rows ≤ 1048576 →
  Calls Tryz.prog 102 #[v] w fun e w' => ∃ v', e = .returned v' ∧ Own w' (.sl rows) (fun x => w.heap.size ≤ x ∧ x < w'.heap.size) v' ∧ Below w.heap.size w w'
set_option maxHeartbeats 1000000 in
theorem eqSub_of (row : List C) : eqSubC row := by
  intro S S' us us' w hok hv hv'
  obtain ⟨i0, i1, rfl, g0, g1⟩ := okRow_Sub hok
  obtain rfl := repVals_Sub hv
  obtain rfl := repVals_Sub hv'
  have G0 := Lib.hid g0
  have G1 := Lib.hid g1
  clear g0 g1 hok
  clear hv hv' 
  have hbw := ((Below.refl w.heap.size w).alloc (Nat.le_refl _) (.cells #[.int .i64 i0, .int .i64 i1] 192)).alloc (by simp) (.cells #[.int .i64 i0, .int .i64 i1] 192)
  go_enter Tryz.func152, Tryz.ntmps152
  go_wp2
  go_ret
  exact ⟨rfl, hbw⟩
set_option maxHeartbeats 2000000 in
theorem toSub_of (row : List C) : toSubC row := by
  intro S us w hok hv hlen
  obtain ⟨i0, i1, rfl, g0, g1⟩ := okRow_Sub hok
  obtain rfl := repVals_Sub hv
  have G0 := Lib.hid g0
  have G1 := Lib.hid g1
  clear g0 g1 hok
  clear hv 
  clear hlen
  go_enter Tryz.func141, Tryz.ntmps141
  go_wp2
  refine bodyPost_ret (v := .agg #[.int .i64 i0, .int .i64 i1]) (by simp [results, Tryz.results141, go_sem]) rfl ⟨[.int .i64 i0, .int .i64 i1], rfl, ?_, (by repeat (first | refine Below.alloc ?_ (by simp; try omega) _ | exact Below.refl _ _))⟩
  simp
  exact (OwnVals.lit (OwnVals.lit OwnVals.nil))
theorem eqSub_any (row : List C) : eqSubC row := eqSub_of row
theorem toSub_any (row : List C) : toSubC row := toSub_of row
theorem bulk_Sub : ∀ (rows : List (List C)), okRows (fieldsOf .sub) rows → bulkRows rows = 0
  | [], _ => by simp [bulkRows]
  | r :: rs, h => by
    obtain ⟨i0, i1, rfl, _⟩ := okRow_Sub h.1
    simp [bulkRows, bulkRow, bulkC, bulk_Sub rs h.2]
set_option maxHeartbeats 1000000 in
theorem szSubS_any (rows : List (List C)) : szSubSC rows := by
  intro S v left w hok hv h0 h1
  obtain ⟨A, m, cap, rfl, hm, hmc, hcm⟩ := hv.form
  have hz := bulk_Sub rows hok
  rw [hz, hm]
  clear hv hm hok hz
  unfold maxLen at hcm
  by_cases hlt : left - m < 0
  · rw [sub_neg (by omega)]
    go_enter Tryz.func89, Tryz.ntmps89
    go_wp2
    go_ret
    exact ⟨rfl, Below.refl _ _⟩
  · rw [sub_pos (by omega)]
    go_enter Tryz.func89, Tryz.ntmps89
    go_wp2
    go_ret
    exact ⟨ret_int (by omega), Below.refl _ _⟩
set_option maxHeartbeats 1000000 in
theorem eqSubS_of (rows : List (List C)) (h : ∀ (i : Nat) r, rows[i]? = some r → eqSubC r) : eqSubSC rows := by
  intro S S' v v' w hok hv hv'
  obtain ⟨A, m, cap, rfl, hm, hmc, hcm⟩ := hv.form
  obtain ⟨A', m', cap', rfl, hm', hmc', hcm'⟩ := hv'.form
  obtain rfl : m = m' := by omega
  have H := Lib.hid h
  have HV := Lib.hid hv
  have HV' := Lib.hid hv'
  have HM := Lib.hid hm
  have HOK := Lib.hid hok
  clear h hv hm hok hm' hv'
  unfold maxLen at hcm hcm'
  go_enter Tryz.func110, Tryz.ntmps110
  go_wp2
  go_loopw [5] (fun i wr => ∃ k : Nat, k ≤ m ∧ i = .int .i64 k ∧ Below w.heap.size w wr) (fun i _ => m - (intOf i).toNat)
  case atStart => exact ⟨0, Nat.zero_le _, rfl, Below.refl _ _⟩
  case round =>
    obtain ⟨k, hk, rfl, hb⟩ := hrel
    by_cases hkm : k < m
    · obtain ⟨b, off, r, rfl, hS, hbz, hget, hokr, hrow⟩ := (HV.out.below hb).get HOK.out hkm
      obtain ⟨b', off', r', rfl, hS', hbz', hget', hokr', hrow'⟩ := (HV'.out.below hb).get HOK.out hkm
      obtain rfl : r = r' := by rw [hget] at hget'; exact Option.some.inj hget'
      obtain ⟨u0, u1, c0, c1, hvals⟩ := hrow.vals2 hokr.len
      obtain ⟨x0, x1, d0, d1, hvals'⟩ := hrow'.vals2 hokr.len
      have HT := H.out k r hget
      have HVALS := Lib.hid hvals
      have HVALS' := Lib.hid hvals'
      have HOKR := Lib.hid hokr
      clear hvals hvals' hokr hokr' hrow hrow' hget hget'
      simp only [fieldsOf, termF, occF, sortsF, sigF, moduleF, algF, List.cons_append, List.nil_append, List.length_cons, List.length_nil, Nat.reduceAdd, Nat.mul_one] at c0 c1 d0 d1
      have k0 : (0 : Int) ≤ (k : Int) := by omega
      have k1 : (k : Int) < (m : Int) := by omega
      go_wp2_with fail
      go_region_held3 (fun w' => ∀ b o, b < wr.heap.size → w'.cell? ⟨b, o, none⟩ = wr.cell? ⟨b, o, none⟩) (first | go_keep | exact fun b o h => hb2.cell (p := ⟨b, o, none⟩) h) (first | (go_at_call 152; refine (HT S S' _ _ _ HOKR.out (HVALS.out.below (Below.refl _ _).drew) (HVALS'.out.below (Below.refl _ _).drew)).mono ?_; rintro e w' ⟨rfl, hb2⟩))
      go_wp2
      go_roundw
      case rel => exact ⟨k + 1, by omega, by go_num, hb.trans ((Below.refl _ _).drew.trans (hb2.mono hb.size))⟩
      case measure => simp [intOf]; omega
    · go_wp2
      go_ret
      exact ⟨rfl, hb⟩
theorem info_Sub : (Tryz.prog.info? 192).map (fun i => (i.zero, i.size, i.bytes)) = some (some (.agg #[.int .i64 0, .int .i64 0]), 2, 16) := by kernel_rfl
set_option maxHeartbeats 1000000 in
theorem toSubS_of (rows : List (List C)) (h : ∀ (i : Nat) r, rows[i]? = some r → toSubC r) : toSubSC rows := by
  intro S v w hok hv hlen
  obtain ⟨A, m, cap, rfl, hm, hmc, hcm⟩ := hv.form
  obtain ⟨i0, hi, hz0, hz1, hz2⟩ := info_parts info_Sub
  have H := Lib.hid h
  have HV := Lib.hid hv
  have HM := Lib.hid hm
  have HOK := Lib.hid hok
  have hml : m ≤ 1048576 := by omega
  clear h hv hm hok
  unfold maxLen at hcm
  have hmk := run_make (P := Tryz.prog) w 38 192 i0 _ Tryz.underlying38 hi hz0 .i64 .i64 (m : Int) (m : Int) (by omega) (by omega) (by rw [hz2]; omega) (by omega)
  go_enter Tryz.func102, Tryz.ntmps102
  go_wp2
  clear hmk
  go_loopw [4] (fun i wr => ∃ k : Nat, k ≤ m ∧ i = .int .i64 k ∧ Filling w w.heap.size 192 m 2 rows k wr) (fun i _ => m - (intOf i).toNat)
  case atStart => exact ⟨0, Nat.zero_le _, rfl, Filling.start (size_madeCells _ _)⟩
  case round =>
    obtain ⟨k, hk, rfl, hfill⟩ := hrel
    have hb := hfill.1
    by_cases hkm : k < m
    · obtain ⟨b, off, r, rfl, hS, hbz, hget, hokr, hrow⟩ := (HV.out.below hb).get HOK.out hkm
      obtain ⟨u0, u1, c0, c1, hvals⟩ := hrow.vals2 hokr.len
      have HT := H.out k r hget
      have HVALS := Lib.hid hvals
      have HOKR := Lib.hid hokr
      have HGET := Lib.hid hget
      have HF := Lib.hid hfill
      have hbg := bulk_get hget
      clear hvals hokr hrow hget hfill
      simp only [fieldsOf, termF, occF, sortsF, sigF, moduleF, algF, List.cons_append, List.nil_append, List.length_cons, List.length_nil, Nat.reduceAdd, Nat.mul_one] at c0 c1
      go_wp2_with fail
      refine (HT S _ _ HOKR.out HVALS.out (by omega)).mono ?_
      rintro e w2 ⟨us, rfl, hown, hb2⟩
      have hone := HOKR.out.one (OwnVals.rep _ _ (fun _ => True) _ (fun _ _ => trivial) hown)
      obtain ⟨y0, y1, rfl⟩ := len2 (hown.len.trans HOKR.out.len)
      have HOWN := Lib.hid hown
      have HONE := Lib.hid hone
      obtain ⟨cur, hcur, hcs⟩ := HF.out.row hb2
      have HCUR := Lib.hid hcur
      have HCS := Lib.hid hcs
      clear hown hone hcur hcs
      go_wp2_with (refine wpList_store_put rfl 192 _ _ rfl w.heap.size (k * 2) rfl [y0, y1] rfl i0 hi hz1 192 cur HCUR.out (by have := HCS.out; simp only [List.length_cons, List.length_nil]; omega) HONE.out ?_; intro w3 hput)
      go_roundw
      case rel => exact ⟨k + 1, by omega, by go_num, HF.out.step (fs := fieldsOf .sub) HOK.out HGET.out hb2 HOWN.out hput⟩
      case measure => simp [intOf]; omega
    · go_wp2
      go_ret
      have e : k = m := by omega
      subst e
      exact ⟨_, rfl, hfill.done HM.out (by unfold maxLen; omega) (by decide) HOK.out.lens⟩
theorem eqSubS_any (rows : List (List C)) : eqSubSC rows := eqSubS_of rows (fun _ r _ => eqSub_any r)
theorem toSubS_any (rows : List (List C)) : toSubSC rows := toSubS_of rows (fun _ r _ => toSub_any r)
end Go.Proofs.YtpbikjkjfojjiaaGreat
namespace Go.Proofs.YtpbikjkjfojjiaaGreat
open Go.RowKit
theorem okRow_Sorts {r : List C} (h : okRow (sortsF) r) : ∃ (r0 : List (List C)) (r1 : List (List C)), r = [.sl r0, .sl r1] ∧ okRows (fieldsOf .str) r0 ∧ okRows (fieldsOf .sub) r1 := by
  obtain ⟨c0, c1, rfl⟩ := len2 h.len
  simp only [fieldsOf, termF, occF, sortsF, sigF, moduleF, algF, List.cons_append, List.nil_append, okRow, and_true] at h
  obtain ⟨h0, h1⟩ := h
  obtain ⟨r0, rfl, g0⟩ := okC_sl h0
  obtain ⟨r1, rfl, g1⟩ := okC_sl h1
  exact ⟨r0, r1, rfl, g0, g1⟩
theorem mkRow_Sorts {r0 : List (List C)} {r1 : List (List C)} (g0 : okRows (fieldsOf .str) r0) (g1 : okRows (fieldsOf .sub) r1) : okRow (sortsF) [.sl r0, .sl r1] := by
  simp only [fieldsOf, termF, occF, sortsF, sigF, moduleF, algF, List.cons_append, List.nil_append, okRow, and_true]
  exact ⟨mk_sl g0, mk_sl g1⟩
theorem repVals_Sorts {w : World} {S : Nat → Prop} {r0 : List (List C)} {r1 : List (List C)} {us : List Value} (h : RepVals w S [.sl r0, .sl r1] us) : ∃ v0 v1, us = [v0, v1] ∧ Rep w S (.sl r0) v0 ∧ Rep w S (.sl r1) v1 := by
  obtain ⟨u0, u1, rfl⟩ := len2 h.len
  simp only [RepVals, Rep.lit_iff, and_true] at h
  obtain ⟨e0, e1⟩ := h
  exact ⟨u0, u1, rfl, e0, e1⟩
theorem mkVals_Sorts {w : World} {S : Nat → Prop} {r0 : List (List C)} {r1 : List (List C)} {v0 : Value} {v1 : Value} (e0 : Rep w S (.sl r0) v0) (e1 : Rep w S (.sl r1) v1) : RepVals w S [.sl r0, .sl r1] [v0, v1] := by
  simp only [RepVals, Rep.lit_iff, and_true, true_and]
  exact ⟨e0, e1⟩
def szSortsC (row : List C) : Prop := ∀ (S : Nat → Prop) (us : List Value) (left : Int) (w : World), okRow (sortsF) row → RepVals w S row us → 0 ≤ left → left ≤ 1048576 →
  Calls Tryz.prog 41 #[.agg us.toArray, .int .i64 left] w fun e w' => e = .returned (.int .i64 (sub left (bulkRow row))) ∧ Below w.heap.size w w'
def eqSortsC (row : List C) : Prop := ∀ (S S' : Nat → Prop) (us us' : List Value) (w : World), okRow (sortsF) row → RepVals w S row us → RepVals w S' row us' →
  Calls Tryz.prog 53 #[.agg us.toArray, .agg us'.toArray] w fun e w' => e = .returned (.bool true) ∧ Below w.heap.size w w'
def toSortsC (row : List C) : Prop := ∀ (S : Nat → Prop) (us : List Value) (w : World), okRow (sortsF) row → RepVals w S row us → bulkRow row ≤ 1048576 →
  Calls Tryz.prog 48 #[.agg us.toArray] w fun e w' => ∃ us' : List Value, e = .returned (.agg us'.toArray) ∧ OwnVals w' row (fun x => w.heap.size ≤ x ∧ x < w'.heap.size) us' ∧ Below w.heap.size w w'
set_option maxHeartbeats 1000000 in
theorem szSorts_of (row : List C) : szSortsC row := by
  intro S us left w hok hv h0 h1
  obtain ⟨r0, r1, rfl, g0, g1⟩ := okRow_Sorts hok
  obtain ⟨v0, v1, rfl, e0, e1⟩ := repVals_Sorts hv
  have HC0 := Lib.hid (szStringS_any r0)
  have HC1 := Lib.hid (szSubS_any r1)
  have HB := Lib.hid (show bulkRow [.sl r0, .sl r1] = (r0.length + bulkRows r0) + (r1.length + bulkRows r1) from by simp only [bulkRow, bulkC]; omega)
  have G0 := Lib.hid g0
  have G1 := Lib.hid g1
  clear g0 g1 hok
  have E0 := Lib.hid e0
  have E1 := Lib.hid e1
  clear hv e0 e1
  generalize hrow : bulkRow [.sl r0, .sl r1] = total at HB ⊢
  clear hrow
  have hbw := (Below.refl w.heap.size w).alloc (Nat.le_refl _) (.cells #[v0, v1] 25)
  go_enter Tryz.func41, Tryz.ntmps41
  go_wp2_with fail
  by_cases q0 : left < ((r0.length + bulkRows r0) : Nat)
  · refine (HC0.out S _ _ _ G0.out (E0.out.below hbw) (by omega) (by omega)).mono ?_
    rw [sub_neg (by omega)]
    rintro e w1 ⟨rfl, hb1⟩
    go_wp2
    go_ret
    exact ⟨ret_int (a := -1) (sub_neg (by have := HB.out; omega)).symm, hbw.trans (hb1.mono hbw.size)⟩
  refine (HC0.out S _ _ _ G0.out (E0.out.below hbw) (by omega) (by omega)).mono ?_
  rw [sub_pos (by omega)]
  rintro e w1 ⟨rfl, hb1⟩
  obtain ⟨hc1, hf1⟩ := bcell hb1
  have hz1 : w.heap.size < w1.heap.size := (by have := hb1.size; (try simp at this); omega)
  replace hbw := hbw.trans (hb1.mono hbw.size)
  go_wp2_with fail
  by_cases q1 : (left - (((r0.length + bulkRows r0) : Nat) : Int)) < ((r1.length + bulkRows r1) : Nat)
  · refine (HC1.out S _ _ _ G1.out (E1.out.below hbw) (by omega) (by omega)).mono ?_
    rw [sub_neg (by omega)]
    rintro e w2 ⟨rfl, hb2⟩
    go_wp2
    go_ret
    exact ⟨ret_int (a := -1) (sub_neg (by have := HB.out; omega)).symm, hbw.trans (hb2.mono hbw.size)⟩
  refine (HC1.out S _ _ _ G1.out (E1.out.below hbw) (by omega) (by omega)).mono ?_
  rw [sub_pos (by omega)]
  rintro e w2 ⟨rfl, hb2⟩
  obtain ⟨hc2, hf2⟩ := bcell hb2
  have hz2 : w.heap.size < w2.heap.size := (by have := hb2.size; (try simp at this); omega)
  replace hbw := hbw.trans (hb2.mono hbw.size)
  go_wp2
  go_ret
  exact ⟨ret_int (by have := HB.out; rw [sub_pos (by omega)]; omega), hbw⟩
set_option maxHeartbeats 1000000 in
theorem eqSorts_of (row : List C) : eqSortsC row := by
  intro S S' us us' w hok hv hv'
  obtain ⟨r0, r1, rfl, g0, g1⟩ := okRow_Sorts hok
  obtain ⟨v0, v1, rfl, e0, e1⟩ := repVals_Sorts hv
  obtain ⟨x0, x1, rfl, d0, d1⟩ := repVals_Sorts hv'
  have HC0 := Lib.hid (eqStringS_any r0)
  have HC1 := Lib.hid (eqSubS_any r1)
  have G0 := Lib.hid g0
  have G1 := Lib.hid g1
  clear g0 g1 hok
  have E0 := Lib.hid e0
  have D0 := Lib.hid d0
  have E1 := Lib.hid e1
  have D1 := Lib.hid d1
  clear hv hv' e0 d0 e1 d1
  have hbw := ((Below.refl w.heap.size w).alloc (Nat.le_refl _) (.cells #[v0, v1] 40)).alloc (by simp) (.cells #[x0, x1] 40)
  go_enter Tryz.func53, Tryz.ntmps53
  go_wp2_with fail
  refine (HC0.out S S' _ _ _ G0.out (E0.out.below hbw) (D0.out.below hbw)).mono ?_
  rintro e w1 ⟨rfl, hb1⟩
  obtain ⟨hc1, hf1⟩ := bcell hb1
  have hz1 : w.heap.size + 1 < w1.heap.size := (by have := hb1.size; (try simp at this); omega)
  have ha1 : w.heap.size < w1.heap.size := by omega
  replace hbw := hbw.trans (hb1.mono hbw.size)
  go_wp2_with fail
  refine (HC1.out S S' _ _ _ G1.out (E1.out.below hbw) (D1.out.below hbw)).mono ?_
  rintro e w2 ⟨rfl, hb2⟩
  obtain ⟨hc2, hf2⟩ := bcell hb2
  have hz2 : w.heap.size + 1 < w2.heap.size := (by have := hb2.size; (try simp at this); omega)
  have ha2 : w.heap.size < w2.heap.size := by omega
  replace hbw := hbw.trans (hb2.mono hbw.size)
  go_wp2
  go_ret
  exact ⟨rfl, hbw⟩
set_option maxHeartbeats 2000000 in
theorem toSorts_of (row : List C) : toSortsC row := by
  intro S us w hok hv hlen
  obtain ⟨r0, r1, rfl, g0, g1⟩ := okRow_Sorts hok
  obtain ⟨v0, v1, rfl, e0, e1⟩ := repVals_Sorts hv
  have HC0 := Lib.hid (toStringS_any r0)
  have HC1 := Lib.hid (toSubS_any r1)
  have G0 := Lib.hid g0
  have G1 := Lib.hid g1
  clear g0 g1 hok
  have E0 := Lib.hid e0
  have E1 := Lib.hid e1
  clear hv e0 e1
  have hl0 : (r0.length + bulkRows r0) ≤ 1048576 := by
    have e : (r0.length + bulkRows r0) ≤ bulkRow [.sl r0, .sl r1] := by simp only [bulkRow, bulkC]; omega
    exact Nat.le_trans e hlen
  have hl1 : (r1.length + bulkRows r1) ≤ 1048576 := by
    have e : (r1.length + bulkRows r1) ≤ bulkRow [.sl r0, .sl r1] := by simp only [bulkRow, bulkC]; omega
    exact Nat.le_trans e hlen
  clear hlen
  go_enter Tryz.func48, Tryz.ntmps48
  go_wp2_with fail
  refine (HC0.out S _ _ G0.out (by exact E0.out.below (by repeat (first | refine Below.alloc ?_ (by simp; try omega) _ | exact Below.refl _ _))) hl0).mono ?_
  rintro e w1 ⟨y0, rfl, hown0, hb1⟩
  obtain ⟨A0, n0, cap0, rfl, _, _, _⟩ := (Own.rep _ _ _ hown0).form
  have hz1 := hb1.size
  simp at hz1 hown0
  have HOWN0 := Lib.hid hown0
  clear hown0
  have hbw1 : Below w.heap.size w w1 := Below.trans (by repeat (first | refine Below.alloc ?_ (by simp; try omega) _ | exact Below.refl _ _)) (hb1.mono (by simp; try omega))
  obtain ⟨hc1, hf1⟩ := bcell hb1
  have ha1 : w.heap.size < w1.heap.size := by omega
  have hbb1 : w.heap.size + 1 < w1.heap.size := by omega
  have hcc1 : w.heap.size + 1 + 1 < w1.heap.size := by omega
  go_wp2_with fail
  refine (HC1.out S _ _ G1.out (by exact E1.out.below (by repeat (first | refine Below.setCell ?_ (by simp; try omega) _ | exact hbw1))) hl1).mono ?_
  rintro e w2 ⟨y1, rfl, hown1, hb2⟩
  obtain ⟨A1, n1, cap1, rfl, _, _, _⟩ := (Own.rep _ _ _ hown1).form
  have hz2 := hb2.size
  simp at hz2 hown1
  have HOWN1 := Lib.hid hown1
  clear hown1
  have hbw2 : Below w.heap.size w w2 := Below.trans (by repeat (first | refine Below.setCell ?_ (by simp; try omega) _ | exact hbw1)) (hb2.mono (by simp; try omega))
  obtain ⟨hc2, hf2⟩ := bcell hb2
  have ha2 : w.heap.size < w2.heap.size := by omega
  have hbb2 : w.heap.size + 1 < w2.heap.size := by omega
  have hcc2 : w.heap.size + 1 + 1 < w2.heap.size := by omega
  go_wp2
  refine bodyPost_ret (v := .agg #[.slice A0 n0 cap0, .slice A1 n1 cap1]) (by simp [results, Tryz.results48, go_sem, hc1, ha1, hbb1, hcc1, hc2, ha2, hbb2, hcc2]) rfl ⟨[.slice A0 n0 cap0, .slice A1 n1 cap1], rfl, ?_, (by repeat (first | refine Below.setCell ?_ (by simp; try omega) _ | exact hbw2))⟩
  simp
  exact (OwnVals.cons (fun x => w.heap.size + 1 + 1 + 1 ≤ x ∧ x < w1.heap.size) (fun x => w1.heap.size ≤ x ∧ x < w2.heap.size) (HOWN0.out.same (by repeat (first | refine Same.trans ?_ (Same.setCell _ _ _ _ (by simp; try omega)) | refine Same.trans ?_ ((Same.below hb2).mono (fun x hx => by simp at hx ⊢; omega)) | exact Same.refl _ _))) (OwnVals.cons (fun x => w1.heap.size ≤ x ∧ x < w2.heap.size) (fun x => w2.heap.size ≤ x ∧ x < w2.heap.size) (HOWN1.out.same (by repeat (first | refine Same.trans ?_ (Same.setCell _ _ _ _ (by simp; try omega)) | exact Same.refl _ _))) OwnVals.nil (fun x hx => ⟨by omega, by omega⟩) (fun x hx => ⟨by omega, by omega⟩) (fun x hx hy => by omega)) (fun x hx => ⟨by omega, by omega⟩) (fun x hx => ⟨by omega, by omega⟩) (fun x hx hy => by omega))
theorem szSorts_any (row : List C) : szSortsC row := szSorts_of row
theorem eqSorts_any (row : List C) : eqSortsC row := eqSorts_of row
theorem toSorts_any (row : List C) : toSortsC row := toSorts_of row
end Go.Proofs.YtpbikjkjfojjiaaGreat
namespace Go.Proofs.YtpbikjkjfojjiaaGreat
open Go.RowKit
theorem okRow_Int {r : List C} (h : okRow (fieldsOf .int) r) : ∃ x0 : Int, r = [.lit (.int .i64 x0)] ∧ I64 x0 := by
  obtain ⟨c0, rfl⟩ := len1 h.len
  simp only [fieldsOf, okRow, and_true] at h
  have h0 := h
  obtain ⟨x0, rfl, g0⟩ := okC_int h0
  exact ⟨x0, rfl, g0⟩
theorem mkRow_Int {x0 : Int} (g0 : I64 x0) : okRow (fieldsOf .int) [.lit (.int .i64 x0)] := by
  simp only [fieldsOf, okRow, and_true]
  exact mk_int g0
def szIntSC (rows : List (List C)) : Prop := ∀ (S : Nat → Prop) (v : Value) (left : Int) (w : World), okRows (fieldsOf .int) rows → Rep w S (.sl rows) v → 0 ≤ left → left ≤ 1048576 →
  Calls Tryz.prog 114 #[v, .int .i64 left] w fun e w' => e = .returned (.int .i64 (sub left (rows.length + bulkRows rows))) ∧ Below w.heap.size w w'
def eqIntSC (rows : List (List C)) : Prop := ∀ (S S' : Nat → Prop) (v v' : Value) (w : World), okRows (fieldsOf .int) rows → Rep w S (.sl rows) v → Rep w S' (.sl rows) v' →
  Calls Tryz.prog 31 #[v, v'] w fun e w' => e = .returned (.bool true) ∧ Below w.heap.size w w'
def toIntSC (rows : List (List C)) : Prop := ∀ (S : Nat → Prop) (v : Value) (w : World), okRows (fieldsOf .int) rows → Rep w S (.sl rows) v → rows.length + bulkRows rows ≤ 1048576 →
  Calls Tryz.prog 27 #[v] w fun e w' => ∃ v', e = .returned v' ∧ Own w' (.sl rows) (fun x => w.heap.size ≤ x ∧ x < w'.heap.size) v' ∧ Below w.heap.size w w'
theorem bulk_Int : ∀ (rows : List (List C)), okRows (fieldsOf .int) rows → bulkRows rows = 0
  | [], _ => by simp [bulkRows]
  | r :: rs, h => by
    obtain ⟨x0, rfl, _⟩ := okRow_Int h.1
    simp [bulkRows, bulkRow, bulkC, bulk_Int rs h.2]
set_option maxHeartbeats 1000000 in
theorem szIntS_any (rows : List (List C)) : szIntSC rows := by
  intro S v left w hok hv h0 h1
  obtain ⟨A, m, cap, rfl, hm, hmc, hcm⟩ := hv.form
  have hz := bulk_Int rows hok
  rw [hz, hm]
  clear hv hm hok hz
  unfold maxLen at hcm
  by_cases hlt : left - m < 0
  · rw [sub_neg (by omega)]
    go_enter Tryz.func114, Tryz.ntmps114
    go_wp2
    go_ret
    exact ⟨rfl, Below.refl _ _⟩
  · rw [sub_pos (by omega)]
    go_enter Tryz.func114, Tryz.ntmps114
    go_wp2
    go_ret
    exact ⟨ret_int (by omega), Below.refl _ _⟩
set_option maxHeartbeats 1000000 in
theorem eqIntS_any (rows : List (List C)) : eqIntSC rows := by
  intro S S' v v' w hok hv hv'
  obtain ⟨A, m, cap, rfl, hm, hmc, hcm⟩ := hv.form
  obtain ⟨A', m', cap', rfl, hm', hmc', hcm'⟩ := hv'.form
  obtain rfl : m = m' := by omega
  have HV := Lib.hid hv
  have HV' := Lib.hid hv'
  have HM := Lib.hid hm
  have HOK := Lib.hid hok
  clear hv hm hok hm' hv'
  unfold maxLen at hcm hcm'
  go_enter Tryz.func31, Tryz.ntmps31
  go_wp2
  go_loopw [5] (fun i wr => ∃ k : Nat, k ≤ m ∧ i = .int .i64 k ∧ Below w.heap.size w wr) (fun i _ => m - (intOf i).toNat)
  case atStart => exact ⟨0, Nat.zero_le _, rfl, Below.refl _ _⟩
  case round =>
    obtain ⟨k, hk, rfl, hb⟩ := hrel
    by_cases hkm : k < m
    · obtain ⟨b, off, r, rfl, hS, hbz, hget, hokr, hrow⟩ := (HV.out.below hb).get HOK.out hkm
      obtain ⟨b', off', r', rfl, hS', hbz', hget', hokr', hrow'⟩ := (HV'.out.below hb).get HOK.out hkm
      obtain rfl : r = r' := by rw [hget] at hget'; exact Option.some.inj hget'
      obtain ⟨u0, c0, hvals⟩ := hrow.vals1 hokr.len
      obtain ⟨u1, d0, hvals'⟩ := hrow'.vals1 hokr.len
      obtain ⟨x0, rfl, g0⟩ := okRow_Int hokr
      simp only [RepVals, Rep.lit_iff, and_true] at hvals hvals'
      subst hvals
      subst hvals'
      clear hokr hokr' hrow hrow' hget hget' g0
      simp only [fieldsOf, List.length_cons, List.length_nil, Nat.reduceAdd, Nat.mul_one] at c0 d0
      have k0 : (0 : Int) ≤ (k : Int) := by omega
      have k1 : (k : Int) < (m : Int) := by omega
      go_wp2_with fail
      go_quiet (fail)
      go_wp2
      go_roundw
      case rel => exact ⟨k + 1, by omega, by go_num, hb.trans (below_drewN (Below.refl _ _) _)⟩
      case measure => simp [intOf]; omega
    · go_wp2
      go_ret
      exact ⟨rfl, hb⟩
theorem info_Int : (Tryz.prog.info? 3).map (fun i => (i.zero, i.size, i.bytes)) = some (some (.int .i64 0), 1, 8) := by kernel_rfl
set_option maxHeartbeats 1000000 in
theorem toIntS_any (rows : List (List C)) : toIntSC rows := by
  intro S v w hok hv hlen
  obtain ⟨A, m, cap, rfl, hm, hmc, hcm⟩ := hv.form
  obtain ⟨i0, hi, hz0, hz1, hz2⟩ := info_parts info_Int
  have HV := Lib.hid hv
  have HM := Lib.hid hm
  have HOK := Lib.hid hok
  have hml : m ≤ 1048576 := by omega
  clear hv hm hok
  unfold maxLen at hcm
  have hmk := run_make (P := Tryz.prog) w 69 3 i0 _ Tryz.underlying69 hi hz0 .i64 .i64 (m : Int) (m : Int) (by omega) (by omega) (by rw [hz2]; omega) (by omega)
  go_enter Tryz.func27, Tryz.ntmps27
  go_wp2
  clear hmk
  go_loopw [4] (fun i wr => ∃ k : Nat, k ≤ m ∧ i = .int .i64 k ∧ Filling w w.heap.size 3 m 1 rows k wr) (fun i _ => m - (intOf i).toNat)
  case atStart => exact ⟨0, Nat.zero_le _, rfl, Filling.start (by rw [size_madeCells]; omega)⟩
  case round =>
    obtain ⟨k, hk, rfl, hfill⟩ := hrel
    have hb := hfill.1
    by_cases hkm : k < m
    · obtain ⟨b, off, r, rfl, hS, hbz, hget, hokr, hrow⟩ := (HV.out.below hb).get HOK.out hkm
      obtain ⟨u0, c0, hvals⟩ := hrow.vals1 hokr.len
      obtain ⟨x0, rfl, g0⟩ := okRow_Int hokr
      simp only [RepVals, Rep.lit_iff, and_true] at hvals
      subst hvals
      have HGET := Lib.hid hget
      have HF := Lib.hid hfill
      obtain ⟨cur, hcur, hcs⟩ := HF.out.row (Below.refl _ _)
      have HCUR := Lib.hid hcur
      have HCS := Lib.hid hcs
      clear hokr hrow hget hfill g0 hcur hcs
      simp only [fieldsOf, List.length_cons, List.length_nil, Nat.reduceAdd, Nat.mul_one] at c0
      go_wp2_with (refine wpList_store_put rfl 3 _ _ rfl w.heap.size k rfl [.int .i64 x0] rfl i0 hi hz1 3 cur HCUR.out (by have := HCS.out; simp only [List.length_cons, List.length_nil]; omega) (by simp [Value.oneCell']) ?_; intro w3 hput)
      go_roundw
      case rel => exact ⟨k + 1, by omega, by go_num, HF.out.step (fs := fieldsOf .int) HOK.out HGET.out (Below.refl _ _) (OwnVals.lit OwnVals.nil) (by simpa [fieldsOf] using hput)⟩
      case measure => simp [intOf]; omega
    · go_wp2
      go_ret
      have e : k = m := by omega
      subst e
      exact ⟨_, rfl, hfill.done HM.out (by unfold maxLen; omega) (by decide) HOK.out.lens⟩
end Go.Proofs.YtpbikjkjfojjiaaGreat
namespace Go.Proofs.YtpbikjkjfojjiaaGreat
open Go.RowKit
theorem okRow_Decl {r : List C} (h : okRow (fieldsOf .decl) r) : ∃ (r0 : List (List C)) (i1 : Int), r = [.sl r0, .lit (.int .i64 i1)] ∧ okRows (fieldsOf .int) r0 ∧ I64 i1 := by
  obtain ⟨c0, c1, rfl⟩ := len2 h.len
  simp only [fieldsOf, termF, occF, sortsF, sigF, moduleF, algF, List.cons_append, List.nil_append, okRow, and_true] at h
  obtain ⟨h0, h1⟩ := h
  obtain ⟨r0, rfl, g0⟩ := okC_sl h0
  obtain ⟨i1, rfl, g1⟩ := okC_int h1
  exact ⟨r0, i1, rfl, g0, g1⟩
theorem mkRow_Decl {r0 : List (List C)} {i1 : Int} (g0 : okRows (fieldsOf .int) r0) (g1 : I64 i1) : okRow (fieldsOf .decl) [.sl r0, .lit (.int .i64 i1)] := by
  simp only [fieldsOf, termF, occF, sortsF, sigF, moduleF, algF, List.cons_append, List.nil_append, okRow, and_true]
  exact ⟨mk_sl g0, mk_int g1⟩
theorem repVals_Decl {w : World} {S : Nat → Prop} {r0 : List (List C)} {i1 : Int} {us : List Value} (h : RepVals w S [.sl r0, .lit (.int .i64 i1)] us) : ∃ v0, us = [v0, .int .i64 i1] ∧ Rep w S (.sl r0) v0 := by
  obtain ⟨u0, u1, rfl⟩ := len2 h.len
  simp only [RepVals, Rep.lit_iff, and_true] at h
  obtain ⟨e0, rfl⟩ := h
  exact ⟨u0, rfl, e0⟩
def szDeclC (row : List C) : Prop := ∀ (S : Nat → Prop) (us : List Value) (left : Int) (w : World), okRow (fieldsOf .decl) row → RepVals w S row us → 0 ≤ left → left ≤ 1048576 →
  Calls Tryz.prog 161 #[.agg us.toArray, .int .i64 left] w fun e w' => e = .returned (.int .i64 (sub left (bulkRow row))) ∧ Below w.heap.size w w'
def eqDeclC (row : List C) : Prop := ∀ (S S' : Nat → Prop) (us us' : List Value) (w : World), okRow (fieldsOf .decl) row → RepVals w S row us → RepVals w S' row us' →
  Calls Tryz.prog 173 #[.agg us.toArray, .agg us'.toArray] w fun e w' => e = .returned (.bool true) ∧ Below w.heap.size w w'
def toDeclC (row : List C) : Prop := ∀ (S : Nat → Prop) (us : List Value) (w : World), okRow (fieldsOf .decl) row → RepVals w S row us → bulkRow row ≤ 1048576 →
  Calls Tryz.prog 166 #[.agg us.toArray] w fun e w' => ∃ us' : List Value, e = .returned (.agg us'.toArray) ∧ OwnVals w' row (fun x => w.heap.size ≤ x ∧ x < w'.heap.size) us' ∧ Below w.heap.size w w'
def szDeclSC (rows : List (List C)) : Prop := ∀ (S : Nat → Prop) (v : Value) (left : Int) (w : World), okRows (fieldsOf .decl) rows → Rep w S (.sl rows) v → 0 ≤ left → left ≤ 1048576 →
  Calls Tryz.prog 131 #[v, .int .i64 left] w fun e w' => e = .returned (.int .i64 (sub left (rows.length + bulkRows rows))) ∧ Below w.heap.size w w'
def eqDeclSC (rows : List (List C)) : Prop := ∀ (S S' : Nat → Prop) (v v' : Value) (w : World), okRows (fieldsOf .decl) rows → Rep w S (.sl rows) v → Rep w S' (.sl rows) v' →
  Calls Tryz.prog 153 #[v, v'] w fun e w' => e = .returned (.bool true) ∧ Below w.heap.size w w'
def toDeclSC (rows : List (List C)) : Prop := ∀ (S : Nat → Prop) (v : Value) (w : World), okRows (fieldsOf .decl) rows → Rep w S (.sl rows) v → rows.length + bulkRows rows ≤ 1048576 →
  Calls Tryz.prog 142 #[v] w fun e w' => ∃ v', e = .returned v' ∧ Own w' (.sl rows) (fun x => w.heap.size ≤ x ∧ x < w'.heap.size) v' ∧ Below w.heap.size w w'
set_option maxHeartbeats 1000000 in
theorem szDecl_of (row : List C) : szDeclC row := by
  intro S us left w hok hv h0 h1
  obtain ⟨r0, i1, rfl, g0, g1⟩ := okRow_Decl hok
  obtain ⟨v0, rfl, e0⟩ := repVals_Decl hv
  have HC0 := Lib.hid (szIntS_any r0)
  have HB := Lib.hid (show bulkRow [.sl r0, .lit (.int .i64 i1)] = (r0.length + bulkRows r0) from by simp only [bulkRow, bulkC]; omega)
  have G0 := Lib.hid g0
  have G1 := Lib.hid g1
  clear g0 g1 hok
  have E0 := Lib.hid e0
  clear hv e0
  generalize hrow : bulkRow [.sl r0, .lit (.int .i64 i1)] = total at HB ⊢
  clear hrow
  have hbw := (Below.refl w.heap.size w).alloc (Nat.le_refl _) (.cells #[v0, .int .i64 i1] 215)
  go_enter Tryz.func161, Tryz.ntmps161
  go_wp2_with fail
  by_cases q0 : left < ((r0.length + bulkRows r0) : Nat)
  · refine (HC0.out S _ _ _ G0.out (E0.out.below hbw) (by omega) (by omega)).mono ?_
    rw [sub_neg (by omega)]
    rintro e w1 ⟨rfl, hb1⟩
    go_wp2
    go_ret
    exact ⟨ret_int (a := -1) (sub_neg (by have := HB.out; omega)).symm, hbw.trans (hb1.mono hbw.size)⟩
  refine (HC0.out S _ _ _ G0.out (E0.out.below hbw) (by omega) (by omega)).mono ?_
  rw [sub_pos (by omega)]
  rintro e w1 ⟨rfl, hb1⟩
  obtain ⟨hc1, hf1⟩ := bcell hb1
  have hz1 : w.heap.size < w1.heap.size := (by have := hb1.size; (try simp at this); omega)
  replace hbw := hbw.trans (hb1.mono hbw.size)
  go_wp2
  go_ret
  exact ⟨ret_int (by have := HB.out; rw [sub_pos (by omega)]; omega), hbw⟩
set_option maxHeartbeats 1000000 in
theorem eqDecl_of (row : List C) : eqDeclC row := by
  intro S S' us us' w hok hv hv'
  obtain ⟨r0, i1, rfl, g0, g1⟩ := okRow_Decl hok
  obtain ⟨v0, rfl, e0⟩ := repVals_Decl hv
  obtain ⟨x0, rfl, d0⟩ := repVals_Decl hv'
  have HC0 := Lib.hid (eqIntS_any r0)
  have G0 := Lib.hid g0
  have G1 := Lib.hid g1
  clear g0 g1 hok
  have E0 := Lib.hid e0
  have D0 := Lib.hid d0
  clear hv hv' e0 d0
  have hbw := ((Below.refl w.heap.size w).alloc (Nat.le_refl _) (.cells #[v0, .int .i64 i1] 181)).alloc (by simp) (.cells #[x0, .int .i64 i1] 181)
  go_enter Tryz.func173, Tryz.ntmps173
  go_wp2_with fail
  refine (HC0.out S S' _ _ _ G0.out (E0.out.below hbw) (D0.out.below hbw)).mono ?_
  rintro e w1 ⟨rfl, hb1⟩
  obtain ⟨hc1, hf1⟩ := bcell hb1
  have hz1 : w.heap.size + 1 < w1.heap.size := (by have := hb1.size; (try simp at this); omega)
  have ha1 : w.heap.size < w1.heap.size := by omega
  replace hbw := hbw.trans (hb1.mono hbw.size)
  go_wp2
  go_ret
  exact ⟨rfl, hbw⟩
set_option maxHeartbeats 2000000 in
theorem toDecl_of (row : List C) : toDeclC row := by
  intro S us w hok hv hlen
  obtain ⟨r0, i1, rfl, g0, g1⟩ := okRow_Decl hok
  obtain ⟨v0, rfl, e0⟩ := repVals_Decl hv
  have HC0 := Lib.hid (toIntS_any r0)
  have G0 := Lib.hid g0
  have G1 := Lib.hid g1
  clear g0 g1 hok
  have E0 := Lib.hid e0
  clear hv e0
  have hl0 : (r0.length + bulkRows r0) ≤ 1048576 := by
    have e : (r0.length + bulkRows r0) ≤ bulkRow [.sl r0, .lit (.int .i64 i1)] := by simp only [bulkRow, bulkC]; omega
    exact Nat.le_trans e hlen
  clear hlen
  go_enter Tryz.func166, Tryz.ntmps166
  go_wp2_with fail
  refine (HC0.out S _ _ G0.out (by exact E0.out.below (by repeat (first | refine Below.alloc ?_ (by simp; try omega) _ | exact Below.refl _ _))) hl0).mono ?_
  rintro e w1 ⟨y0, rfl, hown0, hb1⟩
  obtain ⟨A0, n0, cap0, rfl, _, _, _⟩ := (Own.rep _ _ _ hown0).form
  have hz1 := hb1.size
  simp at hz1 hown0
  have HOWN0 := Lib.hid hown0
  clear hown0
  have hbw1 : Below w.heap.size w w1 := Below.trans (by repeat (first | refine Below.alloc ?_ (by simp; try omega) _ | exact Below.refl _ _)) (hb1.mono (by simp; try omega))
  obtain ⟨hc1, hf1⟩ := bcell hb1
  have ha1 : w.heap.size < w1.heap.size := by omega
  have hbb1 : w.heap.size + 1 < w1.heap.size := by omega
  have hcc1 : w.heap.size + 1 + 1 < w1.heap.size := by omega
  go_wp2
  refine bodyPost_ret (v := .agg #[.slice A0 n0 cap0, .int .i64 i1]) (by simp [results, Tryz.results166, go_sem, hc1, ha1, hbb1, hcc1]) rfl ⟨[.slice A0 n0 cap0, .int .i64 i1], rfl, ?_, (by repeat (first | refine Below.setCell ?_ (by simp; try omega) _ | exact hbw1))⟩
  simp
  exact (OwnVals.cons (fun x => w.heap.size + 1 + 1 + 1 ≤ x ∧ x < w1.heap.size) (fun x => w1.heap.size ≤ x ∧ x < w1.heap.size) (HOWN0.out.same (by repeat (first | refine Same.trans ?_ (Same.setCell _ _ _ _ (by simp; try omega)) | exact Same.refl _ _))) (OwnVals.lit OwnVals.nil) (fun x hx => ⟨by omega, by omega⟩) (fun x hx => ⟨by omega, by omega⟩) (fun x hx hy => by omega))
theorem szDecl_any (row : List C) : szDeclC row := szDecl_of row
theorem eqDecl_any (row : List C) : eqDeclC row := eqDecl_of row
theorem toDecl_any (row : List C) : toDeclC row := toDecl_of row
set_option maxHeartbeats 1000000 in
theorem szDeclS_of (rows : List (List C)) (h : ∀ (i : Nat) r, rows[i]? = some r → szDeclC r) : szDeclSC rows := by
  intro S v left w hok hv h0 h1
  obtain ⟨A, m, cap, rfl, hm, hmc, hcm⟩ := hv.form
  have H := Lib.hid h
  have HV := Lib.hid hv
  have HM := Lib.hid hm
  have HOK := Lib.hid hok
  clear h hv hm hok
  unfold maxLen at hcm
  by_cases hlt : left - m < 0
  · rw [sub_neg (by have := HM.out; omega)]
    go_enter Tryz.func131, Tryz.ntmps131
    go_wp2
    go_ret
    exact ⟨rfl, Below.refl _ _⟩
  · go_enter Tryz.func131, Tryz.ntmps131
    go_wp2
    go_loopw [1, 5] (fun l i wr => ∃ k : Nat, k ≤ m ∧ i = .int .i64 k ∧ l = .int .i64 (left - m - (bulkRows (rows.take k) : Int)) ∧ 0 ≤ left - m - (bulkRows (rows.take k) : Int) ∧ Below w.heap.size w wr) (fun _ i _ => m - (intOf i).toNat)
    case atStart => exact ⟨0, Nat.zero_le _, rfl, by simp [bulkRows], by simp [bulkRows]; omega, Below.refl _ _⟩
    case round =>
      obtain ⟨k, hk, rfl, rfl, hl0, hb⟩ := hrel
      by_cases hkm : k < m
      · obtain ⟨b, off, r, rfl, hS, hbz, hget, hokr, hrow⟩ := (HV.out.below hb).get HOK.out hkm
        obtain ⟨u0, u1, c0, c1, hvals⟩ := hrow.vals2 hokr.len
        have HT := H.out k r hget
        have HVALS := Lib.hid hvals
        have HOKR := Lib.hid hokr
        have HBT := Lib.hid (bulk_take hget)
        have hle := bulk_take_le rows (k+1)
        clear hvals hokr hrow hget
        simp only [fieldsOf, termF, occF, sortsF, sigF, moduleF, algF, List.cons_append, List.nil_append, List.length_cons, List.length_nil, Nat.reduceAdd, Nat.mul_one] at c0 c1
        by_cases h2 : left - m - (bulkRows (rows.take k) : Int) < bulkRow r
        · go_wp2_with fail
          refine (HT S _ _ _ HOKR.out HVALS.out (by omega) (by omega)).mono ?_
          rw [sub_neg h2]
          rintro e w' ⟨rfl, hb2⟩
          go_wp2
          go_ret
          exact ⟨ret_int (a := -1) (sub_neg (by have := HBT.out; have := HM.out; omega)).symm, hb.trans (hb2.mono hb.size)⟩
        · go_wp2_with fail
          refine (HT S _ _ _ HOKR.out HVALS.out (by omega) (by omega)).mono ?_
          rw [sub_pos (by omega)]
          rintro e w' ⟨rfl, hb2⟩
          go_wp2
          go_roundw
          case rel => exact ⟨k + 1, by omega, by go_num, by have := HBT.out; congr 1; omega, by have := HBT.out; omega, hb.trans (hb2.mono hb.size)⟩
          case measure => simp [intOf]; omega
      · go_wp2
        go_ret
        have e : k = m := by omega
        subst e
        have : rows.take k = rows := List.take_of_length_le (by have := HM.out; omega)
        rw [this] at hl0 ⊢
        exact ⟨ret_int (by have := HM.out; rw [sub_pos (by omega)]; omega), hb⟩
set_option maxHeartbeats 1000000 in
theorem eqDeclS_of (rows : List (List C)) (h : ∀ (i : Nat) r, rows[i]? = some r → eqDeclC r) : eqDeclSC rows := by
  intro S S' v v' w hok hv hv'
  obtain ⟨A, m, cap, rfl, hm, hmc, hcm⟩ := hv.form
  obtain ⟨A', m', cap', rfl, hm', hmc', hcm'⟩ := hv'.form
  obtain rfl : m = m' := by omega
  have H := Lib.hid h
  have HV := Lib.hid hv
  have HV' := Lib.hid hv'
  have HM := Lib.hid hm
  have HOK := Lib.hid hok
  clear h hv hm hok hm' hv'
  unfold maxLen at hcm hcm'
  go_enter Tryz.func153, Tryz.ntmps153
  go_wp2
  go_loopw [5] (fun i wr => ∃ k : Nat, k ≤ m ∧ i = .int .i64 k ∧ Below w.heap.size w wr) (fun i _ => m - (intOf i).toNat)
  case atStart => exact ⟨0, Nat.zero_le _, rfl, Below.refl _ _⟩
  case round =>
    obtain ⟨k, hk, rfl, hb⟩ := hrel
    by_cases hkm : k < m
    · obtain ⟨b, off, r, rfl, hS, hbz, hget, hokr, hrow⟩ := (HV.out.below hb).get HOK.out hkm
      obtain ⟨b', off', r', rfl, hS', hbz', hget', hokr', hrow'⟩ := (HV'.out.below hb).get HOK.out hkm
      obtain rfl : r = r' := by rw [hget] at hget'; exact Option.some.inj hget'
      obtain ⟨u0, u1, c0, c1, hvals⟩ := hrow.vals2 hokr.len
      obtain ⟨x0, x1, d0, d1, hvals'⟩ := hrow'.vals2 hokr.len
      have HT := H.out k r hget
      have HVALS := Lib.hid hvals
      have HVALS' := Lib.hid hvals'
      have HOKR := Lib.hid hokr
      clear hvals hvals' hokr hokr' hrow hrow' hget hget'
      simp only [fieldsOf, termF, occF, sortsF, sigF, moduleF, algF, List.cons_append, List.nil_append, List.length_cons, List.length_nil, Nat.reduceAdd, Nat.mul_one] at c0 c1 d0 d1
      have k0 : (0 : Int) ≤ (k : Int) := by omega
      have k1 : (k : Int) < (m : Int) := by omega
      go_wp2_with fail
      go_region_held3 (fun w' => ∀ b o, b < wr.heap.size → w'.cell? ⟨b, o, none⟩ = wr.cell? ⟨b, o, none⟩) (first | go_keep | exact fun b o h => hb2.cell (p := ⟨b, o, none⟩) h) (first | (go_at_call 173; refine (HT S S' _ _ _ HOKR.out (HVALS.out.below (Below.refl _ _).drew) (HVALS'.out.below (Below.refl _ _).drew)).mono ?_; rintro e w' ⟨rfl, hb2⟩))
      go_wp2
      go_roundw
      case rel => exact ⟨k + 1, by omega, by go_num, hb.trans ((Below.refl _ _).drew.trans (hb2.mono hb.size))⟩
      case measure => simp [intOf]; omega
    · go_wp2
      go_ret
      exact ⟨rfl, hb⟩
theorem info_Decl : (Tryz.prog.info? 181).map (fun i => (i.zero, i.size, i.bytes)) = some (some (.agg #[.slice none 0 0, .int .i64 0]), 2, 32) := by kernel_rfl
set_option maxHeartbeats 1000000 in
theorem toDeclS_of (rows : List (List C)) (h : ∀ (i : Nat) r, rows[i]? = some r → toDeclC r) : toDeclSC rows := by
  intro S v w hok hv hlen
  obtain ⟨A, m, cap, rfl, hm, hmc, hcm⟩ := hv.form
  obtain ⟨i0, hi, hz0, hz1, hz2⟩ := info_parts info_Decl
  have H := Lib.hid h
  have HV := Lib.hid hv
  have HM := Lib.hid hm
  have HOK := Lib.hid hok
  have hml : m ≤ 1048576 := by omega
  clear h hv hm hok
  unfold maxLen at hcm
  have hmk := run_make (P := Tryz.prog) w 151 181 i0 _ Tryz.underlying151 hi hz0 .i64 .i64 (m : Int) (m : Int) (by omega) (by omega) (by rw [hz2]; omega) (by omega)
  go_enter Tryz.func142, Tryz.ntmps142
  go_wp2
  clear hmk
  go_loopw [4] (fun i wr => ∃ k : Nat, k ≤ m ∧ i = .int .i64 k ∧ Filling w w.heap.size 181 m 2 rows k wr) (fun i _ => m - (intOf i).toNat)
  case atStart => exact ⟨0, Nat.zero_le _, rfl, Filling.start (size_madeCells _ _)⟩
  case round =>
    obtain ⟨k, hk, rfl, hfill⟩ := hrel
    have hb := hfill.1
    by_cases hkm : k < m
    · obtain ⟨b, off, r, rfl, hS, hbz, hget, hokr, hrow⟩ := (HV.out.below hb).get HOK.out hkm
      obtain ⟨u0, u1, c0, c1, hvals⟩ := hrow.vals2 hokr.len
      have HT := H.out k r hget
      have HVALS := Lib.hid hvals
      have HOKR := Lib.hid hokr
      have HGET := Lib.hid hget
      have HF := Lib.hid hfill
      have hbg := bulk_get hget
      clear hvals hokr hrow hget hfill
      simp only [fieldsOf, termF, occF, sortsF, sigF, moduleF, algF, List.cons_append, List.nil_append, List.length_cons, List.length_nil, Nat.reduceAdd, Nat.mul_one] at c0 c1
      go_wp2_with fail
      refine (HT S _ _ HOKR.out HVALS.out (by omega)).mono ?_
      rintro e w2 ⟨us, rfl, hown, hb2⟩
      have hone := HOKR.out.one (OwnVals.rep _ _ (fun _ => True) _ (fun _ _ => trivial) hown)
      obtain ⟨y0, y1, rfl⟩ := len2 (hown.len.trans HOKR.out.len)
      have HOWN := Lib.hid hown
      have HONE := Lib.hid hone
      obtain ⟨cur, hcur, hcs⟩ := HF.out.row hb2
      have HCUR := Lib.hid hcur
      have HCS := Lib.hid hcs
      clear hown hone hcur hcs
      go_wp2_with (refine wpList_store_put rfl 181 _ _ rfl w.heap.size (k * 2) rfl [y0, y1] rfl i0 hi hz1 181 cur HCUR.out (by have := HCS.out; simp only [List.length_cons, List.length_nil]; omega) HONE.out ?_; intro w3 hput)
      go_roundw
      case rel => exact ⟨k + 1, by omega, by go_num, HF.out.step (fs := fieldsOf .decl) HOK.out HGET.out hb2 HOWN.out hput⟩
      case measure => simp [intOf]; omega
    · go_wp2
      go_ret
      have e : k = m := by omega
      subst e
      exact ⟨_, rfl, hfill.done HM.out (by unfold maxLen; omega) (by decide) HOK.out.lens⟩
theorem szDeclS_any (rows : List (List C)) : szDeclSC rows := szDeclS_of rows (fun _ r _ => szDecl_any r)
theorem eqDeclS_any (rows : List (List C)) : eqDeclSC rows := eqDeclS_of rows (fun _ r _ => eqDecl_any r)
theorem toDeclS_any (rows : List (List C)) : toDeclSC rows := toDeclS_of rows (fun _ r _ => toDecl_any r)
end Go.Proofs.YtpbikjkjfojjiaaGreat
namespace Go.Proofs.YtpbikjkjfojjiaaGreat
open Go.RowKit
theorem okRow_Op {r : List C} (h : okRow (fieldsOf .op) r) : ∃ (t0 : ByteArray) (r1 : List (List C)) (p2 : Bool) (p3 : Bool) (i4 : Int), r = [.lit (.string t0), .sl r1, .lit (.bool p2), .lit (.bool p3), .lit (.int .i64 i4)] ∧ t0.size ≤ maxLen ∧ okRows (fieldsOf .decl) r1 ∧ True ∧ True ∧ I64 i4 := by
  obtain ⟨c0, c1, c2, c3, c4, rfl⟩ := len5 h.len
  simp only [fieldsOf, termF, occF, sortsF, sigF, moduleF, algF, List.cons_append, List.nil_append, okRow, and_true] at h
  obtain ⟨h0, h1, h2, h3, h4⟩ := h
  obtain ⟨t0, rfl, g0⟩ := okC_str h0
  obtain ⟨r1, rfl, g1⟩ := okC_sl h1
  obtain ⟨p2, rfl⟩ := okC_bool h2
  obtain ⟨p3, rfl⟩ := okC_bool h3
  obtain ⟨i4, rfl, g4⟩ := okC_int h4
  exact ⟨t0, r1, p2, p3, i4, rfl, g0, g1, trivial, trivial, g4⟩
theorem mkRow_Op {t0 : ByteArray} {r1 : List (List C)} {p2 : Bool} {p3 : Bool} {i4 : Int} (g0 : t0.size ≤ maxLen) (g1 : okRows (fieldsOf .decl) r1) (g2 : True) (g3 : True) (g4 : I64 i4) : okRow (fieldsOf .op) [.lit (.string t0), .sl r1, .lit (.bool p2), .lit (.bool p3), .lit (.int .i64 i4)] := by
  simp only [fieldsOf, termF, occF, sortsF, sigF, moduleF, algF, List.cons_append, List.nil_append, okRow, and_true]
  exact ⟨mk_str g0, mk_sl g1, mk_bool, mk_bool, mk_int g4⟩
theorem repVals_Op {w : World} {S : Nat → Prop} {t0 : ByteArray} {r1 : List (List C)} {p2 : Bool} {p3 : Bool} {i4 : Int} {us : List Value} (h : RepVals w S [.lit (.string t0), .sl r1, .lit (.bool p2), .lit (.bool p3), .lit (.int .i64 i4)] us) : ∃ v1, us = [.string t0, v1, .bool p2, .bool p3, .int .i64 i4] ∧ Rep w S (.sl r1) v1 := by
  obtain ⟨u0, u1, u2, u3, u4, rfl⟩ := len5 h.len
  simp only [RepVals, Rep.lit_iff, and_true] at h
  obtain ⟨rfl, e1, rfl, rfl, rfl⟩ := h
  exact ⟨u1, rfl, e1⟩
def szOpC (row : List C) : Prop := ∀ (S : Nat → Prop) (us : List Value) (left : Int) (w : World), okRow (fieldsOf .op) row → RepVals w S row us → 0 ≤ left → left ≤ 1048576 →
  Calls Tryz.prog 90 #[.agg us.toArray, .int .i64 left] w fun e w' => e = .returned (.int .i64 (sub left (bulkRow row))) ∧ Below w.heap.size w w'
def eqOpC (row : List C) : Prop := ∀ (S S' : Nat → Prop) (us us' : List Value) (w : World), okRow (fieldsOf .op) row → RepVals w S row us → RepVals w S' row us' →
  Calls Tryz.prog 111 #[.agg us.toArray, .agg us'.toArray] w fun e w' => e = .returned (.bool true) ∧ Below w.heap.size w w'
def toOpC (row : List C) : Prop := ∀ (S : Nat → Prop) (us : List Value) (w : World), okRow (fieldsOf .op) row → RepVals w S row us → bulkRow row ≤ 1048576 →
  Calls Tryz.prog 103 #[.agg us.toArray] w fun e w' => ∃ us' : List Value, e = .returned (.agg us'.toArray) ∧ OwnVals w' row (fun x => w.heap.size ≤ x ∧ x < w'.heap.size) us' ∧ Below w.heap.size w w'
def szOpSC (rows : List (List C)) : Prop := ∀ (S : Nat → Prop) (v : Value) (left : Int) (w : World), okRows (fieldsOf .op) rows → Rep w S (.sl rows) v → 0 ≤ left → left ≤ 1048576 →
  Calls Tryz.prog 42 #[v, .int .i64 left] w fun e w' => e = .returned (.int .i64 (sub left (rows.length + bulkRows rows))) ∧ Below w.heap.size w w'
def eqOpSC (rows : List (List C)) : Prop := ∀ (S S' : Nat → Prop) (v v' : Value) (w : World), okRows (fieldsOf .op) rows → Rep w S (.sl rows) v → Rep w S' (.sl rows) v' →
  Calls Tryz.prog 54 #[v, v'] w fun e w' => e = .returned (.bool true) ∧ Below w.heap.size w w'
def toOpSC (rows : List (List C)) : Prop := ∀ (S : Nat → Prop) (v : Value) (w : World), okRows (fieldsOf .op) rows → Rep w S (.sl rows) v → rows.length + bulkRows rows ≤ 1048576 →
  Calls Tryz.prog 49 #[v] w fun e w' => ∃ v', e = .returned v' ∧ Own w' (.sl rows) (fun x => w.heap.size ≤ x ∧ x < w'.heap.size) v' ∧ Below w.heap.size w w'
set_option maxHeartbeats 1000000 in
theorem szOp_of (row : List C) : szOpC row := by
  intro S us left w hok hv h0 h1
  obtain ⟨t0, r1, p2, p3, i4, rfl, g0, g1, _, _, g4⟩ := okRow_Op hok
  obtain ⟨v1, rfl, e1⟩ := repVals_Op hv
  have HC1 := Lib.hid (szDeclS_any r1)
  have HB := Lib.hid (show bulkRow [.lit (.string t0), .sl r1, .lit (.bool p2), .lit (.bool p3), .lit (.int .i64 i4)] = t0.size + (r1.length + bulkRows r1) from by simp only [bulkRow, bulkC]; omega)
  have hs0 := g0
  unfold maxLen at hs0
  have G0 := Lib.hid g0
  have G1 := Lib.hid g1
  have G4 := Lib.hid g4
  clear g0 g1 g4 hok
  have E1 := Lib.hid e1
  clear hv e1
  generalize hrow : bulkRow [.lit (.string t0), .sl r1, .lit (.bool p2), .lit (.bool p3), .lit (.int .i64 i4)] = total at HB ⊢
  clear hrow
  have hbw := (Below.refl w.heap.size w).alloc (Nat.le_refl _) (.cells #[.string t0, v1, .bool p2, .bool p3, .int .i64 i4] 145)
  by_cases q0 : left - (t0.size : Int) < 0
  · go_enter Tryz.func90, Tryz.ntmps90
    go_wp2
    go_ret
    exact ⟨ret_int (a := -1) (sub_neg (by have := HB.out; omega)).symm, hbw⟩
  go_enter Tryz.func90, Tryz.ntmps90
  go_wp2_with fail
  by_cases q1 : (left - (t0.size : Int)) < ((r1.length + bulkRows r1) : Nat)
  · refine (HC1.out S _ _ _ G1.out (E1.out.below hbw) (by omega) (by omega)).mono ?_
    rw [sub_neg (by omega)]
    rintro e w1 ⟨rfl, hb1⟩
    go_wp2
    go_ret
    exact ⟨ret_int (a := -1) (sub_neg (by have := HB.out; omega)).symm, hbw.trans (hb1.mono hbw.size)⟩
  refine (HC1.out S _ _ _ G1.out (E1.out.below hbw) (by omega) (by omega)).mono ?_
  rw [sub_pos (by omega)]
  rintro e w1 ⟨rfl, hb1⟩
  obtain ⟨hc1, hf1⟩ := bcell hb1
  have hz1 : w.heap.size < w1.heap.size := (by have := hb1.size; (try simp at this); omega)
  replace hbw := hbw.trans (hb1.mono hbw.size)
  go_wp2
  go_ret
  exact ⟨ret_int (by have := HB.out; rw [sub_pos (by omega)]; omega), hbw⟩
set_option maxHeartbeats 1000000 in
theorem eqOp_of (row : List C) : eqOpC row := by
  intro S S' us us' w hok hv hv'
  obtain ⟨t0, r1, p2, p3, i4, rfl, g0, g1, _, _, g4⟩ := okRow_Op hok
  obtain ⟨v1, rfl, e1⟩ := repVals_Op hv
  obtain ⟨x1, rfl, d1⟩ := repVals_Op hv'
  have HC1 := Lib.hid (eqDeclS_any r1)
  have G0 := Lib.hid g0
  have G1 := Lib.hid g1
  have G4 := Lib.hid g4
  clear g0 g1 g4 hok
  have E1 := Lib.hid e1
  have D1 := Lib.hid d1
  clear hv hv' e1 d1
  have hbw := ((Below.refl w.heap.size w).alloc (Nat.le_refl _) (.cells #[.string t0, v1, .bool p2, .bool p3, .int .i64 i4] 153)).alloc (by simp) (.cells #[.string t0, x1, .bool p2, .bool p3, .int .i64 i4] 153)
  go_enter Tryz.func111, Tryz.ntmps111
  go_wp2_with fail
  refine (HC1.out S S' _ _ _ G1.out (E1.out.below hbw) (D1.out.below hbw)).mono ?_
  rintro e w1 ⟨rfl, hb1⟩
  obtain ⟨hc1, hf1⟩ := bcell hb1
  have hz1 : w.heap.size + 1 < w1.heap.size := (by have := hb1.size; (try simp at this); omega)
  have ha1 : w.heap.size < w1.heap.size := by omega
  replace hbw := hbw.trans (hb1.mono hbw.size)
  go_wp2
  go_ret
  exact ⟨rfl, hbw⟩
set_option maxHeartbeats 2000000 in
theorem toOp_of (row : List C) : toOpC row := by
  intro S us w hok hv hlen
  obtain ⟨t0, r1, p2, p3, i4, rfl, g0, g1, _, _, g4⟩ := okRow_Op hok
  obtain ⟨v1, rfl, e1⟩ := repVals_Op hv
  have HC1 := Lib.hid (toDeclS_any r1)
  have G0 := Lib.hid g0
  have G1 := Lib.hid g1
  have G4 := Lib.hid g4
  clear g0 g1 g4 hok
  have E1 := Lib.hid e1
  clear hv e1
  have hl1 : (r1.length + bulkRows r1) ≤ 1048576 := by
    have e : (r1.length + bulkRows r1) ≤ bulkRow [.lit (.string t0), .sl r1, .lit (.bool p2), .lit (.bool p3), .lit (.int .i64 i4)] := by simp only [bulkRow, bulkC]; omega
    exact Nat.le_trans e hlen
  clear hlen
  go_enter Tryz.func103, Tryz.ntmps103
  go_wp2_with fail
  refine (HC1.out S _ _ G1.out (by exact E1.out.below (by repeat (first | refine Below.alloc ?_ (by simp; try omega) _ | exact Below.refl _ _))) hl1).mono ?_
  rintro e w1 ⟨y1, rfl, hown1, hb1⟩
  obtain ⟨A1, n1, cap1, rfl, _, _, _⟩ := (Own.rep _ _ _ hown1).form
  have hz1 := hb1.size
  simp at hz1 hown1
  have HOWN1 := Lib.hid hown1
  clear hown1
  have hbw1 : Below w.heap.size w w1 := Below.trans (by repeat (first | refine Below.alloc ?_ (by simp; try omega) _ | exact Below.refl _ _)) (hb1.mono (by simp; try omega))
  obtain ⟨hc1, hf1⟩ := bcell hb1
  have ha1 : w.heap.size < w1.heap.size := by omega
  have hbb1 : w.heap.size + 1 < w1.heap.size := by omega
  have hcc1 : w.heap.size + 1 + 1 < w1.heap.size := by omega
  go_wp2
  refine bodyPost_ret (v := .agg #[.string t0, .slice A1 n1 cap1, .bool p2, .bool p3, .int .i64 i4]) (by simp [results, Tryz.results103, go_sem, hc1, ha1, hbb1, hcc1]) rfl ⟨[.string t0, .slice A1 n1 cap1, .bool p2, .bool p3, .int .i64 i4], rfl, ?_, (by repeat (first | refine Below.setCell ?_ (by simp; try omega) _ | exact hbw1))⟩
  simp
  exact (OwnVals.lit (OwnVals.cons (fun x => w.heap.size + 1 + 1 + 1 ≤ x ∧ x < w1.heap.size) (fun x => w1.heap.size ≤ x ∧ x < w1.heap.size) (HOWN1.out.same (by repeat (first | refine Same.trans ?_ (Same.setCell _ _ _ _ (by simp; try omega)) | exact Same.refl _ _))) (OwnVals.lit (OwnVals.lit (OwnVals.lit OwnVals.nil))) (fun x hx => ⟨by omega, by omega⟩) (fun x hx => ⟨by omega, by omega⟩) (fun x hx hy => by omega)))
theorem szOp_any (row : List C) : szOpC row := szOp_of row
theorem eqOp_any (row : List C) : eqOpC row := eqOp_of row
theorem toOp_any (row : List C) : toOpC row := toOp_of row
set_option maxHeartbeats 1000000 in
theorem szOpS_of (rows : List (List C)) (h : ∀ (i : Nat) r, rows[i]? = some r → szOpC r) : szOpSC rows := by
  intro S v left w hok hv h0 h1
  obtain ⟨A, m, cap, rfl, hm, hmc, hcm⟩ := hv.form
  have H := Lib.hid h
  have HV := Lib.hid hv
  have HM := Lib.hid hm
  have HOK := Lib.hid hok
  clear h hv hm hok
  unfold maxLen at hcm
  by_cases hlt : left - m < 0
  · rw [sub_neg (by have := HM.out; omega)]
    go_enter Tryz.func42, Tryz.ntmps42
    go_wp2
    go_ret
    exact ⟨rfl, Below.refl _ _⟩
  · go_enter Tryz.func42, Tryz.ntmps42
    go_wp2
    go_loopw [1, 5] (fun l i wr => ∃ k : Nat, k ≤ m ∧ i = .int .i64 k ∧ l = .int .i64 (left - m - (bulkRows (rows.take k) : Int)) ∧ 0 ≤ left - m - (bulkRows (rows.take k) : Int) ∧ Below w.heap.size w wr) (fun _ i _ => m - (intOf i).toNat)
    case atStart => exact ⟨0, Nat.zero_le _, rfl, by simp [bulkRows], by simp [bulkRows]; omega, Below.refl _ _⟩
    case round =>
      obtain ⟨k, hk, rfl, rfl, hl0, hb⟩ := hrel
      by_cases hkm : k < m
      · obtain ⟨b, off, r, rfl, hS, hbz, hget, hokr, hrow⟩ := (HV.out.below hb).get HOK.out hkm
        obtain ⟨u0, u1, u2, u3, u4, c0, c1, c2, c3, c4, hvals⟩ := hrow.vals5 hokr.len
        have HT := H.out k r hget
        have HVALS := Lib.hid hvals
        have HOKR := Lib.hid hokr
        have HBT := Lib.hid (bulk_take hget)
        have hle := bulk_take_le rows (k+1)
        clear hvals hokr hrow hget
        simp only [fieldsOf, termF, occF, sortsF, sigF, moduleF, algF, List.cons_append, List.nil_append, List.length_cons, List.length_nil, Nat.reduceAdd, Nat.mul_one] at c0 c1 c2 c3 c4
        by_cases h2 : left - m - (bulkRows (rows.take k) : Int) < bulkRow r
        · go_wp2_with fail
          refine (HT S _ _ _ HOKR.out HVALS.out (by omega) (by omega)).mono ?_
          rw [sub_neg h2]
          rintro e w' ⟨rfl, hb2⟩
          go_wp2
          go_ret
          exact ⟨ret_int (a := -1) (sub_neg (by have := HBT.out; have := HM.out; omega)).symm, hb.trans (hb2.mono hb.size)⟩
        · go_wp2_with fail
          refine (HT S _ _ _ HOKR.out HVALS.out (by omega) (by omega)).mono ?_
          rw [sub_pos (by omega)]
          rintro e w' ⟨rfl, hb2⟩
          go_wp2
          go_roundw
          case rel => exact ⟨k + 1, by omega, by go_num, by have := HBT.out; congr 1; omega, by have := HBT.out; omega, hb.trans (hb2.mono hb.size)⟩
          case measure => simp [intOf]; omega
      · go_wp2
        go_ret
        have e : k = m := by omega
        subst e
        have : rows.take k = rows := List.take_of_length_le (by have := HM.out; omega)
        rw [this] at hl0 ⊢
        exact ⟨ret_int (by have := HM.out; rw [sub_pos (by omega)]; omega), hb⟩
set_option maxHeartbeats 1000000 in
theorem eqOpS_of (rows : List (List C)) (h : ∀ (i : Nat) r, rows[i]? = some r → eqOpC r) : eqOpSC rows := by
  intro S S' v v' w hok hv hv'
  obtain ⟨A, m, cap, rfl, hm, hmc, hcm⟩ := hv.form
  obtain ⟨A', m', cap', rfl, hm', hmc', hcm'⟩ := hv'.form
  obtain rfl : m = m' := by omega
  have H := Lib.hid h
  have HV := Lib.hid hv
  have HV' := Lib.hid hv'
  have HM := Lib.hid hm
  have HOK := Lib.hid hok
  clear h hv hm hok hm' hv'
  unfold maxLen at hcm hcm'
  go_enter Tryz.func54, Tryz.ntmps54
  go_wp2
  go_loopw [5] (fun i wr => ∃ k : Nat, k ≤ m ∧ i = .int .i64 k ∧ Below w.heap.size w wr) (fun i _ => m - (intOf i).toNat)
  case atStart => exact ⟨0, Nat.zero_le _, rfl, Below.refl _ _⟩
  case round =>
    obtain ⟨k, hk, rfl, hb⟩ := hrel
    by_cases hkm : k < m
    · obtain ⟨b, off, r, rfl, hS, hbz, hget, hokr, hrow⟩ := (HV.out.below hb).get HOK.out hkm
      obtain ⟨b', off', r', rfl, hS', hbz', hget', hokr', hrow'⟩ := (HV'.out.below hb).get HOK.out hkm
      obtain rfl : r = r' := by rw [hget] at hget'; exact Option.some.inj hget'
      obtain ⟨u0, u1, u2, u3, u4, c0, c1, c2, c3, c4, hvals⟩ := hrow.vals5 hokr.len
      obtain ⟨x0, x1, x2, x3, x4, d0, d1, d2, d3, d4, hvals'⟩ := hrow'.vals5 hokr.len
      have HT := H.out k r hget
      have HVALS := Lib.hid hvals
      have HVALS' := Lib.hid hvals'
      have HOKR := Lib.hid hokr
      clear hvals hvals' hokr hokr' hrow hrow' hget hget'
      simp only [fieldsOf, termF, occF, sortsF, sigF, moduleF, algF, List.cons_append, List.nil_append, List.length_cons, List.length_nil, Nat.reduceAdd, Nat.mul_one] at c0 c1 c2 c3 c4 d0 d1 d2 d3 d4
      have k0 : (0 : Int) ≤ (k : Int) := by omega
      have k1 : (k : Int) < (m : Int) := by omega
      go_wp2_with fail
      go_region_held3 (fun w' => ∀ b o, b < wr.heap.size → w'.cell? ⟨b, o, none⟩ = wr.cell? ⟨b, o, none⟩) (first | go_keep | exact fun b o h => hb2.cell (p := ⟨b, o, none⟩) h) (first | (go_at_call 111; refine (HT S S' _ _ _ HOKR.out (HVALS.out.below (Below.refl _ _).drew) (HVALS'.out.below (Below.refl _ _).drew)).mono ?_; rintro e w' ⟨rfl, hb2⟩))
      go_wp2
      go_roundw
      case rel => exact ⟨k + 1, by omega, by go_num, hb.trans ((Below.refl _ _).drew.trans (hb2.mono hb.size))⟩
      case measure => simp [intOf]; omega
    · go_wp2
      go_ret
      exact ⟨rfl, hb⟩
theorem info_Op : (Tryz.prog.info? 153).map (fun i => (i.zero, i.size, i.bytes)) = some (some (.agg #[.string .empty, .slice none 0 0, .bool false, .bool false, .int .i64 0]), 5, 56) := by kernel_rfl
set_option maxHeartbeats 1000000 in
theorem toOpS_of (rows : List (List C)) (h : ∀ (i : Nat) r, rows[i]? = some r → toOpC r) : toOpSC rows := by
  intro S v w hok hv hlen
  obtain ⟨A, m, cap, rfl, hm, hmc, hcm⟩ := hv.form
  obtain ⟨i0, hi, hz0, hz1, hz2⟩ := info_parts info_Op
  have H := Lib.hid h
  have HV := Lib.hid hv
  have HM := Lib.hid hm
  have HOK := Lib.hid hok
  have hml : m ≤ 1048576 := by omega
  clear h hv hm hok
  unfold maxLen at hcm
  have hmk := run_make (P := Tryz.prog) w 41 153 i0 _ Tryz.underlying41 hi hz0 .i64 .i64 (m : Int) (m : Int) (by omega) (by omega) (by rw [hz2]; omega) (by omega)
  go_enter Tryz.func49, Tryz.ntmps49
  go_wp2
  clear hmk
  go_loopw [4] (fun i wr => ∃ k : Nat, k ≤ m ∧ i = .int .i64 k ∧ Filling w w.heap.size 153 m 5 rows k wr) (fun i _ => m - (intOf i).toNat)
  case atStart => exact ⟨0, Nat.zero_le _, rfl, Filling.start (size_madeCells _ _)⟩
  case round =>
    obtain ⟨k, hk, rfl, hfill⟩ := hrel
    have hb := hfill.1
    by_cases hkm : k < m
    · obtain ⟨b, off, r, rfl, hS, hbz, hget, hokr, hrow⟩ := (HV.out.below hb).get HOK.out hkm
      obtain ⟨u0, u1, u2, u3, u4, c0, c1, c2, c3, c4, hvals⟩ := hrow.vals5 hokr.len
      have HT := H.out k r hget
      have HVALS := Lib.hid hvals
      have HOKR := Lib.hid hokr
      have HGET := Lib.hid hget
      have HF := Lib.hid hfill
      have hbg := bulk_get hget
      clear hvals hokr hrow hget hfill
      simp only [fieldsOf, termF, occF, sortsF, sigF, moduleF, algF, List.cons_append, List.nil_append, List.length_cons, List.length_nil, Nat.reduceAdd, Nat.mul_one] at c0 c1 c2 c3 c4
      go_wp2_with fail
      refine (HT S _ _ HOKR.out HVALS.out (by omega)).mono ?_
      rintro e w2 ⟨us, rfl, hown, hb2⟩
      have hone := HOKR.out.one (OwnVals.rep _ _ (fun _ => True) _ (fun _ _ => trivial) hown)
      obtain ⟨y0, y1, y2, y3, y4, rfl⟩ := len5 (hown.len.trans HOKR.out.len)
      have HOWN := Lib.hid hown
      have HONE := Lib.hid hone
      obtain ⟨cur, hcur, hcs⟩ := HF.out.row hb2
      have HCUR := Lib.hid hcur
      have HCS := Lib.hid hcs
      clear hown hone hcur hcs
      go_wp2_with (refine wpList_store_put rfl 153 _ _ rfl w.heap.size (k * 5) rfl [y0, y1, y2, y3, y4] rfl i0 hi hz1 153 cur HCUR.out (by have := HCS.out; simp only [List.length_cons, List.length_nil]; omega) HONE.out ?_; intro w3 hput)
      go_roundw
      case rel => exact ⟨k + 1, by omega, by go_num, HF.out.step (fs := fieldsOf .op) HOK.out HGET.out hb2 HOWN.out hput⟩
      case measure => simp [intOf]; omega
    · go_wp2
      go_ret
      have e : k = m := by omega
      subst e
      exact ⟨_, rfl, hfill.done HM.out (by unfold maxLen; omega) (by decide) HOK.out.lens⟩
theorem szOpS_any (rows : List (List C)) : szOpSC rows := szOpS_of rows (fun _ r _ => szOp_any r)
theorem eqOpS_any (rows : List (List C)) : eqOpSC rows := eqOpS_of rows (fun _ r _ => eqOp_any r)
theorem toOpS_any (rows : List (List C)) : toOpSC rows := toOpS_of rows (fun _ r _ => toOp_any r)
end Go.Proofs.YtpbikjkjfojjiaaGreat
namespace Go.Proofs.YtpbikjkjfojjiaaGreat
open Go.RowKit
theorem okRow_Signature {r : List C} (h : okRow (sigF) r) : ∃ (r0 : List (List C)) (r1 : List (List C)) (r2 : List (List C)), r = [.sl r0, .sl r1, .sl r2] ∧ okRows (fieldsOf .str) r0 ∧ okRows (fieldsOf .sub) r1 ∧ okRows (fieldsOf .op) r2 := by
  obtain ⟨c0, c1, c2, rfl⟩ := len3 h.len
  simp only [fieldsOf, termF, occF, sortsF, sigF, moduleF, algF, List.cons_append, List.nil_append, okRow, and_true] at h
  obtain ⟨h0, h1, h2⟩ := h
  obtain ⟨r0, rfl, g0⟩ := okC_sl h0
  obtain ⟨r1, rfl, g1⟩ := okC_sl h1
  obtain ⟨r2, rfl, g2⟩ := okC_sl h2
  exact ⟨r0, r1, r2, rfl, g0, g1, g2⟩
theorem mkRow_Signature {r0 : List (List C)} {r1 : List (List C)} {r2 : List (List C)} (g0 : okRows (fieldsOf .str) r0) (g1 : okRows (fieldsOf .sub) r1) (g2 : okRows (fieldsOf .op) r2) : okRow (sigF) [.sl r0, .sl r1, .sl r2] := by
  simp only [fieldsOf, termF, occF, sortsF, sigF, moduleF, algF, List.cons_append, List.nil_append, okRow, and_true]
  exact ⟨mk_sl g0, mk_sl g1, mk_sl g2⟩
theorem repVals_Signature {w : World} {S : Nat → Prop} {r0 : List (List C)} {r1 : List (List C)} {r2 : List (List C)} {us : List Value} (h : RepVals w S [.sl r0, .sl r1, .sl r2] us) : ∃ v0 v1 v2, us = [v0, v1, v2] ∧ Rep w S (.sl r0) v0 ∧ Rep w S (.sl r1) v1 ∧ Rep w S (.sl r2) v2 := by
  obtain ⟨u0, u1, u2, rfl⟩ := len3 h.len
  simp only [RepVals, Rep.lit_iff, and_true] at h
  obtain ⟨e0, e1, e2⟩ := h
  exact ⟨u0, u1, u2, rfl, e0, e1, e2⟩
theorem mkVals_Signature {w : World} {S : Nat → Prop} {r0 : List (List C)} {r1 : List (List C)} {r2 : List (List C)} {v0 : Value} {v1 : Value} {v2 : Value} (e0 : Rep w S (.sl r0) v0) (e1 : Rep w S (.sl r1) v1) (e2 : Rep w S (.sl r2) v2) : RepVals w S [.sl r0, .sl r1, .sl r2] [v0, v1, v2] := by
  simp only [RepVals, Rep.lit_iff, and_true, true_and]
  exact ⟨e0, e1, e2⟩
def szSignatureC (row : List C) : Prop := ∀ (S : Nat → Prop) (us : List Value) (left : Int) (w : World), okRow (sigF) row → RepVals w S row us → 0 ≤ left → left ≤ 1048576 →
  Calls Tryz.prog 9 #[.agg us.toArray, .int .i64 left] w fun e w' => e = .returned (.int .i64 (sub left (bulkRow row))) ∧ Below w.heap.size w w'
def eqSignatureC (row : List C) : Prop := ∀ (S S' : Nat → Prop) (us us' : List Value) (w : World), okRow (sigF) row → RepVals w S row us → RepVals w S' row us' →
  Calls Tryz.prog 15 #[.agg us.toArray, .agg us'.toArray] w fun e w' => e = .returned (.bool true) ∧ Below w.heap.size w w'
def toSignatureC (row : List C) : Prop := ∀ (S : Nat → Prop) (us : List Value) (w : World), okRow (sigF) row → RepVals w S row us → bulkRow row ≤ 1048576 →
  Calls Tryz.prog 12 #[.agg us.toArray] w fun e w' => ∃ us' : List Value, e = .returned (.agg us'.toArray) ∧ OwnVals w' row (fun x => w.heap.size ≤ x ∧ x < w'.heap.size) us' ∧ Below w.heap.size w w'
set_option maxHeartbeats 1000000 in
theorem szSignature_of (row : List C) : szSignatureC row := by
  intro S us left w hok hv h0 h1
  obtain ⟨r0, r1, r2, rfl, g0, g1, g2⟩ := okRow_Signature hok
  obtain ⟨v0, v1, v2, rfl, e0, e1, e2⟩ := repVals_Signature hv
  have HC0 := Lib.hid (szSorts_any [.sl r0, .sl r1])
  have HC2 := Lib.hid (szOpS_any r2)
  have HB := Lib.hid (show bulkRow [.sl r0, .sl r1, .sl r2] = (bulkRow [.sl r0, .sl r1]) + (r2.length + bulkRows r2) from by simp only [bulkRow, bulkC]; omega)
  have G0 := Lib.hid g0
  have G1 := Lib.hid g1
  have G2 := Lib.hid g2
  clear g0 g1 g2 hok
  have E0 := Lib.hid e0
  have E1 := Lib.hid e1
  have E2 := Lib.hid e2
  clear hv e0 e1 e2
  generalize hrow : bulkRow [.sl r0, .sl r1, .sl r2] = total at HB ⊢
  clear hrow
  have hbw := (Below.refl w.heap.size w).alloc (Nat.le_refl _) (.cells #[v0, v1, v2] 28)
  go_enter Tryz.func9, Tryz.ntmps9
  go_wp2_with fail
  by_cases q0 : left < ((bulkRow [.sl r0, .sl r1]) : Nat)
  · refine (HC0.out S _ _ _ (mkRow_Sorts G0.out G1.out) (mkVals_Sorts (E0.out.below hbw) (E1.out.below hbw)) (by omega) (by omega)).mono ?_
    rw [sub_neg (by omega)]
    rintro e w1 ⟨rfl, hb1⟩
    go_wp2
    go_ret
    exact ⟨ret_int (a := -1) (sub_neg (by have := HB.out; omega)).symm, hbw.trans (hb1.mono hbw.size)⟩
  refine (HC0.out S _ _ _ (mkRow_Sorts G0.out G1.out) (mkVals_Sorts (E0.out.below hbw) (E1.out.below hbw)) (by omega) (by omega)).mono ?_
  rw [sub_pos (by omega)]
  rintro e w1 ⟨rfl, hb1⟩
  obtain ⟨hc1, hf1⟩ := bcell hb1
  have hz1 : w.heap.size < w1.heap.size := (by have := hb1.size; (try simp at this); omega)
  replace hbw := hbw.trans (hb1.mono hbw.size)
  go_wp2_with fail
  by_cases q2 : (left - (((bulkRow [.sl r0, .sl r1]) : Nat) : Int)) < ((r2.length + bulkRows r2) : Nat)
  · refine (HC2.out S _ _ _ G2.out (E2.out.below hbw) (by omega) (by omega)).mono ?_
    rw [sub_neg (by omega)]
    rintro e w2 ⟨rfl, hb2⟩
    go_wp2
    go_ret
    exact ⟨ret_int (a := -1) (sub_neg (by have := HB.out; omega)).symm, hbw.trans (hb2.mono hbw.size)⟩
  refine (HC2.out S _ _ _ G2.out (E2.out.below hbw) (by omega) (by omega)).mono ?_
  rw [sub_pos (by omega)]
  rintro e w2 ⟨rfl, hb2⟩
  obtain ⟨hc2, hf2⟩ := bcell hb2
  have hz2 : w.heap.size < w2.heap.size := (by have := hb2.size; (try simp at this); omega)
  replace hbw := hbw.trans (hb2.mono hbw.size)
  go_wp2
  go_ret
  exact ⟨ret_int (by have := HB.out; rw [sub_pos (by omega)]; omega), hbw⟩
set_option maxHeartbeats 1000000 in
theorem eqSignature_of (row : List C) : eqSignatureC row := by
  intro S S' us us' w hok hv hv'
  obtain ⟨r0, r1, r2, rfl, g0, g1, g2⟩ := okRow_Signature hok
  obtain ⟨v0, v1, v2, rfl, e0, e1, e2⟩ := repVals_Signature hv
  obtain ⟨x0, x1, x2, rfl, d0, d1, d2⟩ := repVals_Signature hv'
  have HC0 := Lib.hid (eqSorts_any [.sl r0, .sl r1])
  have HC2 := Lib.hid (eqOpS_any r2)
  have G0 := Lib.hid g0
  have G1 := Lib.hid g1
  have G2 := Lib.hid g2
  clear g0 g1 g2 hok
  have E0 := Lib.hid e0
  have D0 := Lib.hid d0
  have E1 := Lib.hid e1
  have D1 := Lib.hid d1
  have E2 := Lib.hid e2
  have D2 := Lib.hid d2
  clear hv hv' e0 d0 e1 d1 e2 d2
  have hbw := ((Below.refl w.heap.size w).alloc (Nat.le_refl _) (.cells #[v0, v1, v2] 43)).alloc (by simp) (.cells #[x0, x1, x2] 43)
  go_enter Tryz.func15, Tryz.ntmps15
  go_wp2_with fail
  refine (HC0.out S S' _ _ _ (mkRow_Sorts G0.out G1.out) (mkVals_Sorts (E0.out.below hbw) (E1.out.below hbw)) (mkVals_Sorts (D0.out.below hbw) (D1.out.below hbw))).mono ?_
  rintro e w1 ⟨rfl, hb1⟩
  obtain ⟨hc1, hf1⟩ := bcell hb1
  have hz1 : w.heap.size + 1 < w1.heap.size := (by have := hb1.size; (try simp at this); omega)
  have ha1 : w.heap.size < w1.heap.size := by omega
  replace hbw := hbw.trans (hb1.mono hbw.size)
  go_wp2_with fail
  refine (HC2.out S S' _ _ _ G2.out (E2.out.below hbw) (D2.out.below hbw)).mono ?_
  rintro e w2 ⟨rfl, hb2⟩
  obtain ⟨hc2, hf2⟩ := bcell hb2
  have hz2 : w.heap.size + 1 < w2.heap.size := (by have := hb2.size; (try simp at this); omega)
  have ha2 : w.heap.size < w2.heap.size := by omega
  replace hbw := hbw.trans (hb2.mono hbw.size)
  go_wp2
  go_ret
  exact ⟨rfl, hbw⟩
set_option maxHeartbeats 2000000 in
theorem toSignature_of (row : List C) : toSignatureC row := by
  intro S us w hok hv hlen
  obtain ⟨r0, r1, r2, rfl, g0, g1, g2⟩ := okRow_Signature hok
  obtain ⟨v0, v1, v2, rfl, e0, e1, e2⟩ := repVals_Signature hv
  have HC0 := Lib.hid (toSorts_any [.sl r0, .sl r1])
  have HC2 := Lib.hid (toOpS_any r2)
  have G0 := Lib.hid g0
  have G1 := Lib.hid g1
  have G2 := Lib.hid g2
  clear g0 g1 g2 hok
  have E0 := Lib.hid e0
  have E1 := Lib.hid e1
  have E2 := Lib.hid e2
  clear hv e0 e1 e2
  have hl0 : (bulkRow [.sl r0, .sl r1]) ≤ 1048576 := by
    have e : (bulkRow [.sl r0, .sl r1]) ≤ bulkRow [.sl r0, .sl r1, .sl r2] := by simp only [bulkRow, bulkC]; omega
    exact Nat.le_trans e hlen
  have hl2 : (r2.length + bulkRows r2) ≤ 1048576 := by
    have e : (r2.length + bulkRows r2) ≤ bulkRow [.sl r0, .sl r1, .sl r2] := by simp only [bulkRow, bulkC]; omega
    exact Nat.le_trans e hlen
  clear hlen
  go_enter Tryz.func12, Tryz.ntmps12
  go_wp2_with fail
  refine (HC0.out S _ _ (mkRow_Sorts G0.out G1.out) (by exact mkVals_Sorts (E0.out.below (by repeat (first | refine Below.alloc ?_ (by simp; try omega) _ | exact Below.refl _ _))) (E1.out.below (by repeat (first | refine Below.alloc ?_ (by simp; try omega) _ | exact Below.refl _ _)))) hl0).mono ?_
  rintro e w1 ⟨ys0, rfl, hown0, hb1⟩
  obtain ⟨y0, y1, rfl, f0, f1⟩ := repVals_Sorts (OwnVals.rep _ _ (fun _ => True) _ (fun _ _ => trivial) hown0)
  obtain ⟨A0, n0, cap0, rfl, _, _, _⟩ := f0.form
  clear f0
  obtain ⟨A1, n1, cap1, rfl, _, _, _⟩ := f1.form
  clear f1
  have hz1 := hb1.size
  simp at hz1 hown0
  have HOWN0 := Lib.hid hown0
  clear hown0
  have hbw1 : Below w.heap.size w w1 := Below.trans (by repeat (first | refine Below.alloc ?_ (by simp; try omega) _ | exact Below.refl _ _)) (hb1.mono (by simp; try omega))
  obtain ⟨hc1, hf1⟩ := bcell hb1
  have ha1 : w.heap.size < w1.heap.size := by omega
  have hbb1 : w.heap.size + 1 < w1.heap.size := by omega
  have hcc1 : w.heap.size + 1 + 1 < w1.heap.size := by omega
  go_wp2_with fail
  refine (HC2.out S _ _ G2.out (by exact E2.out.below (by repeat (first | refine Below.setCell ?_ (by simp; try omega) _ | exact hbw1))) hl2).mono ?_
  rintro e w2 ⟨y2, rfl, hown2, hb2⟩
  obtain ⟨A2, n2, cap2, rfl, _, _, _⟩ := (Own.rep _ _ _ hown2).form
  have hz2 := hb2.size
  simp at hz2 hown2
  have HOWN2 := Lib.hid hown2
  clear hown2
  have hbw2 : Below w.heap.size w w2 := Below.trans (by repeat (first | refine Below.setCell ?_ (by simp; try omega) _ | exact hbw1)) (hb2.mono (by simp; try omega))
  obtain ⟨hc2, hf2⟩ := bcell hb2
  have ha2 : w.heap.size < w2.heap.size := by omega
  have hbb2 : w.heap.size + 1 < w2.heap.size := by omega
  have hcc2 : w.heap.size + 1 + 1 < w2.heap.size := by omega
  go_wp2
  refine bodyPost_ret (v := .agg #[.slice A0 n0 cap0, .slice A1 n1 cap1, .slice A2 n2 cap2]) (by simp [results, Tryz.results12, go_sem, hc1, ha1, hbb1, hcc1, hc2, ha2, hbb2, hcc2]) rfl ⟨[.slice A0 n0 cap0, .slice A1 n1 cap1, .slice A2 n2 cap2], rfl, ?_, (by repeat (first | refine Below.setCell ?_ (by simp; try omega) _ | exact hbw2))⟩
  simp
  exact (OwnVals.append (cs := [.sl r0, .sl r1]) (ds := [.sl r2]) (us := [.slice A0 n0 cap0, .slice A1 n1 cap1]) (vs := [.slice A2 n2 cap2]) (fun x => w.heap.size + 1 + 1 + 1 ≤ x ∧ x < w1.heap.size) (fun x => w1.heap.size ≤ x ∧ x < w2.heap.size) (HOWN0.out.same (by repeat (first | refine Same.trans ?_ (Same.setCell _ _ _ _ (by simp; try omega)) | refine Same.trans ?_ ((Same.below hb2).mono (fun x hx => by simp at hx ⊢; omega)) | exact Same.refl _ _))) (OwnVals.cons (fun x => w1.heap.size ≤ x ∧ x < w2.heap.size) (fun x => w2.heap.size ≤ x ∧ x < w2.heap.size) (HOWN2.out.same (by repeat (first | refine Same.trans ?_ (Same.setCell _ _ _ _ (by simp; try omega)) | exact Same.refl _ _))) OwnVals.nil (fun x hx => ⟨by omega, by omega⟩) (fun x hx => ⟨by omega, by omega⟩) (fun x hx hy => by omega)) (fun x hx => ⟨by omega, by omega⟩) (fun x hx => ⟨by omega, by omega⟩) (fun x hx hy => by omega))
theorem szSignature_any (row : List C) : szSignatureC row := szSignature_of row
theorem eqSignature_any (row : List C) : eqSignatureC row := eqSignature_of row
theorem toSignature_any (row : List C) : toSignatureC row := toSignature_of row
end Go.Proofs.YtpbikjkjfojjiaaGreat
namespace Go.Proofs.YtpbikjkjfojjiaaGreat
open Go.RowKit
theorem decL {α : Type} {fs : List F} {e : α → List C} {p : α → Prop} (hd : ∀ row, okRow fs row → ∃ a, row = e a ∧ p a) : ∀ {rows : List (List C)}, okRows fs rows → ∃ l : List α, rows = l.map e ∧ ∀ x ∈ l, p x
  | [], _ => ⟨[], rfl, by simp⟩
  | r :: rs, h => by
    simp only [okRows] at h
    obtain ⟨a, rfl, ha⟩ := hd r h.1
    obtain ⟨l, rfl, hl⟩ := decL hd h.2
    exact ⟨a :: l, rfl, fun x hx => by
      rcases List.mem_cons.1 hx with rfl | hx
      · exact ha
      · exact hl x hx⟩
theorem okL {α : Type} {fs : List F} {e : α → List C} {p : α → Prop} (hk : ∀ a, p a → okRow fs (e a)) : ∀ {l : List α}, (∀ x ∈ l, p x) → okRows fs (l.map e)
  | [], _ => by simp [okRows]
  | a :: l, h => by
    simp only [List.map_cons, okRows]
    exact ⟨hk a (h a (by simp)), okL hk (fun x hx => h x (by simp [hx]))⟩
def encInt (n : Int) : List C := [.lit (.int .i64 n)]
def encStr (s : ByteArray) : List C := [.lit (.string s)]
def encSub (p : Int × Int) : List C := [.lit (.int .i64 p.1), .lit (.int .i64 p.2)]
def okSub (p : Int × Int) : Prop := I64 p.1 ∧ I64 p.2
def okStr (s : ByteArray) : Prop := s.size ≤ maxLen
theorem decInt : ∀ row, okRow (fieldsOf .int) row → ∃ a, row = encInt a ∧ I64 a := fun row h => okRow_Int h
theorem okInt : ∀ a, I64 a → okRow (fieldsOf .int) (encInt a) := fun a h => mkRow_Int h
theorem decStr : ∀ row, okRow (fieldsOf .str) row → ∃ a, row = encStr a ∧ okStr a := fun row h => okRow_String h
theorem okStrR : ∀ a, okStr a → okRow (fieldsOf .str) (encStr a) := fun a h => mkRow_String h
theorem decSub : ∀ row, okRow (fieldsOf .sub) row → ∃ a, row = encSub a ∧ okSub a := fun row h => by
  obtain ⟨i0, i1, rfl, h0, h1⟩ := okRow_Sub h
  exact ⟨(i0, i1), rfl, h0, h1⟩
theorem okSubR : ∀ a, okSub a → okRow (fieldsOf .sub) (encSub a) := fun a h => mkRow_Sub h.1 h.2
structure Srt where
  names : List ByteArray
  subs : List (Int × Int)
def encSrt (s : Srt) : List C := [.sl (s.names.map encStr), .sl (s.subs.map encSub)]
def okSrt (s : Srt) : Prop := (∀ x ∈ s.names, okStr x) ∧ ∀ x ∈ s.subs, okSub x
structure Dcl where
  args : List Int
  res : Int
def encDcl (d : Dcl) : List C := [.sl (d.args.map encInt), .lit (.int .i64 d.res)]
def okDcl (d : Dcl) : Prop := (∀ x ∈ d.args, I64 x) ∧ I64 d.res
theorem decDcl : ∀ row, okRow (fieldsOf .decl) row → ∃ a, row = encDcl a ∧ okDcl a := fun row h => by
  obtain ⟨r0, i1, rfl, g0, g1⟩ := okRow_Decl h
  obtain ⟨l0, rfl, k0⟩ := decL decInt g0
  exact ⟨⟨l0, i1⟩, rfl, k0, g1⟩
theorem okDclR : ∀ a, okDcl a → okRow (fieldsOf .decl) (encDcl a) := fun a h => mkRow_Decl (okL okInt h.1) h.2
structure Opr where
  name : ByteArray
  decls : List Dcl
  assoc : Bool
  comm : Bool
  unit : Int
def encOpr (o : Opr) : List C := [.lit (.string o.name), .sl (o.decls.map encDcl), .lit (.bool o.assoc), .lit (.bool o.comm), .lit (.int .i64 o.unit)]
def okOpr (o : Opr) : Prop := okStr o.name ∧ (∀ x ∈ o.decls, okDcl x) ∧ I64 o.unit
theorem decOpr : ∀ row, okRow (fieldsOf .op) row → ∃ a, row = encOpr a ∧ okOpr a := fun row h => by
  obtain ⟨t0, r1, p2, p3, i4, rfl, g0, g1, _, _, g4⟩ := okRow_Op h
  obtain ⟨l1, rfl, k1⟩ := decL decDcl g1
  exact ⟨⟨t0, l1, p2, p3, i4⟩, rfl, g0, k1, g4⟩
theorem okOprR : ∀ a, okOpr a → okRow (fieldsOf .op) (encOpr a) := fun a h => mkRow_Op h.1 (okL okDclR h.2.1) trivial trivial h.2.2
structure Sgn where
  sorts : Srt
  ops : List Opr
def encSgn (s : Sgn) : List C := [.sl (s.sorts.names.map encStr), .sl (s.sorts.subs.map encSub), .sl (s.ops.map encOpr)]
def okSgn (s : Sgn) : Prop := okSrt s.sorts ∧ ∀ x ∈ s.ops, okOpr x
theorem decSgn {row : List C} (h : okRow sigF row) : ∃ s, row = encSgn s ∧ okSgn s := by
  obtain ⟨r0, r1, r2, rfl, g0, g1, g2⟩ := okRow_Signature h
  obtain ⟨l0, rfl, k0⟩ := decL decStr g0
  obtain ⟨l1, rfl, k1⟩ := decL decSub g1
  obtain ⟨l2, rfl, k2⟩ := decL decOpr g2
  exact ⟨⟨⟨l0, l1⟩, l2⟩, rfl, ⟨k0, k1⟩, k2⟩
/-! Reading elements. -/
theorem Rep.at {α : Type} {w : World} {S : Nat → Prop} {fs : List F} {e : α → List C} {p : α → Prop} (hk : ∀ a, p a → okRow fs (e a)) {l : List α} (hl : ∀ x ∈ l, p x) {A : Option Addr} {m cap k : Nat} {a : α}
    (h : Rep w S (.sl (l.map e)) (.slice A m cap)) (ha : l[k]? = some a) : ∃ b off, A = some ⟨b, off, none⟩ ∧ S b ∧ b < w.heap.size ∧ RepRow w S b (off + k * fs.length) (e a) := by
  have hkl : k < l.length := (List.getElem?_eq_some_iff.1 ha).1
  obtain ⟨A', m', cap', hf, hm, _, _⟩ := h.form
  injection hf with h1 h2 h3
  subst h1 h2 h3
  obtain ⟨b, off, r, rfl, hS, hbz, hget, hokr, hrow⟩ := h.get (okL hk hl) (i := k) (by rw [← hm]; simpa using hkl)
  refine ⟨b, off, rfl, hS, hbz, ?_⟩
  rw [List.getElem?_map, ha] at hget
  simp only [Option.map_some, Option.some.injEq] at hget
  rw [hget]
  exact hrow
theorem Rep.shape {α : Type} {w : World} {S : Nat → Prop} {e : α → List C} {l : List α} {v : Value} (h : Rep w S (.sl (l.map e)) v) : ∃ A cap, v = .slice A l.length cap ∧ l.length ≤ cap ∧ cap ≤ maxLen := by
  obtain ⟨A, m, cap, rfl, hm, h1, h2⟩ := h.form
  rw [List.length_map] at hm
  subst hm
  exact ⟨A, cap, rfl, h1, h2⟩
end Go.Proofs.YtpbikjkjfojjiaaGreat
namespace Go.Proofs.YtpbikjkjfojjiaaGreat
open Go.RowKit
theorem ret_bool {a b : Bool} (h : a = b) : Ending.returned (.bool a) = .returned (.bool b) := by rw [h]
theorem setRow_alloc (w : World) (cur us : Array Value) (t : TypeId) : (w.alloc (.cells cur t)).setRow w.heap.size us = w.alloc (.cells us t) := by
  unfold World.setRow World.alloc
  congr 1
  apply Array.ext
  · simp
  · intro i h1 h2
    simp only [Array.getElem_modify, Array.getElem_push]
    by_cases h : w.heap.size = i
    · subst h
      simp
    · simp only [h, if_false]
      have hi : i < w.heap.size := by simp at h2; omega
      simp [hi]
/-- A whole value stored into a variable that has just been made. -/
theorem wpList_store_new {P : Program} {ops : Array Oper} {rest : List Oper} {o : Oper} {a : Act} {w : World} {Q : Exit → Act → World → Prop} (hgd : o.guard = none) (ty : TypeId) (x y : Operand) (ho : o.op = .store ty x y)
    (w0 : World) (t : TypeId) (cur : Array Value) (hw : w = w0.alloc (.cells cur t)) (g : Nat) (hx : a.eval x = .pointer (some ⟨g, 0, none⟩)) (hg : g = w0.heap.size) (us : List Value) (hy : (a.eval y).cells.toList = us) (i : TypeInfo) (hi : P.info? ty = some i) (hs : i.size = us.length)
    (hc : cur.size = us.length) (h1 : ∀ u ∈ us, u.oneCell' = true)
    (h : wpList P ops Q rest (a.put o.dst undef) (w0.alloc (.cells us.toArray t))) : wpList P ops Q (o :: rest) a w := by
  subst hw
  subst hg
  refine wpList_plain hgd fun K hK => ?_
  have hst := run_storeCells_at P w0.heap.size 0 t us 0 cur (w0.alloc (.cells cur t)) (heap_alloc_new w0 _) (by omega) h1
  have hd : cur.toList.drop us.length = [] := by rw [← hc]; simp
  simp only [Nat.zero_add, List.take_zero, List.nil_append, hd, List.append_nil, setRow_alloc] at hst
  have hsz : (a.eval y).cells.size = i.size := by rw [hs, ← hy, Array.length_toList]
  unfold Oper.wp execOp
  simp only [ho, hx, Instr.storeAt, Instr.sureAddr, storeVar, Sem.run_bind, Sem.run_pure, Result.andThen_ok, sizeOf, typeInfo, hi, run_program, hsz, ne_eq, not_true_eq_false, if_false, hy, hst]
  exact hK _ _ h
end Go.Proofs.YtpbikjkjfojjiaaGreat
namespace Go.Proofs.YtpbikjkjfojjiaaGreat
open Go.RowKit
/-- The slice v, made by the call (blocks from base on), holds the numbers l. -/
def Ints (w : World) (base : Nat) (v : Value) (l : List Int) : Prop := w.ownsRow base 3 1 v l.length (l.map (Value.int .i64))
section
variable {w w' : World} {base : Nat} {v : Value} {l : List Int}
theorem Ints.form (h : Ints w base v l) : ∃ A cap, v = .slice A l.length cap ∧ l.length ≤ cap ∧ cap ≤ maxLen ∧ (0 < l.length → ∃ g, A = some ⟨g, 0, none⟩ ∧ base ≤ g ∧ g < w.heap.size) := by
  obtain ⟨_, h⟩ := h
  rcases h with ⟨rfl, h0⟩ | ⟨g, cap, cur, rfl, hb, hg, hc, hm, _⟩
  · exact ⟨none, 0, by rw [h0], by omega, by simp [maxLen], fun h => by omega⟩
  · exact ⟨_, cap, rfl, hc, hm, fun _ => ⟨g, rfl, hb, (Array.getElem?_eq_some_iff.1 hg).1⟩⟩
theorem Ints.cell {g n cap : Nat} (h : Ints w base (.slice (some ⟨g, 0, none⟩) n cap) l) {i : Nat} {x : Int} (hx : l[i]? = some x) : w.cell? ⟨g, i, none⟩ = some (.int .i64 x) := by
  have := World.ownsRow.cells h (g := g) rfl i (.int .i64 x) (by rw [List.getElem?_map, hx]; rfl)
  rw [← this]
  congr 1
  unfold Addr.add
  split <;> simp_all
theorem Ints.frozen {g n cap : Nat} (h : Ints w base (.slice (some ⟨g, 0, none⟩) n cap) l) (o : Nat) : w.frozen? ⟨g, o, none⟩ = false := by
  obtain ⟨_, h⟩ := h
  rcases h with ⟨h, _⟩ | ⟨g', cap', cur, h, hb, hg, _⟩
  · cases h
  · injection h with h1
    injection h1 with h1
    injection h1 with h1
    subst h1
    exact frozen_of_row w _ o cur _ hg
theorem Ints.set {g n cap : Nat} (h : Ints w base (.slice (some ⟨g, 0, none⟩) n cap) l) {i : Nat} (hi : i < l.length) (x : Int) : Ints (w.setCell ⟨g, i, none⟩ (.int .i64 x)) base (.slice (some ⟨g, 0, none⟩) n cap) (l.set i x) := by
  obtain ⟨h0, h⟩ := h
  refine ⟨by simp, .inr ?_⟩
  rcases h with ⟨h, _⟩ | ⟨g', cap', cur, hv, hb, hg, hc, hm, hs, ht⟩
  · cases h
  · injection hv with h1 h2 h3
    injection h1 with h1
    injection h1 with h1
    subst h1
    subst h2 h3
    refine ⟨g, cap, cur.set! i (.int .i64 x), by simp, hb, ?_, by simpa using hc, hm, by simpa using hs, ?_⟩
    · unfold World.setCell
      simp [Array.getElem?_modify, hg]
    · simp only [List.length_set, Nat.mul_one] at ht ⊢
      rw [Array.set!_eq_setIfInBounds, Array.toList_setIfInBounds, List.take_set, ht, List.map_set]
theorem Ints.rep (h : Ints w base v l) : Rep w (fun b => base ≤ b) (.sl (l.map encInt)) v := by
  obtain ⟨A, cap, rfl, hc, hm, hg⟩ := h.form
  simp only [Rep]
  refine ⟨A, _, cap, rfl, by simp, hc, hm, fun h0 => ?_⟩
  obtain ⟨g, rfl, hb, hz⟩ := hg h0
  refine ⟨g, 0, rfl, hb, hz, ?_⟩
  have hall : ∀ (m : List Int) (off : Nat), (∀ i x, m[i]? = some x → w.cell? ⟨g, off + i, none⟩ = some (.int .i64 x)) → RepRows w (fun b => base ≤ b) g off (m.map encInt) := by
    intro m
    induction m with
    | nil => intro off _; simp [RepRows]
    | cons a m ih =>
      intro off hm
      simp only [List.map_cons, RepRows, encInt, RepRow, and_true, List.length_cons, List.length_nil, Nat.zero_add]
      refine ⟨⟨_, hm 0 a rfl, by simp [Rep]⟩, ih (off + 1) (fun i x hx => ?_)⟩
      have := hm (i + 1) x (by simpa using hx)
      rw [← this]
      congr 2
      omega
  exact hall l 0 (fun i x hx => by simpa using h.cell hx)
theorem Ints.below (h : Ints w base v l) (hb : Below w.heap.size w w') : Ints w' base v l := by
  refine World.ownsRow.kept (row := none) h ⟨hb.os, hb.tape, hb.output, hb.size, fun k hk _ => hb.block k hk⟩ ?_
  cases hv : v.ownBlock <;> simp
theorem Ints.base_le {base' : Nat} (h : Ints w base v l) (hb : base' ≤ base) : Ints w base' v l := by
  refine ⟨h.1, ?_⟩
  rcases h.2 with h | ⟨g, cap, cur, h1, h2, h3⟩
  · exact .inl h
  · exact .inr ⟨g, cap, cur, h1, by omega, h3⟩
theorem Ints.empty (w : World) : Ints (w.alloc (.cells #[] 3)) w.heap.size (.slice (some ⟨w.heap.size, 0, none⟩) 0 0) [] :=
  ⟨by simp, .inr ⟨w.heap.size, 0, #[], rfl, Nat.le_refl _, heap_alloc_new w _, Nat.le_refl _, by simp [maxLen], rfl, rfl⟩⟩
theorem Ints.drew (h : Ints w base v l) : Ints w.drew base v l := h
theorem Ints.alloc (h : Ints w base v l) (o : Obj) : Ints (w.alloc o) base v l := World.ownsRow.alloc h o
theorem Ints.lt (h : Ints w base v l) : ∀ k, v.ownBlock = some k → base ≤ k ∧ k < w.heap.size := World.ownsRow.lt h
end
/-- A number appended to a slice of the call's own. -/
theorem wpList_app_int {P : Program} {ops : Array Oper} {rest : List Oper} {o : Oper} {a : Act} {w : World} {Q : Exit → Act → World → Prop} (hgd : o.guard = none) (s x : Operand) (t : TypeId)
    (ho : o.op = .call { callee := .builtin .append, args := #[s, x], argTypes := #[t, t] }) (i : TypeInfo) (ht : P.underlying t = some (.slice 3)) (hi : P.info? 3 = some i) (hz : i.zero = some (.int .i64 0)) (hsize : i.size = 1) (hby : i.bytes = 8)
    (base : Nat) (v : Value) (l : List Int) (hs : a.eval s = v) (w0 : World) (u : Int) (t' : TypeId) (hw : w = w0.alloc (.cells #[.int .i64 u] t')) (hown : Ints w0 base v l) (hx : a.eval x = .slice (some ⟨w0.heap.size, 0, none⟩) 1 1) (hl : l.length ≤ 1099511627776) (hbase : base ≤ w0.heap.size)
    (h : ∀ v' w', Ints w' base v' (l ++ [u]) → (∀ B, B ≤ base → Below B w0 w') → wpList P ops Q rest (a.put o.dst v') w') : wpList P ops Q (o :: rest) a w := by
  subst hw
  refine wpList_append_own _ hgd s x t ho base 3 i (.int .i64 0) 1 8 ht hi hz hsize hby rfl (by decide) v _ _ hs (World.ownsRow.alloc hown _) ⟨w0.heap.size, 0, none⟩ 1 1 [.int .i64 u] hx rfl ?_ ?_ (by unfold maxLen; omega) (by omega) (by simp; omega) ?_
  · intro j y hj
    match j, hj with
    | 0, hj => simp at hj; subst hj; simp [Addr.add]
  · intro y hy
    simp at hy
    subst hy
    rfl
  · intro v' w' h1 h2 _
    refine h v' w' ?_ (fun B hB => ?_)
    · unfold Ints
      simpa using h1
    · refine (((Below.refl B w0).alloc (by omega) _).grown h2 (by simp; omega) ?_)
      intro k hk
      have := Ints.lt hown k hk
      omega
end Go.Proofs.YtpbikjkjfojjiaaGreat
namespace Go.Proofs.YtpbikjkjfojjiaaGreat
open Go.RowKit
theorem wrap_i64 {n : Int} (h0 : 0 ≤ n) (h1 : n < 9223372036854775808) : IntKind.i64.wrap n = n := by
  simp [IntKind.wrap, IntKind.bits, IntKind.signed]
  omega
theorem bv_nat {a : Nat} (h : a < 18446744073709551616) : (BitVec.ofInt 64 (a : Int)).toNat = a := by
  rw [BitVec.toNat_ofInt]
  omega
theorem bits_or {a b : Nat} (ha : a < 4611686018427387904) (hb : b < 4611686018427387904) : bits .or .i64 (a : Int) (b : Int) = ((a ||| b : Nat) : Int) := by
  have h : a ||| b < 2 ^ 62 := Nat.or_lt_two_pow (by omega) (by omega)
  have e : (BitVec.ofInt IntKind.i64.bits (a : Int) ||| BitVec.ofInt IntKind.i64.bits (b : Int)).toNat = a ||| b := by
    rw [BitVec.toNat_or]
    show (BitVec.ofInt 64 (a : Int)).toNat ||| (BitVec.ofInt 64 (b : Int)).toNat = _
    rw [bv_nat (by omega), bv_nat (by omega)]
  unfold bits
  show IntKind.i64.wrap _ = _
  rw [e]
  exact wrap_i64 (by omega) (by omega)
theorem bits_and {a b : Nat} (ha : a < 4611686018427387904) (hb : b < 4611686018427387904) : bits .and .i64 (a : Int) (b : Int) = ((a &&& b : Nat) : Int) := by
  have h : a &&& b < 2 ^ 62 := Nat.and_lt_two_pow _ (by omega)
  have e : (BitVec.ofInt IntKind.i64.bits (a : Int) &&& BitVec.ofInt IntKind.i64.bits (b : Int)).toNat = a &&& b := by
    rw [BitVec.toNat_and]
    show (BitVec.ofInt 64 (a : Int)).toNat &&& (BitVec.ofInt 64 (b : Int)).toNat = _
    rw [bv_nat (by omega), bv_nat (by omega)]
  unfold bits
  show IntKind.i64.wrap _ = _
  rw [e]
  exact wrap_i64 (by omega) (by omega)
theorem pow_lt62 {k : Nat} (h : k < 62) : 2 ^ k < 4611686018427387904 := Nat.lt_of_lt_of_le (Nat.pow_lt_pow_right (by omega) h) (by omega)
theorem shl_one {k : Nat} (h : k < 62) : wrap64 (2 ^ k) = ((2 ^ k : Nat) : Int) := by
  have h1 := pow_lt62 h
  have e : (2 : Int) ^ k = ((2 ^ k : Nat) : Int) := by simp
  rw [e]
  generalize 2 ^ k = p at h1 ⊢
  unfold wrap64
  omega
theorem testBit_and (a k : Nat) : ((a &&& 2 ^ k) != 0) = a.testBit k := by
  cases h : a.testBit k
  · have : a &&& 2 ^ k = 0 := by
      apply Nat.eq_of_testBit_eq
      intro j
      rw [Nat.testBit_and, Nat.testBit_two_pow, Nat.zero_testBit]
      by_cases hj : k = j
      · subst hj; simp [h]
      · simp [hj]
    simp [this]
  · have : ¬ (a &&& 2 ^ k = 0) := by
      intro h0
      have h1 : (a &&& 2 ^ k).testBit k = true := by rw [Nat.testBit_and, Nat.testBit_two_pow]; simp [h]
      rw [h0, Nat.zero_testBit] at h1
      simp at h1
    simp [this]
theorem testBit_shr {a k : Nat} (ha : a < 4611686018427387904) : (bits .and .i64 ((a : Int) / 2 ^ k) 1 == 1) = a.testBit k := by
  have e : (a : Int) / 2 ^ k = ((a / 2 ^ k : Nat) : Int) := by simp
  have h1 : a / 2 ^ k ≤ a := Nat.div_le_self _ _
  have h2 : bits .and .i64 ((a / 2 ^ k : Nat) : Int) ((1 : Nat) : Int) = _ := bits_and (by omega) (by omega)
  rw [e]
  rw [show (1 : Int) = ((1 : Nat) : Int) from rfl, h2, Nat.testBit, Nat.shiftRight_eq_div_pow, Nat.and_comm]
  have h3 : 1 &&& a / 2 ^ k < 2 := by rw [Nat.one_and_eq_mod_two]; omega
  generalize 1 &&& a / 2 ^ k = x at h3 ⊢
  have : x = 0 ∨ x = 1 := by omega
  rcases this with rfl | rfl <;> rfl
theorem specIn (x lo hi : Int) (w : World) : Calls Tryz.prog 64 #[.int .i64 x, .int .i64 lo, .int .i64 hi] w fun e w' => e = .returned (.bool (decide (lo ≤ x ∧ x ≤ hi))) ∧ w = w' := by
  go_enter Tryz.func64, Tryz.ntmps64
  go_wp2
  all_goals
    go_ret
    exact ⟨ret_bool (by rw [Bool.eq_iff_iff]; simp; try omega), rfl⟩
theorem specMin (a b : Int) (w : World) : Calls Tryz.prog 163 #[.int .i64 a, .int .i64 b] w fun e w' => e = .returned (.int .i64 (min a b)) ∧ w = w' := by
  go_enter Tryz.func163, Tryz.ntmps163
  go_wp2
  all_goals
    go_ret
    exact ⟨ret_int (by omega), rfl⟩
theorem specBit (k : Nat) (hk : k < 62) (w : World) : Calls Tryz.prog 162 #[.int .i64 k] w fun e w' => e = .returned (.int .i64 ((2 ^ k : Nat) : Int)) ∧ w = w' := by
  go_enter Tryz.func162, Tryz.ntmps162
  go_wp2
  all_goals
    go_ret
    exact ⟨ret_int (shl_one hk), rfl⟩
theorem specHas (a k : Nat) (ha : a < 4611686018427387904) (hk : k < 16) (w : World) : Calls Tryz.prog 134 #[.int .i64 a, .int .i64 k] w fun e w' => e = .returned (.bool (a.testBit k)) ∧ w = w' := by
  go_enter Tryz.func134, Tryz.ntmps134
  go_wp2
  all_goals
    go_ret
    exact ⟨ret_bool (testBit_shr ha), rfl⟩
end Go.Proofs.YtpbikjkjfojjiaaGreat
namespace Go.Proofs.YtpbikjkjfojjiaaGreat
open Go.RowKit
def upSub (l : List Nat) (p : Int × Int) : List Nat := l.set p.1.toNat (l.getD p.1.toNat 0 ||| l.getD p.2.toNat 0)
def upRound (subs : List (Int × Int)) (l : List Nat) : List Nat := subs.foldl upSub l
def upIter (subs : List (Int × Int)) : Nat → List Nat → List Nat
  | 0, l => l
  | k + 1, l => upRound subs (upIter subs k l)
def up0 (n : Nat) : List Nat := (List.range n).map (2 ^ ·)
def up (s : Srt) : List Nat := upIter s.subs s.names.length (up0 s.names.length)
def casts (l : List Nat) : List Int := l.map (fun (n : Nat) => (n : Int))
def SubsIn (n : Nat) (subs : List (Int × Int)) : Prop := ∀ p ∈ subs, 0 ≤ p.1 ∧ p.1 < n ∧ 0 ≤ p.2 ∧ p.2 < n
def UpOk (n : Nat) (l : List Nat) : Prop := l.length = n ∧ ∀ x ∈ l, x < 2 ^ n
theorem UpOk.get {n : Nat} {l : List Nat} (h : UpOk n l) {i : Nat} (hi : i < n) : l[i]? = some (l.getD i 0) ∧ l.getD i 0 < 2 ^ n := by
  have hl : i < l.length := by rw [h.1]; exact hi
  have e : l[i]? = some l[i] := List.getElem?_eq_getElem hl
  have e2 : l.getD i 0 = l[i] := by simp [List.getD, e]
  rw [e2]
  exact ⟨e, h.2 _ (List.getElem_mem hl)⟩
theorem UpOk.sub {n : Nat} {l : List Nat} (h : UpOk n l) {p : Int × Int} (hp : 0 ≤ p.1 ∧ p.1 < n ∧ 0 ≤ p.2 ∧ p.2 < n) : UpOk n (upSub l p) := by
  refine ⟨by unfold upSub; rw [List.length_set]; exact h.1, fun x hx => ?_⟩
  unfold upSub at hx
  rcases List.mem_or_eq_of_mem_set hx with hx | rfl
  · exact h.2 x hx
  · exact Nat.or_lt_two_pow (h.get (i := p.1.toNat) (by omega)).2 (h.get (i := p.2.toNat) (by omega)).2
theorem UpOk.foldl {n : Nat} : ∀ {subs : List (Int × Int)} {l : List Nat}, UpOk n l → SubsIn n subs → UpOk n (subs.foldl upSub l)
  | [], l, h, _ => h
  | p :: ps, l, h, hs => UpOk.foldl (subs := ps) (h.sub (hs p (by simp))) (fun q hq => hs q (by simp [hq]))
theorem UpOk.iter {n : Nat} {subs : List (Int × Int)} (hs : SubsIn n subs) : ∀ (k : Nat) {l : List Nat}, UpOk n l → UpOk n (upIter subs k l)
  | 0, l, h => h
  | k + 1, l, h => (UpOk.iter hs k h).foldl hs
theorem UpOk.start (n : Nat) : UpOk n (up0 n) := by
  refine ⟨by simp [up0], fun x hx => ?_⟩
  simp only [up0, List.mem_map, List.mem_range] at hx
  obtain ⟨i, hi, rfl⟩ := hx
  exact Nat.pow_lt_pow_right (by omega) hi
theorem up_ok {s : Srt} (h : SubsIn s.names.length s.subs) : UpOk s.names.length (up s) := UpOk.iter h _ (UpOk.start _)
theorem foldl_take {α β : Type} {f : β → α → β} {l : List α} {k : Nat} {a : α} (h : l[k]? = some a) (b : β) : (l.take (k + 1)).foldl f b = f ((l.take k).foldl f b) a := by
  rw [take_snoc h, List.foldl_append]; rfl
theorem SubsIn.take {n : Nat} {subs : List (Int × Int)} (h : SubsIn n subs) (k : Nat) : SubsIn n (subs.take k) := fun p hp => h p (List.mem_of_mem_take hp)
theorem casts_len (l : List Nat) : (casts l).length = l.length := by simp [casts]
theorem casts_get {l : List Nat} {i x : Nat} (h : l[i]? = some x) : (casts l)[i]? = some (x : Int) := by simp [casts, h]
theorem casts_set (l : List Nat) (i x : Nat) : casts (l.set i x) = (casts l).set i (x : Int) := by simp [casts, List.map_set]
theorem casts_snoc (l : List Nat) (x : Nat) : casts (l ++ [x]) = casts l ++ [(x : Int)] := by simp [casts]
def fill0 (n k : Nat) : List Nat := up0 k ++ List.replicate (n - k) 0
theorem fill0_len {n k : Nat} (h : k ≤ n) : (fill0 n k).length = n := by simp [fill0, up0]; omega
theorem fill0_set {n k : Nat} (h : k < n) : (fill0 n k).set k (2 ^ k) = fill0 n (k + 1) := by
  unfold fill0
  have e : n - k = (n - (k + 1)) + 1 := by omega
  have e2 : up0 (k + 1) = up0 k ++ [2 ^ k] := by simp [up0, List.range_succ]
  have e3 : (up0 k).length = k := by simp [up0]
  rw [e, List.replicate_succ, List.set_append_right _ _ (by omega), e3, Nat.sub_self, List.set_cons_zero, e2, List.append_assoc]
  rfl
theorem fill0_end (n : Nat) : fill0 n n = up0 n := by simp [fill0]
theorem made_ints (n : Nat) : (madeCells #[Value.int .i64 0] n).toList = (casts (List.replicate n 0)).map (Value.int .i64) := by
  rw [toList_madeCells_one]
  simp [casts]
theorem Ints.made (w : World) (n : Nat) (h : n ≤ maxLen) : Ints (w.alloc (.cells (madeCells #[Value.int .i64 0] n) 3)) w.heap.size (.slice (some ⟨w.heap.size, 0, none⟩) n n) (casts (List.replicate n 0)) := by
  refine ⟨by simp, .inr ⟨w.heap.size, n, _, by simp [casts], Nat.le_refl _, heap_alloc_new w _, by simp [casts], h, by simp [size_madeCells], ?_⟩⟩
  rw [List.take_of_length_le (by simp [size_madeCells, casts]), made_ints]
def sortsAboveC (f : FuncId) : Prop := ∀ (s : Srt) (S : Nat → Prop) (us : List Value) (w : World), okSrt s → RepVals w S (encSrt s) us → 1 ≤ s.names.length → s.names.length ≤ 8 → SubsIn s.names.length s.subs →
  Calls Tryz.prog f #[.agg us.toArray] w fun e w' => ∃ v, e = .returned v ∧ Ints w' w.heap.size v (casts (up s)) ∧ Below w.heap.size w w'
theorem info_Sub' : (Tryz.prog.info? 192).map (fun i => (i.zero, i.size, i.bytes)) = some (some (.agg #[.int .i64 0, .int .i64 0]), 2, 16) := by kernel_rfl
set_option maxHeartbeats 2000000 in
set_option maxRecDepth 100000 in
theorem implSortsAbove : sortsAboveC 147 := by
  intro s S us w hok hv hn1 hn hin
  obtain ⟨names, subs⟩ := s
  simp only [encSrt] at hv
  obtain ⟨v0, v1, rfl, e0, e1⟩ := repVals_Sorts hv
  obtain ⟨A0, cap0, rfl, hc0, hm0⟩ := e0.shape
  obtain ⟨A1, cap1, rfl, hc1, hm1⟩ := e1.shape
  obtain ⟨i0, hi, hz0, hz1, hz2⟩ := info_parts info_Int
  obtain ⟨ic, hci, _, hcs, _⟩ := info_parts info_Sub'
  have HIN := Lib.hid hin
  have HOK := Lib.hid hok
  have E1 := Lib.hid e1
  have HF : Hid (up ⟨names, subs⟩ = upIter subs names.length (up0 names.length)) := rfl
  clear hv e0 e1 hok hin
  generalize hN : names.length = n at *
  generalize hM : subs.length = m at *
  clear hN
  have HM := Lib.hid hM
  clear hM
  unfold maxLen at hm0 hm1
  have hmk := run_make (P := Tryz.prog) (w.alloc (.cells #[.slice A0 n cap0, .slice A1 m cap1] 40)) 69 3 i0 _ Tryz.underlying69 hi hz0 .i64 .i64 (n : Int) (n : Int) (by omega) (by omega) (by rw [hz2]; omega) (by omega)
  go_enter Tryz.func147, Tryz.ntmps147
  go_wp2
  clear hmk
  generalize hW : w.alloc _ = W
  have hbW : Below w.heap.size w W := by rw [← hW]; exact (Below.refl _ _).alloc (Nat.le_refl _) _
  have p1 : W.cell? ⟨w.heap.size, 1, none⟩ = some (.slice A1 m cap1) := by rw [← hW]; simp
  have z1 : w.heap.size + 1 = W.heap.size := by rw [← hW]; simp
  clear hW
  rw [z1]
  go_loopw [13] (fun i wr => ∃ k : Nat, k ≤ n ∧ i = .int .i64 k ∧ Ints wr W.heap.size (.slice (some ⟨W.heap.size, 0, none⟩) n n) (casts (fill0 n k)) ∧ Below W.heap.size W wr) (fun i _ => n - (intOf i).toNat)
  case atStart => exact ⟨0, Nat.zero_le _, rfl, by simpa [fill0, up0] using Ints.made W n (by unfold maxLen; omega), (Below.refl _ _).alloc (Nat.le_refl _) _⟩
  case round =>
    obtain ⟨k, hk, rfl, hI, hb⟩ := hrel
    by_cases hkm : k < n
    · have hcell : ∃ x : Int, wr.cell? ⟨W.heap.size, k, none⟩ = some (.int .i64 x) := by
        have : k < (casts (fill0 n k)).length := by rw [casts_len, fill0_len (by omega)]; exact hkm
        exact ⟨_, hI.cell (List.getElem?_eq_getElem this)⟩
      obtain ⟨x, hcell⟩ := hcell
      have hfr := hI.frozen k
      have HI := Lib.hid hI
      clear hI
      go_wp2
      go_roundw
      case rel =>
        refine ⟨k + 1, by omega, by go_num, ?_, hb.setCell (Nat.le_refl _) _⟩
        rw [shl_one (by omega), ← fill0_set hkm, casts_set]
        exact HI.out.set (by rw [casts_len, fill0_len (by omega)]; exact hkm) _
      case measure => simp [intOf]; omega
    · obtain rfl : n = k := by omega
      rw [fill0_end] at hI
      have HI := Lib.hid hI
      clear hI
      go_wp2
      have hb1 := hb
      clear hb
      go_loopw [24] (fun i wr => ∃ j : Nat, j ≤ n ∧ i = .int .i64 j ∧ Ints wr W.heap.size (.slice (some ⟨W.heap.size, 0, none⟩) n n) (casts (upIter subs j (up0 n))) ∧ Below W.heap.size W wr) (fun i _ => n - (intOf i).toNat)
      case atStart => exact ⟨0, Nat.zero_le _, rfl, HI.out, hb1⟩
      case round =>
        obtain ⟨j, hj, rfl, hI, hb⟩ := hrel
        by_cases hjn : j < n
        · have pw := (hb.cell (p := ⟨w.heap.size, 1, none⟩) (show w.heap.size < W.heap.size by omega)).trans p1
          have HI2 := Lib.hid hI
          clear hI
          go_wp2
          have hb2 := hb
          clear hb pw
          go_loopw [29] (fun i wr => ∃ k : Nat, k ≤ m ∧ i = .int .i64 k ∧ Ints wr W.heap.size (.slice (some ⟨W.heap.size, 0, none⟩) n n) (casts ((subs.take k).foldl upSub (upIter subs j (up0 n)))) ∧ Below W.heap.size W wr) (fun i _ => m - (intOf i).toNat)
          case atStart => exact ⟨0, Nat.zero_le _, rfl, HI2.out, hb2⟩
          case round =>
            obtain ⟨k, hk, rfl, hI, hb⟩ := hrel
            have HI3 := Lib.hid hI
            clear hI
            by_cases hkm : k < m
            · obtain ⟨p, hp⟩ : ∃ p, subs[k]? = some p := ⟨_, List.getElem?_eq_getElem (by have := HM.out; omega)⟩
              obtain ⟨b, off, rfl, hS, hbz, hrow⟩ := Rep.at okSubR HOK.out.2 (E1.out.below (hbW.trans (hb.mono hbW.size))) hp
              obtain ⟨g0, g1, g2, g3⟩ := HIN.out p (List.mem_of_getElem? hp)
              obtain ⟨lo, hi'⟩ := p
              simp only [encSub, RepRow, and_true, fieldsOf, List.length_cons, List.length_nil, Nat.reduceAdd, Rep.lit_iff] at hrow
              obtain ⟨⟨_, c0, rfl⟩, ⟨_, c1, rfl⟩⟩ := hrow
              simp only at g0 g1 g2 g3
              obtain ⟨lo, rfl⟩ := Int.eq_ofNat_of_zero_le g0
              obtain ⟨hi', rfl⟩ := Int.eq_ofNat_of_zero_le g2
              have hup := (UpOk.iter HIN.out j (UpOk.start n)).foldl (HIN.out.take k)
              have HL := Lib.hid hup.1
              obtain ⟨r0, t0⟩ := hup.get (i := lo) (by omega)
              obtain ⟨r1, t1⟩ := hup.get (i := hi') (by omega)
              have HST := Lib.hid (foldl_take (f := upSub) hp (upIter subs j (up0 n)))
              generalize hG : (subs.take k).foldl upSub (upIter subs j (up0 n)) = G at *
              have d0 := HI3.out.cell (casts_get r0)
              have d1 := HI3.out.cell (casts_get r1)
              have f0 := HI3.out.frozen lo
              have hlt : W.heap.size < wr.heap.size := (HI3.out.lt _ rfl).2
              have hb256 : 2 ^ n ≤ 2 ^ 8 := Nat.pow_le_pow_right (by omega) hn
              have HX : Hid (G.getD lo 0 < 4611686018427387904 ∧ G.getD hi' 0 < 4611686018427387904) := ⟨by omega, by omega⟩
              have HU : Hid (upSub G (lo, hi') = G.set lo (G.getD lo 0 ||| G.getD hi' 0)) := by show _ = _; simp [upSub]
              clear hup t0 t1 r0 r1 hG hb256 hp
              generalize G.getD lo 0 = x0 at *
              generalize G.getD hi' 0 = x1 at *
              go_wp2_with (refine wpList_store_new rfl 192 _ _ rfl _ _ _ rfl _ rfl (by simp) [.int .i64 lo, .int .i64 hi'] rfl ic hci hcs rfl (by simp [Value.oneCell']) ?_)
              (refine wp_region_still_tail 15 (by kernel_rfl) (by kernel_rfl) ?_
               simp only [List.take_succ_cons, List.take_zero, List.drop_succ_cons, List.drop_zero]
               change wpStill _ _ (World.drew _) _ _ _
               repeat still_step
               refine wpStill_nil ?_
               change wpList _ _ _ _ _ (World.drew _))
              go_wp2
              go_roundw
              case rel =>
                refine ⟨k + 1, by omega, by go_num, ?_, ?_⟩
                · rw [HST.out, HU.out, casts_set, bits_or HX.out.1 HX.out.2]
                  have hln : lo < (casts G).length := by rw [casts_len, HL.out]; omega
                  first
                    | exact ((HI3.out.set hln _).alloc _).drew
                    | exact ((HI3.out.alloc _).set hln _).drew
                    | exact ((HI3.out.alloc _).drew.set hln _)
                · first
                    | exact ((hb.setCell (Nat.le_refl _) _).alloc (by simp; omega) _).drew
                    | exact ((hb.alloc (by omega) _).setCell (Nat.le_refl _) _).drew
                    | exact ((hb.alloc (by omega) _).drew.setCell (Nat.le_refl _) _)
              case measure => simp [intOf]; omega
            · have e : k = m := by omega
              have HT : Hid (subs.take k = subs) := List.take_of_length_le (by have := HM.out; omega)
              go_wp2
              go_roundw
              case rel => exact ⟨j + 1, by omega, by go_num, by have := HI3.out; rw [HT.out] at this; exact this, hb⟩
              case measure => simp [intOf]; omega
        · have e : j = n := by omega
          subst e
          have HI4 := Lib.hid hI
          clear hI
          go_wp2
          go_ret
          exact ⟨_, rfl, by rw [HF.out]; exact HI4.out.base_le hbW.size, hbW.trans (hb.mono hbW.size)⟩
theorem up0_snoc (k : Nat) : up0 (k + 1) = up0 k ++ [2 ^ k] := by simp [up0, List.range_succ]
set_option maxHeartbeats 2000000 in
set_option maxRecDepth 100000 in
theorem specUp : sortsAboveC 133 := by
  intro s S us w hok hv hn1 hn hin
  obtain ⟨names, subs⟩ := s
  simp only [encSrt] at hv
  obtain ⟨v0, v1, rfl, e0, e1⟩ := repVals_Sorts hv
  obtain ⟨A0, cap0, rfl, hc0, hm0⟩ := e0.shape
  obtain ⟨A1, cap1, rfl, hc1, hm1⟩ := e1.shape
  obtain ⟨i0, hi, hz0, hz1, hz2⟩ := info_parts info_Int
  have HIN := Lib.hid hin
  have HOK := Lib.hid hok
  have E1 := Lib.hid e1
  have HF : Hid (up ⟨names, subs⟩ = upIter subs names.length (up0 names.length)) := rfl
  clear hv e0 e1 hok hin
  generalize hN : names.length = n at *
  generalize hM : subs.length = m at *
  clear hN
  have HM := Lib.hid hM
  clear hM
  unfold maxLen at hm0 hm1
  go_enter Tryz.func133, Tryz.ntmps133
  go_wp2
  generalize hW : w.alloc _ = W
  have hbW : Below w.heap.size w W := by rw [← hW]; exact (Below.refl _ _).alloc (Nat.le_refl _) _
  have p0 : W.cell? ⟨w.heap.size, 0, none⟩ = some (.slice A0 n cap0) := by rw [← hW]; simp
  have p1 : W.cell? ⟨w.heap.size, 1, none⟩ = some (.slice A1 m cap1) := by rw [← hW]; simp
  have z1 : w.heap.size + 1 = W.heap.size := by rw [← hW]; simp
  clear hW
  rw [z1]
  go_loopw [3, 4] (fun v i wr => ∃ k : Nat, k ≤ n ∧ i = .int .i64 k ∧ Ints wr W.heap.size v (casts (up0 k)) ∧ Below W.heap.size W wr) (fun _ i _ => n - (intOf i).toNat)
  case atStart => exact ⟨0, Nat.zero_le _, rfl, Ints.empty W, (Below.refl _ _).alloc (Nat.le_refl _) _⟩
  case round =>
    obtain ⟨k, hk, rfl, hI, hb⟩ := hrel
    have pw := (hb.cell (p := ⟨w.heap.size, 0, none⟩) (show w.heap.size < W.heap.size by omega)).trans p0
    have HI := Lib.hid hI
    clear hI
    by_cases hkn : k < n
    · have HB := Lib.hid (specBit k (by omega))
      go_wp2_with (first
        | (go_at_call 162; refine (HB.out _).mono ?_; rintro e w2 ⟨rfl, rfl⟩)
        | (at_builtin; refine wpList_app_int rfl _ _ 69 rfl i0 Tryz.underlying69 hi hz0 hz1 hz2 W.heap.size _ _ rfl _ _ _ rfl HI.out rfl (by simp [casts, up0]; omega) hb.size ?_; intro v' w1 hI1 hB1))
      go_roundw
      case rel => exact ⟨k + 1, by omega, by go_num, by rw [up0_snoc, casts_snoc]; simpa using hI1, hb.trans (hB1 _ (Nat.le_refl _))⟩
      case measure => simp [intOf]; omega
    · obtain rfl : n = k := by omega
      obtain ⟨A, cap, rfl, hcc, hmm, hA⟩ := HI.out.form
      obtain ⟨g, rfl, hg1, hg2⟩ := hA (by simp [casts, up0]; omega)
      rw [casts_len, (UpOk.start n).1] at HI
      rw [casts_len, (UpOk.start n).1]
      go_wp2
      have hb1 := hb
      clear hb pw hA
      go_loopw [5] (fun i wr => ∃ j : Nat, j ≤ n ∧ i = .int .i64 j ∧ Ints wr W.heap.size (.slice (some ⟨g, 0, none⟩) n cap) (casts (upIter subs j (up0 n))) ∧ Below W.heap.size W wr) (fun i _ => n - (intOf i).toNat)
      case atStart => exact ⟨0, Nat.zero_le _, rfl, HI.out, hb1⟩
      case round =>
        obtain ⟨j, hj, rfl, hI, hb⟩ := hrel
        have pw := (hb.cell (p := ⟨w.heap.size, 0, none⟩) (show w.heap.size < W.heap.size by omega)).trans p0
        by_cases hjn : j < n
        · have HI2 := Lib.hid hI
          clear hI
          go_wp2
          have hb2 := hb
          clear hb pw
          go_loopw [6] (fun i wr => ∃ k : Nat, k ≤ m ∧ i = .int .i64 k ∧ Ints wr W.heap.size (.slice (some ⟨g, 0, none⟩) n cap) (casts ((subs.take k).foldl upSub (upIter subs j (up0 n)))) ∧ Below W.heap.size W wr) (fun i _ => m - (intOf i).toNat)
          case atStart => exact ⟨0, Nat.zero_le _, rfl, HI2.out, hb2⟩
          case round =>
            obtain ⟨k, hk, rfl, hI, hb⟩ := hrel
            have pw1 := (hb.cell (p := ⟨w.heap.size, 1, none⟩) (show w.heap.size < W.heap.size by omega)).trans p1
            have HI3 := Lib.hid hI
            clear hI
            by_cases hkm : k < m
            · obtain ⟨p, hp⟩ : ∃ p, subs[k]? = some p := ⟨_, List.getElem?_eq_getElem (by have := HM.out; omega)⟩
              obtain ⟨b, off, rfl, hS, hbz, hrow⟩ := Rep.at okSubR HOK.out.2 (E1.out.below (hbW.trans (hb.mono hbW.size))) hp
              obtain ⟨g0, g1, g2, g3⟩ := HIN.out p (List.mem_of_getElem? hp)
              obtain ⟨lo, hi'⟩ := p
              simp only [encSub, RepRow, and_true, fieldsOf, List.length_cons, List.length_nil, Nat.reduceAdd, Rep.lit_iff] at hrow
              obtain ⟨⟨_, c0, rfl⟩, ⟨_, c1, rfl⟩⟩ := hrow
              simp only at g0 g1 g2 g3
              obtain ⟨lo, rfl⟩ := Int.eq_ofNat_of_zero_le g0
              obtain ⟨hi', rfl⟩ := Int.eq_ofNat_of_zero_le g2
              have hup := (UpOk.iter HIN.out j (UpOk.start n)).foldl (HIN.out.take k)
              have HL := Lib.hid hup.1
              obtain ⟨r0, t0⟩ := hup.get (i := lo) (by omega)
              obtain ⟨r1, t1⟩ := hup.get (i := hi') (by omega)
              have HST := Lib.hid (foldl_take (f := upSub) hp (upIter subs j (up0 n)))
              generalize hG : (subs.take k).foldl upSub (upIter subs j (up0 n)) = G at *
              have d0 := HI3.out.cell (casts_get r0)
              have d1 := HI3.out.cell (casts_get r1)
              have f0 := HI3.out.frozen lo
              have hlt : g < wr.heap.size := (HI3.out.lt _ rfl).2
              have hb256 : 2 ^ n ≤ 2 ^ 8 := Nat.pow_le_pow_right (by omega) hn
              have HX : Hid (G.getD lo 0 < 4611686018427387904 ∧ G.getD hi' 0 < 4611686018427387904) := ⟨by omega, by omega⟩
              have HU : Hid (upSub G (lo, hi') = G.set lo (G.getD lo 0 ||| G.getD hi' 0)) := by show _ = _; simp [upSub]
              clear hup t0 t1 r0 r1 hG hb256 hp
              generalize G.getD lo 0 = x0 at *
              generalize G.getD hi' 0 = x1 at *
              go_wp2_with fail
              (refine wp_region_still_tail 27 (by kernel_rfl) (by kernel_rfl) ?_
               simp only [List.take_succ_cons, List.take_zero, List.drop_succ_cons, List.drop_zero]
               change wpStill _ _ (World.drew _) _ _ _
               repeat still_step
               refine wpStill_nil ?_
               change wpList _ _ _ _ _ (World.drew _))
              go_wp2
              go_roundw
              case rel =>
                refine ⟨k + 1, by omega, by go_num, ?_, (hb.drew.setCell (p := ⟨g, lo, none⟩) hg1 _)⟩
                rw [HST.out, HU.out, casts_set, bits_or HX.out.1 HX.out.2]
                have hln : lo < (casts G).length := by rw [casts_len, HL.out]; omega
                exact HI3.out.drew.set hln _
              case measure => simp [intOf]; omega
            · have HT : Hid (subs.take k = subs) := List.take_of_length_le (by have := HM.out; omega)
              go_wp2
              go_roundw
              case rel => exact ⟨j + 1, by omega, by go_num, by have := HI3.out; rw [HT.out] at this; exact this, hb⟩
              case measure => simp [intOf]; omega
        · obtain rfl : n = j := by omega
          have HI4 := Lib.hid hI
          clear hI
          go_wp2
          go_ret
          exact ⟨_, rfl, by rw [HF.out]; exact HI4.out.base_le hbW.size, hbW.trans (hb.mono hbW.size)⟩
end Go.Proofs.YtpbikjkjfojjiaaGreat
namespace Go.Proofs.YtpbikjkjfojjiaaGreat
open Go.RowKit Go.MapKept Go.ChangeMaps
def Seen (w : World) (b : Nat) (l : List ByteArray) : Prop := ∃ (es : Array MapEntry) (clock : Nat), w.heap[b]? = some (.map es clock) ∧ es.toList.map (fun e => (e.key, e.val)) = l.map (fun s => (Value.string s, Value.bool true))
def hasStr (l : List ByteArray) (s : ByteArray) : Bool := l.any (fun t => s.toList == t.toList)
theorem Seen.made (w : World) : Seen (w.alloc (.map #[] 0)) w.heap.size [] := ⟨#[], 0, heap_alloc_new w _, rfl⟩
theorem Seen.lt {w : World} {b : Nat} {l : List ByteArray} (h : Seen w b l) : b < w.heap.size := by
  obtain ⟨es, clock, h, _⟩ := h
  exact (Array.getElem?_eq_some_iff.1 h).1
theorem Seen.below {w w' : World} {b : Nat} {l : List ByteArray} (h : Seen w b l) (hb : Below w.heap.size w w') : Seen w' b l := by
  have hl := h.lt
  obtain ⟨es, clock, h1, h2⟩ := h
  exact ⟨es, clock, by rw [hb.block b hl]; exact h1, h2⟩
theorem find_seen (s : ByteArray) : ∀ (es : List MapEntry) (l : List ByteArray) (i : Nat), es.map (fun e => (e.key, e.val)) = l.map (fun s => (Value.string s, Value.bool true)) →
    (hasStr l s = true → ∃ j, Instr.findNow .string (.string s) es i = some (some (j, .bool true))) ∧ (hasStr l s = false → Instr.findNow .string (.string s) es i = some none)
  | [], [], i, _ => ⟨fun h => by simp [hasStr] at h, fun _ => rfl⟩
  | [], _ :: _, _, h => by simp at h
  | _ :: _, [], _, h => by simp at h
  | e :: es, t :: ts, i, h => by
    simp only [List.map_cons, List.cons.injEq, Prod.mk.injEq] at h
    obtain ⟨⟨h1, h2⟩, h3⟩ := h
    obtain ⟨ih1, ih2⟩ := find_seen s es ts (i + 1) h3
    simp only [Instr.findNow, h1, h2, Instr.sameNow, beq_toListBytes, hasStr, List.any_cons]
    cases he : (s.toList == t.toList)
    · simp only [Bool.false_or]
      exact ⟨ih1, ih2⟩
    · simp
theorem run_seen {P : Program} {w : World} {b : Nat} {l : List ByteArray} {t k e : TypeId} (h : Seen w b l) (ht : P.underlying t = some (.map k e)) (hk : P.underlying k = some .string) (hz : (zeroValue e).run P w = .ok (.bool false) w) (s : ByteArray) :
    (Instr.lookup t (.map (some b)) (.string s) false).run P w = .ok (.bool (hasStr l s)) w := by
  obtain ⟨es, clock, h1, h2⟩ := h
  obtain ⟨f1, f2⟩ := find_seen s es.toList l 0 h2
  have hc : ∀ em, (Instr.checkKey em 10000 k (.string s)).run P w = .ok () w := fun em => MapKept.run_checkKey hk (by simp [MapKept.IsKey]) em 9999
  cases hs : hasStr l s
  rotate_left
  · obtain ⟨j, hf⟩ := f1 hs
    have := MapKept.run_findKey (w := w) hk hf
    simp [Instr.lookup, run_underlying ht, MapKept.run_getObj_map h1, hc, this, hs]
  · have := MapKept.run_findKey (w := w) hk (f2 hs)
    simp [Instr.lookup, run_underlying ht, MapKept.run_getObj_map h1, hc, this, hs, hz]
theorem run_see {P : Program} {w : World} {b : Nat} {l : List ByteArray} {t k e : TypeId} (h : Seen w b l) (ht : P.underlying t = some (.map k e)) (hk : P.underlying k = some .string) {s : ByteArray} (hs : hasStr l s = false) :
    ∃ w', (Instr.mapUpdate t (.map (some b)) (.string s) (.bool true)).run P w = .ok () w' ∧ Seen w' b (l ++ [s]) ∧ Below b w w' ∧ w.heap.size ≤ w'.heap.size ∧ ∀ x, x ≠ b → w'.heap[x]? = w.heap[x]? := by
  have hl := h.lt
  obtain ⟨es, clock, h1, h2⟩ := h
  obtain ⟨f1, f2⟩ := find_seen s es.toList l 0 h2
  have hc : ∀ em, (Instr.checkKey em 10000 k (.string s)).run P w = .ok () w := fun em => MapKept.run_checkKey hk (by simp [MapKept.IsKey]) em 9999
  have := MapKept.run_findKey (w := w) hk (f2 hs)
  refine ⟨setBlock w b (.map (es.push { key := .string s, val := .bool true, born := clock }) (clock + 1)), ?_, ⟨_, _, heap_setBlock_same h1 _, by simp [h2]⟩, ⟨rfl, rfl, rfl, by simp [setBlock], fun x hx => heap_setBlock_other h1 _ (by omega)⟩, by simp [setBlock], fun x hx => heap_setBlock_other h1 _ hx⟩
  simp [Instr.mapUpdate, run_underlying ht, MapKept.run_getObj_map h1, hc, this, MapKept.run_setObj_map _ h1, setBlock]
end Go.Proofs.YtpbikjkjfojjiaaGreat
namespace Go.Proofs.YtpbikjkjfojjiaaGreat
open Go.RowKit
def nameB (n : Int) : Bool := decide (48 ≤ n ∧ n ≤ 57) || decide (65 ≤ n ∧ n ≤ 90) || decide (97 ≤ n ∧ n ≤ 122)
set_option maxHeartbeats 1000000 in
theorem implNameByte (n : Int) (w : World) : Calls Tryz.prog 167 #[.int .u8 n] w fun e w' => e = .returned (.bool (nameB n)) ∧ w = w' := by
  go_enter Tryz.func167, Tryz.ntmps167
  go_wp2
  all_goals
    go_ret
    exact ⟨ret_bool (by unfold nameB; rw [Bool.eq_iff_iff]; simp; try omega), rfl⟩
def byteAt (s : ByteArray) (i : Nat) : Int := if h : i < s.size then (s[i].toNat : Int) else 0
def nameFrom (s : ByteArray) (k : Nat) : Bool := (List.range' k (s.size - k)).all (fun i => nameB (byteAt s i) && !(i == 0 && decide (byteAt s i ≤ 57)))
def isName (s : ByteArray) : Bool := decide (1 ≤ s.size ∧ s.size ≤ 12) && !(s.toList == [105, 102]) && !(s.toList == [97, 110, 100]) && nameFrom s 0
theorem nameFrom_step {s : ByteArray} {k : Nat} (h : k < s.size) : nameFrom s k = ((nameB (s[k].toNat : Int) && !(k == 0 && decide ((s[k].toNat : Int) ≤ 57))) && nameFrom s (k + 1)) := by
  have eb : byteAt s k = (s[k].toNat : Int) := by unfold byteAt; rw [dif_pos h]
  rw [← eb]
  unfold nameFrom
  have e : s.size - k = (s.size - (k + 1)) + 1 := by omega
  rw [e, List.range'_succ, List.all_cons]
theorem nameFrom_end {s : ByteArray} {k : Nat} (h : s.size ≤ k) : nameFrom s k = true := by
  unfold nameFrom
  have e : s.size - k = 0 := by omega
  rw [e]
  rfl
theorem isName_bad {s : ByteArray} (h : s.size < 1 ∨ 12 < s.size ∨ s.toList = [105, 102] ∨ s.toList = [97, 110, 100]) : isName s = false := by
  unfold isName
  rcases h with h | h | h | h
  · have : ¬ (1 ≤ s.size ∧ s.size ≤ 12) := by omega
    simp [this]
  · have : ¬ (1 ≤ s.size ∧ s.size ≤ 12) := by omega
    simp [this]
  · simp [h]
  · simp [h]
set_option maxHeartbeats 1000000 in
theorem implIsName (s : ByteArray) (hs : s.size ≤ maxLen) (w : World) : Calls Tryz.prog 143 #[.string s] w fun e w' => e = .returned (.bool (isName s)) ∧ w = w' := by
  unfold maxLen at hs
  by_cases h0 : s.size < 1 ∨ 12 < s.size ∨ s.toList = [105, 102] ∨ s.toList = [97, 110, 100]
  · have HF := Lib.hid (isName_bad h0)
    have h0' : s.size < 1 ∨ 12 < s.size ∨ (s.toList == [105, 102]) = true ∨ (s.toList == [97, 110, 100]) = true := by simpa using h0
    clear h0
    rcases h0' with h | h | h | h <;>
    · go_enter Tryz.func143, Tryz.ntmps143
      go_wp2
      all_goals (go_ret; exact ⟨ret_bool HF.out.symm, rfl⟩)
  have h1 : 1 ≤ s.size := by omega
  have h2 : s.size ≤ 12 := by omega
  have h3 : (s.toList == [105, 102]) = false := by simp; intro h; exact h0 (.inr (.inr (.inl h)))
  have h4 : (s.toList == [97, 110, 100]) = false := by simp; intro h; exact h0 (.inr (.inr (.inr h)))
  have HF : Hid (isName s = nameFrom s 0) := by
    show isName s = _
    unfold isName
    simp [h1, h2, h3, h4]
  clear h0 
  go_enter Tryz.func143, Tryz.ntmps143
  go_wp2
  go_loopw [3] (fun i wr => ∃ k : Nat, k ≤ s.size ∧ i = .int .i64 k ∧ nameFrom s 0 = nameFrom s k ∧ w = wr) (fun i _ => s.size - (intOf i).toNat)
  case atStart => exact ⟨0, Nat.zero_le _, rfl, rfl, rfl⟩
  case round =>
    obtain ⟨k, hk, rfl, hz, rfl⟩ := hrel
    have HZ := Lib.hid hz
    clear hz
    by_cases hkm : k < s.size
    · have HS := Lib.hid (nameFrom_step hkm)
      go_wp2_with fail
      refine (implNameByte _ _).mono ?_
      rintro e w2 ⟨rfl, rfl⟩
      generalize nameB (s[k].toNat : Int) = B at HS ⊢
      cases B
      · go_wp2
        go_ret
        exact ⟨ret_bool (by rw [HF.out, HZ.out, HS.out]; rfl), rfl⟩
      · by_cases hk0 : k = 0
        · have hk1 : ((k : Int) == 0) = true := by simp; exact hk0
          have HK : Hid ((k == 0) = true) := by show _ = _; simpa using hk0
          clear hk0
          by_cases h9 : (s[k].toNat : Int) ≤ 57
          · go_wp2
            go_ret
            exact ⟨ret_bool (by rw [HF.out, HZ.out, HS.out, HK.out, decide_eq_true h9]; rfl), rfl⟩
          · go_wp2
            go_roundw
            case rel => exact ⟨k + 1, by omega, by go_num, by rw [HZ.out, HS.out, HK.out, decide_eq_false (by omega)]; simp, trivial⟩
            case measure => simp [intOf]; omega
        · have hk1 : ((k : Int) == 0) = false := by simp; exact hk0
          have HK : Hid ((k == 0) = false) := by show _ = _; simpa using hk0
          go_wp2
          go_roundw
          case rel => exact ⟨k + 1, by omega, by go_num, by rw [HZ.out, HS.out, HK.out]; simp, trivial⟩
          case measure => simp [intOf]; omega
    · go_wp2
      go_ret
      exact ⟨ret_bool (by rw [HF.out, HZ.out, nameFrom_end (by omega)]), rfl⟩
set_option maxHeartbeats 2000000 in
theorem specIsName (s : ByteArray) (hs : s.size ≤ maxLen) (w : World) : Calls Tryz.prog 93 #[.string s] w fun e w' => e = .returned (.bool (isName s)) ∧ w = w' := by
  unfold maxLen at hs
  by_cases h0 : s.size < 1 ∨ 12 < s.size ∨ s.toList = [105, 102] ∨ s.toList = [97, 110, 100]
  · have HF := Lib.hid (isName_bad h0)
    have h0' : s.size < 1 ∨ 12 < s.size ∨ (s.toList == [105, 102]) = true ∨ (s.toList == [97, 110, 100]) = true := by simpa using h0
    clear h0
    rcases h0' with h | h | h | h <;>
    · go_enter Tryz.func93, Tryz.ntmps93
      go_wp2
      all_goals (go_ret; exact ⟨ret_bool HF.out.symm, rfl⟩)
  have h1 : 1 ≤ s.size := by omega
  have h2 : s.size ≤ 12 := by omega
  have h3 : (s.toList == [105, 102]) = false := by simp; intro h; exact h0 (.inr (.inr (.inl h)))
  have h4 : (s.toList == [97, 110, 100]) = false := by simp; intro h; exact h0 (.inr (.inr (.inr h)))
  have HF : Hid (isName s = nameFrom s 0) := by
    show isName s = _
    unfold isName
    simp [h1, h2, h3, h4]
  have HS0 := Lib.hid (nameFrom_step (s := s) (k := 0) h1)
  clear h0 
  by_cases hfirst : (97 ≤ (s[0].toNat : Int) ∧ (s[0].toNat : Int) ≤ 122) ∨ (65 ≤ (s[0].toNat : Int) ∧ (s[0].toNat : Int) ≤ 90)
  case neg =>
    have HG : Hid (isName s = false) := by
      show isName s = false
      rw [HF.out, HS0.out]
      have : (nameB (s[0].toNat : Int) && !(0 == 0 && decide ((s[0].toNat : Int) ≤ 57))) = false := by
        unfold nameB
        rw [← Bool.not_eq_true]
        simp
        omega
      rw [this]
      rfl
    go_enter Tryz.func93, Tryz.ntmps93
    go_wp2
    all_goals first
      | (go_ret; exact ⟨ret_bool HG.out.symm, rfl⟩)
      | (exfalso; simp at *; omega)
  rcases hfirst with ⟨f1, f2⟩ | ⟨f1, f2⟩ <;>
  · go_enter Tryz.func93, Tryz.ntmps93
    go_wp2
    go_loopw [3] (fun i wr => ∃ k : Nat, k ≤ s.size ∧ i = .int .i64 k ∧ nameFrom s 0 = nameFrom s k ∧ w = wr) (fun i _ => s.size - (intOf i).toNat)
    case atStart => exact ⟨0, Nat.zero_le _, rfl, rfl, rfl⟩
    case round =>
      obtain ⟨k, hk, rfl, hz, rfl⟩ := hrel
      have HZ := Lib.hid hz
      clear hz
      by_cases hkm : k < s.size
      · have HS := Lib.hid (nameFrom_step hkm)
        cases hB : nameB (s[k].toNat : Int)
        · have HS' : Hid (isName s = false) := by show _ = _; rw [HF.out, HZ.out, HS.out, hB]; rfl
          have HB := Lib.hid hB
          clear hB HS
          go_wp2
          all_goals first
            | (go_ret; exact ⟨ret_bool HS'.out.symm, rfl⟩)
            | (exfalso; have := HB.out; unfold nameB at this; simp at *; omega)
        · have HS' : Hid (nameFrom s k = nameFrom s (k + 1)) := by
            show _ = _
            rw [HS.out, hB]
            by_cases hk0 : k = 0
            · subst hk0
              have : ¬ ((s[0].toNat : Int) ≤ 57) := by omega
              rw [decide_eq_false this]
              rfl
            · have : (k == 0) = false := by simpa using hk0
              rw [this]
              rfl
          have HB : ((s[k].toNat : Int) < 65 ∧ 48 ≤ (s[k].toNat : Int) ∧ (s[k].toNat : Int) ≤ 57) ∨ ((s[k].toNat : Int) < 97 ∧ 65 ≤ (s[k].toNat : Int) ∧ (s[k].toNat : Int) ≤ 90) ∨ (97 ≤ (s[k].toNat : Int) ∧ (s[k].toNat : Int) ≤ 122) := by
            unfold nameB at hB
            simp at hB
            omega
          clear hB HS
          rcases HB with ⟨b0, b1, b2⟩ | ⟨b0, b1, b2⟩ | ⟨b1, b2⟩ <;>
          · go_wp2
            go_roundw
            case rel => exact ⟨k + 1, by omega, by go_num, by rw [HZ.out, HS'.out], trivial⟩
            case measure => simp [intOf]; omega
      · go_wp2
        go_ret
        exact ⟨ret_bool (by rw [HF.out, HZ.out, nameFrom_end (by omega)]), rfl⟩
end Go.Proofs.YtpbikjkjfojjiaaGreat
namespace Go.Proofs.YtpbikjkjfojjiaaGreat
open Go.RowKit
def SubOk (n : Nat) (p : Int × Int) : Prop := 0 ≤ p.1 ∧ p.1 < n ∧ 0 ≤ p.2 ∧ p.2 < n ∧ p.1 ≠ p.2
def NameOk (names : List ByteArray) (i : Nat) : Prop := ∀ x, names[i]? = some x → isName x = true ∧ hasStr (names.take i) x = false
def PairOk (u : List Nat) (i k : Nat) : Prop := ¬ (i ≠ k ∧ (u.getD i 0).testBit k = true ∧ (u.getD k 0).testBit i = true)
structure SortsOk (s : Srt) : Prop where
  n1 : 1 ≤ s.names.length
  n8 : s.names.length ≤ 8
  m16 : s.subs.length ≤ 16
  names : ∀ i, i < s.names.length → NameOk s.names i
  subs : ∀ p ∈ s.subs, SubOk s.names.length p
  pairs : ∀ i k, i < s.names.length → k < s.names.length → PairOk (up s) i k
open Classical in
noncomputable def isSorts (s : Srt) : Bool := decide (SortsOk s)
theorem isSorts_true {s : Srt} (h : SortsOk s) : isSorts s = true := by unfold isSorts; simp [h]
theorem isSorts_false {s : Srt} (h : ¬ SortsOk s) : isSorts s = false := by unfold isSorts; simp [h]
theorem SortsOk.subsIn {s : Srt} (h : ∀ p ∈ s.subs, SubOk s.names.length p) : SubsIn s.names.length s.subs := fun p hp => ⟨(h p hp).1, (h p hp).2.1, (h p hp).2.2.1, (h p hp).2.2.2.1⟩
theorem and_bit {x k : Nat} (hx : x < 4611686018427387904) (hk : k < 62) : (bits .and .i64 (x : Int) (wrap64 (2 ^ k)) != 0) = x.testBit k ∧ (bits .and .i64 (x : Int) (wrap64 (2 ^ k)) == 0) = !x.testBit k := by
  rw [shl_one hk, bits_and hx (pow_lt62 hk), ← testBit_and]
  generalize x &&& 2 ^ k = y
  constructor
  · rw [Bool.eq_iff_iff]
    simp
  · rw [Bool.eq_iff_iff]
    simp
theorem ne_int {i k : Nat} (h : i ≠ k) : ((i : Int) != (k : Int)) = true ∧ ((i : Int) == (k : Int)) = false := by
  have : (i : Int) ≠ (k : Int) := by omega
  simp [this]
theorem eq_int {i k : Nat} (h : i = k) : ((i : Int) != (k : Int)) = false ∧ ((i : Int) == (k : Int)) = true := by
  subst h
  simp
def sortsC (f : FuncId) : Prop := ∀ (s : Srt) (S : Nat → Prop) (us : List Value) (w : World), okSrt s → RepVals w S (encSrt s) us →
  Calls Tryz.prog f #[.agg us.toArray] w fun e w' => e = .returned (.bool (isSorts s)) ∧ Below w.heap.size w w'
theorem zero_bool (w : World) : (zeroValue 4).run Tryz.prog w = .ok (.bool false) w := by kernel_rfl
set_option maxHeartbeats 2000000 in
set_option maxRecDepth 100000 in
theorem implIsSorts : sortsC 146 := by
  intro s S us w hok hv
  obtain ⟨names, subs⟩ := s
  have hv0 := hv
  simp only [encSrt] at hv
  obtain ⟨v0, v1, rfl, e0, e1⟩ := repVals_Sorts hv
  obtain ⟨A0, cap0, rfl, hc0, hm0⟩ := e0.shape
  obtain ⟨A1, cap1, rfl, hc1, hm1⟩ := e1.shape
  obtain ⟨ic, hci, _, hcs, _⟩ := info_parts info_Sub'
  have HOK := Lib.hid hok
  have HV0 := Lib.hid hv0
  have E0 := Lib.hid e0
  have E1 := Lib.hid e1
  have HT := Lib.hid (isSorts_true (s := ⟨names, subs⟩))
  have HF := Lib.hid (isSorts_false (s := ⟨names, subs⟩))
  clear hv hv0 e0 e1 hok
  generalize hN : names.length = n at *
  generalize hM : subs.length = m at *
  have HN := Lib.hid hN
  have HM := Lib.hid hM
  clear hM hN
  unfold maxLen at hm0 hm1
  by_cases h1 : n < 1 ∨ 8 < n ∨ 16 < m
  · have HR : Hid (isSorts ⟨names, subs⟩ = false) := HF.out (fun h => by
      have := h.n1; have := h.n8; have := h.m16
      have := HN.out; have := HM.out
      simp only at *
      omega)
    rcases h1 with h1 | h1 | h1 <;>
    · go_enter Tryz.func146, Tryz.ntmps146
      go_wp2
      all_goals (go_ret; exact ⟨ret_bool HR.out.symm, (Below.refl _ _).alloc (Nat.le_refl _) _⟩)
  have hn1 : 1 ≤ n := by omega
  have hn8 : n ≤ 8 := by omega
  have hm16 : m ≤ 16 := by omega
  clear h1
  go_enter Tryz.func146, Tryz.ntmps146
  have hmm := @run_makeMap Tryz.prog
  go_wp2
  clear hmm
  generalize hW : w.alloc _ = W
  have hbW : Below w.heap.size w W := by rw [← hW]; exact (Below.refl _ _).alloc (Nat.le_refl _) _
  have p0 : W.cell? ⟨w.heap.size, 0, none⟩ = some (.slice A0 n cap0) := by rw [← hW]; simp
  have p1 : W.cell? ⟨w.heap.size, 1, none⟩ = some (.slice A1 m cap1) := by rw [← hW]; simp
  have z1 : w.heap.size + 1 = W.heap.size := by rw [← hW]; simp
  clear hW
  rw [z1]
  go_loopw [31] (fun i wr => ∃ k : Nat, k ≤ n ∧ i = .int .i64 k ∧ (∀ j, j < k → NameOk names j) ∧ Seen wr W.heap.size (names.take k) ∧ Below W.heap.size W wr) (fun i _ => n - (intOf i).toNat)
  case atStart => exact ⟨0, Nat.zero_le _, rfl, fun j hj => absurd hj (by omega), Seen.made W, (Below.refl _ _).alloc (Nat.le_refl _) _⟩
  case round =>
    obtain ⟨k, hk, rfl, hnames, hseen, hb⟩ := hrel
    have HNM := Lib.hid hnames
    have HSN := Lib.hid hseen
    clear hnames hseen
    by_cases hkn : k < n
    · obtain ⟨x, hx⟩ : ∃ x, names[k]? = some x := ⟨_, List.getElem?_eq_getElem (by have := HN.out; omega)⟩
      obtain ⟨b, off, rfl, hS, hbz, hrow⟩ := Rep.at okStrR HOK.out.1 (E0.out.below (hbW.trans (hb.mono hbW.size))) hx
      simp only [encStr, RepRow, and_true, fieldsOf, List.length_cons, List.length_nil, Nat.reduceAdd, Rep.lit_iff, Nat.zero_add, Nat.mul_one] at hrow
      obtain ⟨_, c0, rfl⟩ := hrow
      have HX := Lib.hid hx
      have HXS := Lib.hid (HOK.out.1 x (List.mem_of_getElem? hx))
      clear hx
      have hlk := run_seen HSN.out Tryz.underlying200 Tryz.underlying9 (zero_bool wr) x
      cases hh : hasStr (names.take k) x
      · rw [hh] at hlk
        cases hin : isName x
        · have HR : Hid (isSorts ⟨names, subs⟩ = false) := HF.out (fun h => by have := (h.names k (by have := HN.out; simp only; omega) x HX.out).1; rw [hin] at this; cases this)
          have HIN := Lib.hid hin
          clear hh hin
          go_wp2_with (go_at_call 143; refine (implIsName x HXS.out _).mono ?_; rw [HIN.out]; rintro e w2 ⟨rfl, rfl⟩)
          go_ret
          exact ⟨ret_bool HR.out.symm, hbW.trans (hb.mono hbW.size)⟩
        · obtain ⟨w', hup, hseen', hbel, hsz, hoth⟩ := run_see HSN.out Tryz.underlying200 Tryz.underlying9 hh
          have HIN := Lib.hid hin
          have HH := Lib.hid hh
          have HO := Lib.hid hoth
          have HS' := Lib.hid hseen'
          clear hh hin hoth hseen'
          go_wp2_with (go_at_call 143; refine (implIsName x HXS.out _).mono ?_; rw [HIN.out]; rintro e w2 ⟨rfl, rfl⟩)
          go_roundw
          case rel =>
            refine ⟨k + 1, by omega, by go_num, fun j hj => ?_, ?_, hb.trans hbel⟩
            · by_cases hjk : j < k
              · exact HNM.out j hjk
              · obtain rfl : j = k := by omega
                intro y hy
                rw [HX.out] at hy
                injection hy with hy
                subst hy
                exact ⟨HIN.out, HH.out⟩
            · rw [take_snoc HX.out]
              exact HS'.out
          case measure => simp [intOf]; omega
      · rw [hh] at hlk
        have HR : Hid (isSorts ⟨names, subs⟩ = false) := HF.out (fun h => by have := (h.names k (by have := HN.out; simp only; omega) x HX.out).2; rw [hh] at this; cases this)
        clear hh
        go_wp2
        go_ret
        exact ⟨ret_bool HR.out.symm, hbW.trans (hb.mono hbW.size)⟩
    · obtain rfl : n = k := by omega
      have pw := (hb.cell (p := ⟨w.heap.size, 1, none⟩) (show w.heap.size < W.heap.size by omega)).trans p1
      have hb1 := hb
      go_wp2
      clear hb pw
      go_loopw [49] (fun i wr => ∃ k : Nat, k ≤ m ∧ i = .int .i64 k ∧ (∀ j, j < k → ∀ p, subs[j]? = some p → SubOk n p) ∧ Below W.heap.size W wr) (fun i _ => m - (intOf i).toNat)
      case atStart => exact ⟨0, Nat.zero_le _, rfl, fun j hj => absurd hj (by omega), hb1⟩
      case round =>
        obtain ⟨k, hk, rfl, hsubs, hb⟩ := hrel
        have HSB := Lib.hid hsubs
        clear hsubs
        by_cases hkm : k < m
        · obtain ⟨p, hp⟩ : ∃ p, subs[k]? = some p := ⟨_, List.getElem?_eq_getElem (by have := HM.out; omega)⟩
          obtain ⟨b, off, rfl, hS, hbz, hrow⟩ := Rep.at okSubR HOK.out.2 (E1.out.below (hbW.trans (hb.mono hbW.size))) hp
          obtain ⟨lo, hi'⟩ := p
          simp only [encSub, RepRow, and_true, fieldsOf, List.length_cons, List.length_nil, Nat.reduceAdd, Rep.lit_iff] at hrow
          obtain ⟨⟨_, c0, rfl⟩, ⟨_, c1, rfl⟩⟩ := hrow
          have HP := Lib.hid hp
          clear hp
          by_cases hsub : SubOk n (lo, hi')
          · have HS := Lib.hid hsub
            obtain ⟨s0, s1, s2, s3, s4⟩ := hsub
            simp only at s0 s1 s2 s3 s4
            have s5 : (lo == hi') = false := by simpa using s4
            clear s4
            go_wp2_with (refine wpList_store_new rfl 192 _ _ rfl _ _ _ rfl _ rfl (by simp) [.int .i64 lo, .int .i64 hi'] rfl ic hci hcs rfl (by simp [Value.oneCell']) ?_)
            go_roundw
            case rel =>
              refine ⟨k + 1, by omega, by go_num, fun j hj q hq => ?_, hb.alloc hb.size _⟩
              by_cases hjk : j < k
              · exact HSB.out j hjk q hq
              · obtain rfl : j = k := by omega
                rw [HP.out] at hq
                injection hq with hq
                subst hq
                exact HS.out
            case measure => simp [intOf]; omega
          · have HR : Hid (isSorts ⟨names, subs⟩ = false) := HF.out (fun h => hsub (by have := h.subs (lo, hi') (List.mem_of_getElem? HP.out); rw [← HN.out]; exact this))
            have HS : Hid (¬ SubOk n (lo, hi')) := hsub
            clear hsub
            go_wp2_with (refine wpList_store_new rfl 192 _ _ rfl _ _ _ rfl _ rfl (by simp) [.int .i64 lo, .int .i64 hi'] rfl ic hci hcs rfl (by simp [Value.oneCell']) ?_)
            all_goals first
              | (go_ret; exact ⟨ret_bool HR.out.symm, hbW.trans ((hb.alloc hb.size _).mono hbW.size)⟩)
              | (exfalso; apply HS.out; unfold SubOk; simp at *; omega)
        · have HSUB : Hid (∀ p ∈ subs, SubOk n p) := fun p hp => by
            obtain ⟨j, hj, e⟩ := List.getElem_of_mem hp
            exact HSB.out j (by have := HM.out; omega) p (by rw [List.getElem?_eq_getElem hj, e])
          clear HSB
          have pw0 := (hb.cell (p := ⟨w.heap.size, 0, none⟩) (show w.heap.size < W.heap.size by omega)).trans p0
          have pw1 := (hb.cell (p := ⟨w.heap.size, 1, none⟩) (show w.heap.size < W.heap.size by omega)).trans p1
          go_wp2_with fail
          refine (implSortsAbove ⟨names, subs⟩ S _ _ HOK.out (HV0.out.below (hbW.trans (hb.mono hbW.size))) (by have := HN.out; simp only; omega) (by have := HN.out; simp only; omega) (SortsOk.subsIn (s := ⟨names, subs⟩) (by have := HN.out; simp only; rw [this]; exact HSUB.out))).mono ?_
          rintro e w2 ⟨v, rfl, hI, hb2⟩
          have HUP := Lib.hid (up_ok (s := ⟨names, subs⟩) (SortsOk.subsIn (s := ⟨names, subs⟩) (by have := HN.out; simp only; rw [this]; exact HSUB.out)))
          rw [show (⟨names, subs⟩ : Srt).names.length = n from HN.out] at HUP
          have HT' : Hid ((∀ i k, i < n → k < n → PairOk (up ⟨names, subs⟩) i k) → isSorts ⟨names, subs⟩ = true) := fun h => HT.out ⟨by have := HN.out; simp only; omega, by have := HN.out; simp only; omega, by have := HM.out; simp only; omega, by have := HN.out; simp only; rw [this]; exact HNM.out, by have := HN.out; simp only; rw [this]; exact HSUB.out, by have := HN.out; simp only; rw [this]; exact h⟩
          have HF' : Hid ((∃ i k, i < n ∧ k < n ∧ ¬ PairOk (up ⟨names, subs⟩) i k) → isSorts ⟨names, subs⟩ = false) := fun ⟨i, k, hi, hk, hp⟩ => HF.out (fun h => hp (h.pairs i k (by have := HN.out; simp only; omega) (by have := HN.out; simp only; omega)))
          generalize up ⟨names, subs⟩ = u at hI HUP HT' HF'
          have hwb : Below w.heap.size w w2 := hbW.trans ((hb.trans (hb2.mono hb.size)).mono hbW.size)
          obtain ⟨A, cap, rfl, hcc, hmm, hA⟩ := hI.form
          rw [casts_len, HUP.out.1] at hA hcc
          obtain ⟨g, rfl, hg1, hg2⟩ := hA (by omega)
          have HI : Hid (Ints w2 wr.heap.size (Value.slice (some { block := g, off := 0 }) n cap) (casts u)) := by rw [casts_len, HUP.out.1] at hI; exact hI
          rw [casts_len, HUP.out.1]
          clear hI hA HT HF HSN HNM HSUB HV0 E0 E1 pw0 pw1
          unfold maxLen at hmm
          have hb256 : 2 ^ n ≤ 2 ^ 8 := Nat.pow_le_pow_right (by omega) hn8
          have HC : Hid (∀ i, i < n → w2.cell? ⟨g, i, none⟩ = some (.int .i64 ((u.getD i 0 : Nat) : Int)) ∧ u.getD i 0 < 4611686018427387904) := fun i hi => by
            obtain ⟨q1, q2⟩ := HUP.out.get hi
            exact ⟨HI.out.cell (casts_get q1), by omega⟩
          clear hb256
          go_wp2
          go_loopw [85] (fun i wx => ∃ j : Nat, j ≤ n ∧ i = .int .i64 j ∧ (∀ a k, a < j → k < n → PairOk u a k) ∧ Below w2.heap.size w2 wx) (fun i _ => n - (intOf i).toNat)
          case atStart => exact ⟨0, Nat.zero_le _, rfl, fun a k h => absurd h (by omega), Below.refl _ _⟩
          case round =>
            obtain ⟨j, hj, rfl, hpairs, hbx⟩ := hrel
            have HPA := Lib.hid hpairs
            clear hpairs
            by_cases hjn : j < n
            · go_wp2
              have hbx0 := hbx
              clear hbx
              go_loopw [90] (fun i wx => ∃ k : Nat, k ≤ n ∧ i = .int .i64 k ∧ (∀ q, q < k → PairOk u j q) ∧ Below w2.heap.size w2 wx) (fun i _ => n - (intOf i).toNat)
              case atStart => exact ⟨0, Nat.zero_le _, rfl, fun q h => absurd h (by omega), hbx0⟩
              case round =>
                obtain ⟨k, hk, rfl, hpk, hbx⟩ := hrel
                have HPK := Lib.hid hpk
                clear hpk
                by_cases hkn : k < n
                · obtain ⟨c0, x0⟩ := HC.out j hjn
                  obtain ⟨c1, x1⟩ := HC.out k hkn
                  have d0 := (hbx.cell (p := ⟨g, j, none⟩) hg2).trans c0
                  have d1 := (hbx.cell (p := ⟨g, k, none⟩) hg2).trans c1
                  obtain ⟨f0, f0'⟩ := and_bit (k := k) x0 (by omega)
                  obtain ⟨f1, f1'⟩ := and_bit (k := j) x1 (by omega)
                  have HP : Hid (PairOk u j k ↔ ¬ (j ≠ k ∧ (u.getD j 0).testBit k = true ∧ (u.getD k 0).testBit j = true)) := Iff.rfl
                  have HF2 : Hid (¬ PairOk u j k → isSorts ⟨names, subs⟩ = false) := fun h => HF'.out ⟨j, k, hjn, hkn, h⟩
                  clear c0 c1 x0 x1
                  have HNX : Hid (PairOk u j k → ∀ q, q < k + 1 → PairOk u j q) := fun h q hq => by
                    by_cases hqk : q < k
                    · exact HPK.out q hqk
                    · obtain rfl : q = k := by omega
                      exact h
                  generalize u.getD j 0 = x at *
                  generalize u.getD k 0 = y at *
                  by_cases hjk : j = k
                  · obtain ⟨n0, n1⟩ := eq_int hjk
                    have HO : Hid (PairOk u j k) := HP.out.2 (fun h => h.1 hjk)
                    clear hjk f0 f0' f1 f1'
                    go_wp2_with fail
                    go_quiet (fail)
                    go_wp2
                    go_roundw
                    case rel => exact ⟨k + 1, by omega, by go_num, HNX.out HO.out, below_drewN hbx _⟩
                    case measure => simp [intOf]; omega
                  obtain ⟨n0, n1⟩ := ne_int hjk
                  cases hA1 : x.testBit k
                  · rw [hA1] at f0 f0'
                    have HO : Hid (PairOk u j k) := HP.out.2 (fun h => by rw [hA1] at h; exact absurd h.2.1 (by simp))
                    clear hjk hA1 f1 f1'
                    go_wp2_with fail
                    go_quiet (fail)
                    go_wp2
                    go_roundw
                    case rel => exact ⟨k + 1, by omega, by go_num, HNX.out HO.out, below_drewN hbx _⟩
                    case measure => simp [intOf]; omega
                  cases hA2 : y.testBit j
                  · rw [hA1] at f0 f0'
                    rw [hA2] at f1 f1'
                    have HO : Hid (PairOk u j k) := HP.out.2 (fun h => by rw [hA2] at h; exact absurd h.2.2 (by simp))
                    clear hjk hA1 hA2
                    go_wp2_with fail
                    go_quiet (fail)
                    go_wp2
                    go_roundw
                    case rel => exact ⟨k + 1, by omega, by go_num, HNX.out HO.out, below_drewN hbx _⟩
                    case measure => simp [intOf]; omega
                  · rw [hA1] at f0 f0'
                    rw [hA2] at f1 f1'
                    have HO : Hid (isSorts ⟨names, subs⟩ = false) := HF2.out (fun h => HP.out.1 h ⟨hjk, hA1, hA2⟩)
                    clear hjk hA1 hA2
                    go_wp2_with fail
                    go_quiet (fail)
                    go_wp2
                    go_ret
                    exact ⟨ret_bool HO.out.symm, hwb.trans ((below_drewN hbx _).mono hwb.size)⟩
                · have HNX : Hid (∀ a k, a < j + 1 → k < n → PairOk u a k) := fun a q ha hq => by
                    by_cases haj : a < j
                    · exact HPA.out a q haj hq
                    · obtain rfl : a = j := by omega
                      exact HPK.out q (by omega)
                  go_wp2
                  go_roundw
                  case rel => exact ⟨j + 1, by omega, by go_num, HNX.out, hbx⟩
                  case measure => simp [intOf]; omega
            · obtain rfl : n = j := by omega
              have HO := Lib.hid (HT'.out (fun i k hi hk => HPA.out i k hi hk))
              go_wp2
              go_ret
              exact ⟨ret_bool HO.out.symm, hwb.trans (hbx.mono hwb.size)⟩
end Go.Proofs.YtpbikjkjfojjiaaGreat
namespace Go.Proofs.YtpbikjkjfojjiaaGreat
open Go.RowKit
theorem quietC {P : Program} {f : FuncId} {args : Array Value} {v : Value} {w : World} (h : ∀ n, Calls P f args (w.drewN n) fun e w' => e = .returned v ∧ w.drewN n = w') (n : Nat) : Calls P f args (w.drewN n) fun e w'' => e = .returned v ∧ ∃ m, w'' = w.drewN m :=
  (h n).mono (fun e w2 hh => ⟨hh.1, n, hh.2.symm⟩)
theorem RepRows.take {w : World} {S : Nat → Prop} {b : Nat} : ∀ (rows : List (List C)) (off i : Nat), RepRows w S b off rows → RepRows w S b off (rows.take i)
  | [], off, i, h => by simp [RepRows]
  | r :: rs, off, 0, h => by simp [RepRows]
  | r :: rs, off, i + 1, h => by
    simp only [List.take_succ_cons, RepRows] at h ⊢
    exact ⟨h.1, RepRows.take rs _ i h.2⟩
theorem Rep.take {w : World} {S : Nat → Prop} {rows : List (List C)} {A : Option Addr} {n cap i : Nat} (h : Rep w S (.sl rows) (.slice A n cap)) (hi : i ≤ n) : Rep w S (.sl (rows.take i)) (.slice A i cap) := by
  simp only [Rep] at h ⊢
  obtain ⟨A', n', cap', hv, hn, hc, hm, hr⟩ := h
  injection hv with h1 h2 h3
  subst h1 h2 h3
  refine ⟨A, i, cap, rfl, by simp; omega, by omega, hm, fun h0 => ?_⟩
  obtain ⟨b, off, hA, hs, hb, hrows⟩ := hr (by omega)
  exact ⟨b, off, hA, hs, hb, RepRows.take rows off i hrows⟩
theorem beq_sym {a b : ByteArray} : (a.toList == b.toList) = (b.toList == a.toList) := by
  rw [Bool.eq_iff_iff]
  simp
  exact ⟨fun h => h.symm, fun h => h.symm⟩
theorem hasStr_step {l : List ByteArray} {s x : ByteArray} {k : Nat} (h : l[k]? = some x) : hasStr (l.drop k) s = ((x.toList == s.toList) || hasStr (l.drop (k + 1)) s) := by
  obtain ⟨hl, hx⟩ := List.getElem?_eq_some_iff.1 h
  rw [List.drop_eq_getElem_cons hl, hx, hasStr, List.any_cons, beq_sym]
  rfl
set_option maxHeartbeats 1000000 in
theorem specHasStr (l : List ByteArray) (s : ByteArray) (S : Nat → Prop) (v : Value) (w : World) (hok : ∀ x ∈ l, okStr x) (hv : Rep w S (.sl (l.map encStr)) v) :
    Calls Tryz.prog 132 #[v, .string s] w fun e w' => e = .returned (.bool (hasStr l s)) ∧ w = w' := by
  obtain ⟨A, cap, rfl, hc, hm⟩ := hv.shape
  have HOK := Lib.hid hok
  have HV := Lib.hid hv
  clear hv hok
  generalize hN : l.length = n at *
  have HN := Lib.hid hN
  clear hN
  unfold maxLen at hm
  go_enter Tryz.func132, Tryz.ntmps132
  go_wp2
  go_loopw [5] (fun i wr => ∃ k : Nat, k ≤ n ∧ i = .int .i64 k ∧ hasStr l s = hasStr (l.drop k) s ∧ w = wr) (fun i _ => n - (intOf i).toNat)
  case atStart => exact ⟨0, Nat.zero_le _, rfl, rfl, rfl⟩
  case round =>
    obtain ⟨k, hk, rfl, hz, rfl⟩ := hrel
    have HZ := Lib.hid hz
    clear hz
    by_cases hkn : k < n
    · obtain ⟨x, hx⟩ : ∃ x, l[k]? = some x := ⟨_, List.getElem?_eq_getElem (by have := HN.out; omega)⟩
      obtain ⟨b, off, rfl, hS, hbz, hrow⟩ := Rep.at okStrR HOK.out HV.out hx
      simp only [encStr, RepRow, and_true, fieldsOf, List.length_cons, List.length_nil, Nat.reduceAdd, Rep.lit_iff, Nat.zero_add, Nat.mul_one] at hrow
      obtain ⟨_, c0, rfl⟩ := hrow
      have HS := Lib.hid (hasStr_step (s := s) hx)
      clear hx
      cases hq : (x.toList == s.toList)
      · have HQ := Lib.hid hq
        go_wp2
        go_roundw
        case rel => exact ⟨k + 1, by omega, by go_num, by rw [HZ.out, HS.out, HQ.out]; rfl, trivial⟩
        case measure => simp [intOf]; omega
      · have HQ := Lib.hid hq
        go_wp2
        go_ret
        exact ⟨ret_bool (by rw [HZ.out, HS.out, HQ.out]; rfl), rfl⟩
    · have HD : Hid (l.drop k = []) := List.drop_eq_nil_of_le (by have := HN.out; omega)
      go_wp2
      go_ret
      exact ⟨ret_bool (by rw [HZ.out, HD.out]; rfl), rfl⟩
set_option maxHeartbeats 2000000 in
set_option maxRecDepth 100000 in
theorem specIsSorts : sortsC 92 := by
  intro s S us w hok hv
  obtain ⟨names, subs⟩ := s
  have hv0 := hv
  simp only [encSrt] at hv
  obtain ⟨v0, v1, rfl, e0, e1⟩ := repVals_Sorts hv
  obtain ⟨A0, cap0, rfl, hc0, hm0⟩ := e0.shape
  obtain ⟨A1, cap1, rfl, hc1, hm1⟩ := e1.shape
  have HOK := Lib.hid hok
  have HV0 := Lib.hid hv0
  have E0 := Lib.hid e0
  have E1 := Lib.hid e1
  have HT := Lib.hid (isSorts_true (s := ⟨names, subs⟩))
  have HF := Lib.hid (isSorts_false (s := ⟨names, subs⟩))
  clear hv hv0 e0 e1 hok
  generalize hN : names.length = n at *
  generalize hM : subs.length = m at *
  have HN := Lib.hid hN
  have HM := Lib.hid hM
  clear hM hN
  unfold maxLen at hm0 hm1
  by_cases h1 : n < 1 ∨ 8 < n ∨ 16 < m
  · have HR : Hid (isSorts ⟨names, subs⟩ = false) := HF.out (fun h => by
      have := h.n1; have := h.n8; have := h.m16
      have := HN.out; have := HM.out
      simp only at *
      omega)
    rcases h1 with h1 | h1 | h1 <;>
    · go_enter Tryz.func92, Tryz.ntmps92
      go_wp2
      all_goals (go_ret; exact ⟨ret_bool HR.out.symm, (Below.refl _ _).alloc (Nat.le_refl _) _⟩)
  have hn1 : 1 ≤ n := by omega
  have hn8 : n ≤ 8 := by omega
  have hm16 : m ≤ 16 := by omega
  clear h1
  go_enter Tryz.func92, Tryz.ntmps92
  go_wp2
  generalize hW : w.alloc _ = W
  have hbW : Below w.heap.size w W := by rw [← hW]; exact (Below.refl _ _).alloc (Nat.le_refl _) _
  have p0 : W.cell? ⟨w.heap.size, 0, none⟩ = some (.slice A0 n cap0) := by rw [← hW]; simp
  have p1 : W.cell? ⟨w.heap.size, 1, none⟩ = some (.slice A1 m cap1) := by rw [← hW]; simp
  have z1 : w.heap.size + 1 = W.heap.size := by rw [← hW]; simp
  clear hW
  go_loopw [3] (fun i wr => ∃ k : Nat, k ≤ n ∧ i = .int .i64 k ∧ (∀ j, j < k → NameOk names j) ∧ Below W.heap.size W wr) (fun i _ => n - (intOf i).toNat)
  case atStart => exact ⟨0, Nat.zero_le _, rfl, fun j hj => absurd hj (by omega), Below.refl _ _⟩
  case round =>
    obtain ⟨k, hk, rfl, hnames, hb⟩ := hrel
    have HNM := Lib.hid hnames
    clear hnames
    by_cases hkn : k < n
    · obtain ⟨x, hx⟩ : ∃ x, names[k]? = some x := ⟨_, List.getElem?_eq_getElem (by have := HN.out; omega)⟩
      obtain ⟨b, off, rfl, hS, hbz, hrow⟩ := Rep.at okStrR HOK.out.1 (E0.out.below (hbW.trans (hb.mono hbW.size))) hx
      simp only [encStr, RepRow, and_true, fieldsOf, List.length_cons, List.length_nil, Nat.reduceAdd, Rep.lit_iff, Nat.zero_add, Nat.mul_one] at hrow
      obtain ⟨_, c0, rfl⟩ := hrow
      have HX := Lib.hid hx
      have HXS := Lib.hid (HOK.out.1 x (List.mem_of_getElem? hx))
      clear hx
      have pw := (hb.cell (p := ⟨w.heap.size, 0, none⟩) (show w.heap.size < W.heap.size by omega)).trans p0
      have HCN : Hid (∀ q, Calls Tryz.prog 93 #[.string x] (wr.drewN q) fun e w' => e = .returned (.bool (isName x)) ∧ wr.drewN q = w') := fun q => specIsName x HXS.out _
      have HCH : Hid (∀ q, Calls Tryz.prog 132 #[.slice (some ⟨b, off, none⟩) k cap0, .string x] (wr.drewN q) fun e w' => e = .returned (.bool (hasStr (names.take k) x)) ∧ wr.drewN q = w') := fun q => by
        refine specHasStr (names.take k) x S _ _ (fun y hy => HOK.out.1 y (List.mem_of_mem_take hy)) ?_
        rw [List.map_take]
        exact ((E0.out.below (hbW.trans (hb.mono hbW.size))).below (below_drewN (Below.refl _ _) _)).take (by omega)
      cases hin : isName x
      · have HR : Hid (isSorts ⟨names, subs⟩ = false) := HF.out (fun h => by have := (h.names k (by have := HN.out; simp only; omega) x HX.out).1; rw [hin] at this; cases this)
        rw [hin] at HCN
        clear hin
        go_wp2_with fail
        go_quiet (first | (go_at_call 93; exact quietC HCN.out _))
        go_wp2
        go_ret
        exact ⟨ret_bool HR.out.symm, hbW.trans ((below_drewN hb _).mono hbW.size)⟩
      · rw [hin] at HCN
        cases hh : hasStr (names.take k) x
        · have HO : Hid (NameOk names k) := fun y hy => by
            rw [HX.out] at hy
            injection hy with hy
            subst hy
            exact ⟨hin, hh⟩
          rw [hh] at HCH
          clear hin hh
          go_wp2_with fail
          go_quiet (first | (go_at_call 93; exact quietC HCN.out _) | (go_at_call 132; exact quietC HCH.out _))
          go_wp2
          go_roundw
          case rel =>
            refine ⟨k + 1, by omega, by go_num, fun j hj => ?_, below_drewN hb _⟩
            by_cases hjk : j < k
            · exact HNM.out j hjk
            · obtain rfl : j = k := by omega
              exact HO.out
          case measure => simp [intOf]; omega
        · have HR : Hid (isSorts ⟨names, subs⟩ = false) := HF.out (fun h => by have := (h.names k (by have := HN.out; simp only; omega) x HX.out).2; rw [hh] at this; cases this)
          rw [hh] at HCH
          clear hin hh
          go_wp2_with fail
          go_quiet (first | (go_at_call 93; exact quietC HCN.out _) | (go_at_call 132; exact quietC HCH.out _))
          go_wp2
          go_ret
          exact ⟨ret_bool HR.out.symm, hbW.trans ((below_drewN hb _).mono hbW.size)⟩
    · obtain rfl : n = k := by omega
      have pw := (hb.cell (p := ⟨w.heap.size, 0, none⟩) (show w.heap.size < W.heap.size by omega)).trans p0
      have hb1 := hb
      go_wp2
      clear hb pw
      go_loopw [4] (fun i wr => ∃ k : Nat, k ≤ m ∧ i = .int .i64 k ∧ (∀ j, j < k → ∀ p, subs[j]? = some p → SubOk n p) ∧ Below W.heap.size W wr) (fun i _ => m - (intOf i).toNat)
      case atStart => exact ⟨0, Nat.zero_le _, rfl, fun j hj => absurd hj (by omega), hb1⟩
      case round =>
        obtain ⟨k, hk, rfl, hsubs, hb⟩ := hrel
        have HSB := Lib.hid hsubs
        clear hsubs
        have pw0 := (hb.cell (p := ⟨w.heap.size, 0, none⟩) (show w.heap.size < W.heap.size by omega)).trans p0
        have pw1 := (hb.cell (p := ⟨w.heap.size, 1, none⟩) (show w.heap.size < W.heap.size by omega)).trans p1
        by_cases hkm : k < m
        · obtain ⟨p, hp⟩ : ∃ p, subs[k]? = some p := ⟨_, List.getElem?_eq_getElem (by have := HM.out; omega)⟩
          obtain ⟨b, off, rfl, hS, hbz, hrow⟩ := Rep.at okSubR HOK.out.2 (E1.out.below (hbW.trans (hb.mono hbW.size))) hp
          obtain ⟨lo, hi'⟩ := p
          simp only [encSub, RepRow, and_true, fieldsOf, List.length_cons, List.length_nil, Nat.reduceAdd, Rep.lit_iff] at hrow
          obtain ⟨⟨_, c0, rfl⟩, ⟨_, c1, rfl⟩⟩ := hrow
          have HP := Lib.hid hp
          clear hp
          have HC1 : Hid (∀ q, Calls Tryz.prog 64 #[.int .i64 lo, .int .i64 0, .int .i64 ((n : Int) - 1)] (wr.drewN q) fun e w' => e = .returned (.bool (decide (0 ≤ lo ∧ lo ≤ (n : Int) - 1))) ∧ wr.drewN q = w') := fun q => specIn _ _ _ _
          have HC2 : Hid (∀ q, Calls Tryz.prog 64 #[.int .i64 hi', .int .i64 0, .int .i64 ((n : Int) - 1)] (wr.drewN q) fun e w' => e = .returned (.bool (decide (0 ≤ hi' ∧ hi' ≤ (n : Int) - 1))) ∧ wr.drewN q = w') := fun q => specIn _ _ _ _
          by_cases hsub : SubOk n (lo, hi')
          · have HS := Lib.hid hsub
            obtain ⟨s0, s1, s2, s3, s4⟩ := hsub
            simp only at s0 s1 s2 s3 s4
            have s5 : (lo == hi') = false := by simpa using s4
            rw [decide_eq_true (by omega)] at HC1 HC2
            clear s4
            go_wp2_with fail
            go_quiet (first | (go_at_call_of 64 lo; exact quietC HC1.out _) | (go_at_call_of 64 hi'; exact quietC HC2.out _))
            go_wp2
            go_roundw
            case rel =>
              refine ⟨k + 1, by omega, by go_num, fun j hj q hq => ?_, below_drewN hb _⟩
              by_cases hjk : j < k
              · exact HSB.out j hjk q hq
              · obtain rfl : j = k := by omega
                rw [HP.out] at hq
                injection hq with hq
                subst hq
                exact HS.out
            case measure => simp [intOf]; omega
          · have HR : Hid (isSorts ⟨names, subs⟩ = false) := HF.out (fun h => hsub (by have := h.subs (lo, hi') (List.mem_of_getElem? HP.out); rw [← HN.out]; exact this))
            have HS : Hid (¬ SubOk n (lo, hi')) := hsub
            clear hsub
            by_cases hl : 0 ≤ lo ∧ lo ≤ (n : Int) - 1
            · rw [decide_eq_true hl] at HC1
              by_cases hh : 0 ≤ hi' ∧ hi' ≤ (n : Int) - 1
              · have s5 : (lo == hi') = true := by
                  simp only [beq_iff_eq]
                  apply Classical.byContradiction
                  intro hne
                  exact HS.out ⟨hl.1, by simp only; omega, hh.1, by simp only; omega, hne⟩
                rw [decide_eq_true hh] at HC2
                clear hl hh
                go_wp2_with fail
                go_quiet (first | (go_at_call_of 64 lo; exact quietC HC1.out _) | (go_at_call_of 64 hi'; exact quietC HC2.out _))
                go_wp2
                go_ret
                exact ⟨ret_bool HR.out.symm, hbW.trans ((below_drewN hb _).mono hbW.size)⟩
              · rw [decide_eq_false hh] at HC2
                clear hl hh
                go_wp2_with fail
                go_quiet (first | (go_at_call_of 64 lo; exact quietC HC1.out _) | (go_at_call_of 64 hi'; exact quietC HC2.out _))
                go_wp2
                go_ret
                exact ⟨ret_bool HR.out.symm, hbW.trans ((below_drewN hb _).mono hbW.size)⟩
            · rw [decide_eq_false hl] at HC1
              clear hl
              go_wp2_with fail
              go_quiet (first | (go_at_call_of 64 lo; exact quietC HC1.out _) | (go_at_call_of 64 hi'; exact quietC HC2.out _))
              go_wp2
              go_ret
              exact ⟨ret_bool HR.out.symm, hbW.trans ((below_drewN hb _).mono hbW.size)⟩
        · have HSUB : Hid (∀ p ∈ subs, SubOk n p) := fun p hp => by
            obtain ⟨j, hj, e⟩ := List.getElem_of_mem hp
            exact HSB.out j (by have := HM.out; omega) p (by rw [List.getElem?_eq_getElem hj, e])
          clear HSB
          go_wp2_with fail
          refine (specUp ⟨names, subs⟩ S _ _ HOK.out (HV0.out.below (hbW.trans (hb.mono hbW.size))) (by have := HN.out; simp only; omega) (by have := HN.out; simp only; omega) (SortsOk.subsIn (s := ⟨names, subs⟩) (by have := HN.out; simp only; rw [this]; exact HSUB.out))).mono ?_
          rintro e w2 ⟨v, rfl, hI, hb2⟩
          have HUP := Lib.hid (up_ok (s := ⟨names, subs⟩) (SortsOk.subsIn (s := ⟨names, subs⟩) (by have := HN.out; simp only; rw [this]; exact HSUB.out)))
          rw [show (⟨names, subs⟩ : Srt).names.length = n from HN.out] at HUP
          have HT' : Hid ((∀ i k, i < n → k < n → PairOk (up ⟨names, subs⟩) i k) → isSorts ⟨names, subs⟩ = true) := fun h => HT.out ⟨by have := HN.out; simp only; omega, by have := HN.out; simp only; omega, by have := HM.out; simp only; omega, by have := HN.out; simp only; rw [this]; exact HNM.out, by have := HN.out; simp only; rw [this]; exact HSUB.out, by have := HN.out; simp only; rw [this]; exact h⟩
          have HF' : Hid ((∃ i k, i < n ∧ k < n ∧ ¬ PairOk (up ⟨names, subs⟩) i k) → isSorts ⟨names, subs⟩ = false) := fun ⟨i, k, hi, hk, hp⟩ => HF.out (fun h => hp (h.pairs i k (by have := HN.out; simp only; omega) (by have := HN.out; simp only; omega)))
          generalize up ⟨names, subs⟩ = u at hI HUP HT' HF'
          have hwb : Below w.heap.size w w2 := hbW.trans ((hb.trans (hb2.mono hb.size)).mono hbW.size)
          obtain ⟨A, cap, rfl, hcc, hmm, hA⟩ := hI.form
          rw [casts_len, HUP.out.1] at hA hcc
          obtain ⟨g, rfl, hg1, hg2⟩ := hA (by omega)
          have HI : Hid (Ints w2 wr.heap.size (Value.slice (some { block := g, off := 0 }) n cap) (casts u)) := by rw [casts_len, HUP.out.1] at hI; exact hI
          rw [casts_len, HUP.out.1]
          clear hI hA HT HF HNM HSUB HV0 E0 E1 pw0 pw1
          unfold maxLen at hmm
          have hb256 : 2 ^ n ≤ 2 ^ 8 := Nat.pow_le_pow_right (by omega) hn8
          have HC : Hid (∀ i, i < n → w2.cell? ⟨g, i, none⟩ = some (.int .i64 ((u.getD i 0 : Nat) : Int)) ∧ u.getD i 0 < 4611686018427387904) := fun i hi => by
            obtain ⟨q1, q2⟩ := HUP.out.get hi
            exact ⟨HI.out.cell (casts_get q1), by omega⟩
          clear hb256
          go_wp2
          go_loopw [6] (fun i wx => ∃ j : Nat, j ≤ n ∧ i = .int .i64 j ∧ (∀ a k, a < j → k < a → PairOk u a k) ∧ Below w2.heap.size w2 wx) (fun i _ => n - (intOf i).toNat)
          case atStart => exact ⟨0, Nat.zero_le _, rfl, fun a k h => absurd h (by omega), Below.refl _ _⟩
          case round =>
            obtain ⟨j, hj, rfl, hpairs, hbx⟩ := hrel
            have HPA := Lib.hid hpairs
            clear hpairs
            by_cases hjn : j < n
            · go_wp2
              have hbx0 := hbx
              clear hbx
              go_loopw [7] (fun i wx => ∃ k : Nat, k ≤ j ∧ i = .int .i64 k ∧ (∀ q, q < k → PairOk u j q) ∧ Below w2.heap.size w2 wx) (fun i _ => j - (intOf i).toNat)
              case atStart => exact ⟨0, Nat.zero_le _, rfl, fun q h => absurd h (by omega), hbx0⟩
              case round =>
                obtain ⟨k, hk, rfl, hpk, hbx⟩ := hrel
                have HPK := Lib.hid hpk
                clear hpk
                by_cases hkn : k < j
                · obtain ⟨c0, x0⟩ := HC.out j hjn
                  obtain ⟨c1, x1⟩ := HC.out k (by omega)
                  have d0 := (hbx.cell (p := ⟨g, j, none⟩) hg2).trans c0
                  have d1 := (hbx.cell (p := ⟨g, k, none⟩) hg2).trans c1
                  have HP : Hid (PairOk u j k ↔ ¬ (j ≠ k ∧ (u.getD j 0).testBit k = true ∧ (u.getD k 0).testBit j = true)) := Iff.rfl
                  have HF2 : Hid (¬ PairOk u j k → isSorts ⟨names, subs⟩ = false) := fun h => HF'.out ⟨j, k, hjn, by omega, h⟩
                  have HNX : Hid (PairOk u j k → ∀ q, q < k + 1 → PairOk u j q) := fun h q hq => by
                    by_cases hqk : q < k
                    · exact HPK.out q hqk
                    · obtain rfl : q = k := by omega
                      exact h
                  have HC1 := Lib.hid (specHas (u.getD j 0) k x0 (by omega))
                  have HC2 := Lib.hid (specHas (u.getD k 0) j x1 (by omega))
                  clear c0 c1 x0 x1
                  generalize u.getD j 0 = x at *
                  generalize u.getD k 0 = y at *
                  cases hA1 : x.testBit k
                  · rw [hA1] at HC1
                    have HO : Hid (PairOk u j k) := HP.out.2 (fun h => by rw [hA1] at h; exact absurd h.2.1 (by simp))
                    clear hA1
                    go_wp2_with (first | (go_at_call_of 134 x; refine (HC1.out _).mono ?_; rintro e w3 ⟨rfl, rfl⟩) | (go_at_call_of 134 y; refine (HC2.out _).mono ?_; rintro e w3 ⟨rfl, rfl⟩))
                    go_roundw
                    case rel => exact ⟨k + 1, by omega, by go_num, HNX.out HO.out, hbx⟩
                    case measure => simp [intOf]; omega
                  cases hA2 : y.testBit j
                  · rw [hA1] at HC1
                    rw [hA2] at HC2
                    have HO : Hid (PairOk u j k) := HP.out.2 (fun h => by rw [hA2] at h; exact absurd h.2.2 (by simp))
                    clear hA1 hA2
                    go_wp2_with (first | (go_at_call_of 134 x; refine (HC1.out _).mono ?_; rintro e w3 ⟨rfl, rfl⟩) | (go_at_call_of 134 y; refine (HC2.out _).mono ?_; rintro e w3 ⟨rfl, rfl⟩))
                    go_roundw
                    case rel => exact ⟨k + 1, by omega, by go_num, HNX.out HO.out, hbx⟩
                    case measure => simp [intOf]; omega
                  · rw [hA1] at HC1
                    rw [hA2] at HC2
                    have HO : Hid (isSorts ⟨names, subs⟩ = false) := HF2.out (fun h => HP.out.1 h ⟨by omega, hA1, hA2⟩)
                    clear hA1 hA2
                    go_wp2_with (first | (go_at_call_of 134 x; refine (HC1.out _).mono ?_; rintro e w3 ⟨rfl, rfl⟩) | (go_at_call_of 134 y; refine (HC2.out _).mono ?_; rintro e w3 ⟨rfl, rfl⟩))
                    go_ret
                    exact ⟨ret_bool HO.out.symm, hwb.trans (hbx.mono hwb.size)⟩
                · have HNX : Hid (∀ a k, a < j + 1 → k < a → PairOk u a k) := fun a q ha hq => by
                    by_cases haj : a < j
                    · exact HPA.out a q haj hq
                    · obtain rfl : a = j := by omega
                      exact HPK.out q (by omega)
                  go_wp2
                  go_roundw
                  case rel => exact ⟨j + 1, by omega, by go_num, HNX.out, hbx⟩
                  case measure => simp [intOf]; omega
            · obtain rfl : n = j := by omega
              have HO : Hid (isSorts ⟨names, subs⟩ = true) := HT'.out (fun i k hi hk => by
                by_cases h1 : k < i
                · exact HPA.out i k hi h1
                · intro ⟨h2, h3, h4⟩
                  exact HPA.out k i hk (by omega) ⟨fun e => h2 e.symm, h4, h3⟩)
              go_wp2
              go_ret
              exact ⟨ret_bool HO.out.symm, hwb.trans (hbx.mono hwb.size)⟩
end Go.Proofs.YtpbikjkjfojjiaaGreat
namespace Go.Proofs.YtpbikjkjfojjiaaGreat
open Go.RowKit
def kSub (l : List Nat) (p : Int × Int) : List Nat := (l.set p.1.toNat (min (l.getD p.1.toNat 0) (l.getD p.2.toNat 0))).set p.2.toNat (min (l.getD p.1.toNat 0) (l.getD p.2.toNat 0))
def kIter (subs : List (Int × Int)) : Nat → List Nat → List Nat
  | 0, l => l
  | k + 1, l => subs.foldl kSub (kIter subs k l)
def kinds (s : Srt) : List Nat := kIter s.subs s.names.length (List.range s.names.length)
def KOk (n : Nat) (l : List Nat) : Prop := l.length = n ∧ ∀ x ∈ l, x < n
theorem KOk.get {n : Nat} {l : List Nat} (h : KOk n l) {i : Nat} (hi : i < n) : l[i]? = some (l.getD i 0) ∧ l.getD i 0 < n := by
  have hl : i < l.length := by rw [h.1]; exact hi
  have e : l[i]? = some l[i] := List.getElem?_eq_getElem hl
  have e2 : l.getD i 0 = l[i] := by simp [List.getD, e]
  rw [e2]
  exact ⟨e, h.2 _ (List.getElem_mem hl)⟩
theorem KOk.sub {n : Nat} {l : List Nat} (h : KOk n l) {p : Int × Int} (hp : 0 ≤ p.1 ∧ p.1 < n ∧ 0 ≤ p.2 ∧ p.2 < n) : KOk n (kSub l p) := by
  refine ⟨by unfold kSub; rw [List.length_set, List.length_set]; exact h.1, fun x hx => ?_⟩
  have hm : min (l.getD p.1.toNat 0) (l.getD p.2.toNat 0) < n := by
    have := (h.get (i := p.1.toNat) (by omega)).2
    omega
  unfold kSub at hx
  rcases List.mem_or_eq_of_mem_set hx with hx | rfl
  · rcases List.mem_or_eq_of_mem_set hx with hx | rfl
    · exact h.2 x hx
    · exact hm
  · exact hm
theorem KOk.foldl {n : Nat} : ∀ {subs : List (Int × Int)} {l : List Nat}, KOk n l → SubsIn n subs → KOk n (subs.foldl kSub l)
  | [], l, h, _ => h
  | p :: ps, l, h, hs => KOk.foldl (subs := ps) (h.sub (hs p (by simp))) (fun q hq => hs q (by simp [hq]))
theorem KOk.iter {n : Nat} {subs : List (Int × Int)} (hs : SubsIn n subs) : ∀ (k : Nat) {l : List Nat}, KOk n l → KOk n (kIter subs k l)
  | 0, l, h => h
  | k + 1, l, h => (KOk.iter hs k h).foldl hs
theorem KOk.start (n : Nat) : KOk n (List.range n) := ⟨by simp, fun x hx => by simpa using hx⟩
theorem kinds_ok {s : Srt} (h : SubsIn s.names.length s.subs) : KOk s.names.length (kinds s) := KOk.iter h _ (KOk.start _)
set_option maxHeartbeats 2000000 in
set_option maxRecDepth 100000 in
theorem specKinds (s : Srt) (S : Nat → Prop) (us : List Value) (w : World) (hok : okSrt s) (hv : RepVals w S (encSrt s) us) (hn1 : 1 ≤ s.names.length) (hn : s.names.length ≤ 8) (hsb : ∀ p ∈ s.subs, SubOk s.names.length p) :
    Calls Tryz.prog 135 #[.agg us.toArray] w fun e w' => ∃ v, e = .returned v ∧ Ints w' w.heap.size v (casts (kinds s)) ∧ Below w.heap.size w w' := by
  have hin := SortsOk.subsIn hsb
  obtain ⟨names, subs⟩ := s
  simp only [encSrt] at hv
  have HSB := Lib.hid hsb
  obtain ⟨v0, v1, rfl, e0, e1⟩ := repVals_Sorts hv
  obtain ⟨A0, cap0, rfl, hc0, hm0⟩ := e0.shape
  obtain ⟨A1, cap1, rfl, hc1, hm1⟩ := e1.shape
  obtain ⟨i0, hi, hz0, hz1, hz2⟩ := info_parts info_Int
  have HIN := Lib.hid hin
  have HOK := Lib.hid hok
  have E1 := Lib.hid e1
  have HF : Hid (kinds ⟨names, subs⟩ = kIter subs names.length (List.range names.length)) := rfl
  clear hv e0 e1 hok hin hsb
  simp only at hn1 hn HSB
  generalize hN : names.length = n at *
  generalize hM : subs.length = m at *
  clear hN
  have HM := Lib.hid hM
  clear hM
  unfold maxLen at hm0 hm1
  go_enter Tryz.func135, Tryz.ntmps135
  go_wp2
  generalize hW : w.alloc _ = W
  have hbW : Below w.heap.size w W := by rw [← hW]; exact (Below.refl _ _).alloc (Nat.le_refl _) _
  have p0 : W.cell? ⟨w.heap.size, 0, none⟩ = some (.slice A0 n cap0) := by rw [← hW]; simp
  have p1 : W.cell? ⟨w.heap.size, 1, none⟩ = some (.slice A1 m cap1) := by rw [← hW]; simp
  have z1 : w.heap.size + 1 = W.heap.size := by rw [← hW]; simp
  clear hW
  rw [z1]
  go_loopw [3, 4] (fun v i wr => ∃ k : Nat, k ≤ n ∧ i = .int .i64 k ∧ Ints wr W.heap.size v (casts (List.range k)) ∧ Below W.heap.size W wr) (fun _ i _ => n - (intOf i).toNat)
  case atStart => exact ⟨0, Nat.zero_le _, rfl, Ints.empty W, (Below.refl _ _).alloc (Nat.le_refl _) _⟩
  case round =>
    obtain ⟨k, hk, rfl, hI, hb⟩ := hrel
    have pw := (hb.cell (p := ⟨w.heap.size, 0, none⟩) (show w.heap.size < W.heap.size by omega)).trans p0
    have HI := Lib.hid hI
    clear hI
    by_cases hkn : k < n
    · go_wp2_with (at_builtin; refine wpList_app_int rfl _ _ 69 rfl i0 Tryz.underlying69 hi hz0 hz1 hz2 W.heap.size _ _ rfl _ _ _ rfl HI.out rfl (by simp [casts]; omega) hb.size ?_; intro v' w1 hI1 hB1)
      go_roundw
      case rel => exact ⟨k + 1, by omega, by go_num, by rw [List.range_succ, casts_snoc]; exact hI1, hb.trans (hB1 _ (Nat.le_refl _))⟩
      case measure => simp [intOf]; omega
    · obtain rfl : n = k := by omega
      obtain ⟨A, cap, rfl, hcc, hmm, hA⟩ := HI.out.form
      obtain ⟨g, rfl, hg1, hg2⟩ := hA (by simp [casts]; omega)
      rw [casts_len, List.length_range] at HI hcc
      rw [casts_len, List.length_range]
      unfold maxLen at hmm
      go_wp2
      have hb1 := hb
      clear hb pw hA
      go_loopw [5] (fun i wr => ∃ j : Nat, j ≤ n ∧ i = .int .i64 j ∧ Ints wr W.heap.size (.slice (some ⟨g, 0, none⟩) n cap) (casts (kIter subs j (List.range n))) ∧ Below W.heap.size W wr) (fun i _ => n - (intOf i).toNat)
      case atStart => exact ⟨0, Nat.zero_le _, rfl, HI.out, hb1⟩
      case round =>
        obtain ⟨j, hj, rfl, hI, hb⟩ := hrel
        by_cases hjn : j < n
        · have HI2 := Lib.hid hI
          clear hI
          go_wp2
          have hb2 := hb
          clear hb
          go_loopw [6] (fun i wr => ∃ k : Nat, k ≤ m ∧ i = .int .i64 k ∧ Ints wr W.heap.size (.slice (some ⟨g, 0, none⟩) n cap) (casts ((subs.take k).foldl kSub (kIter subs j (List.range n)))) ∧ Below W.heap.size W wr) (fun i _ => m - (intOf i).toNat)
          case atStart => exact ⟨0, Nat.zero_le _, rfl, HI2.out, hb2⟩
          case round =>
            obtain ⟨k, hk, rfl, hI, hb⟩ := hrel
            have pw1 := (hb.cell (p := ⟨w.heap.size, 1, none⟩) (show w.heap.size < W.heap.size by omega)).trans p1
            have HI3 := Lib.hid hI
            clear hI
            by_cases hkm : k < m
            · obtain ⟨p, hp⟩ : ∃ p, subs[k]? = some p := ⟨_, List.getElem?_eq_getElem (by have := HM.out; omega)⟩
              obtain ⟨b, off, rfl, hS, hbz, hrow⟩ := Rep.at okSubR HOK.out.2 (E1.out.below (hbW.trans (hb.mono hbW.size))) hp
              obtain ⟨g0, g1, g2, g3, g4⟩ := HSB.out p (List.mem_of_getElem? hp)
              obtain ⟨lo, hi'⟩ := p
              simp only [encSub, RepRow, and_true, fieldsOf, List.length_cons, List.length_nil, Nat.reduceAdd, Rep.lit_iff] at hrow
              obtain ⟨⟨_, c0, rfl⟩, ⟨_, c1, rfl⟩⟩ := hrow
              simp only at g0 g1 g2 g3 g4
              obtain ⟨lo, rfl⟩ := Int.eq_ofNat_of_zero_le g0
              obtain ⟨hi', rfl⟩ := Int.eq_ofNat_of_zero_le g2
              have hne : hi' ≠ lo := by omega
              clear g4
              have hup := (KOk.iter HIN.out j (KOk.start n)).foldl (HIN.out.take k)
              have HL := Lib.hid hup.1
              obtain ⟨r0, t0⟩ := hup.get (i := lo) (by omega)
              obtain ⟨r1, t1⟩ := hup.get (i := hi') (by omega)
              have HST := Lib.hid (foldl_take (f := kSub) hp (kIter subs j (List.range n)))
              generalize hG : (subs.take k).foldl kSub (kIter subs j (List.range n)) = G at *
              have d0 := HI3.out.cell (casts_get r0)
              have d1 := HI3.out.cell (casts_get r1)
              have hlt : g < wr.heap.size := (HI3.out.lt _ rfl).2
              have HU : Hid (kSub G (lo, hi') = (G.set lo (min (G.getD lo 0) (G.getD hi' 0))).set hi' (min (G.getD lo 0) (G.getD hi' 0))) := by show _ = _; simp [kSub]
              clear hup t0 t1 r0 r1 hG hp
              generalize G.getD lo 0 = x0 at *
              generalize G.getD hi' 0 = x1 at *
              have HC : Hid (∀ w, Calls Tryz.prog 163 #[.int .i64 x0, .int .i64 x1] w fun e w' => e = .returned (.int .i64 ((min x0 x1 : Nat) : Int)) ∧ w = w') := fun w => by
                have := specMin x0 x1 w
                rw [show min (x0 : Int) (x1 : Int) = ((min x0 x1 : Nat) : Int) by omega] at this
                exact this
              have hln : lo < (casts G).length := by rw [casts_len, HL.out]; omega
              have hln' : hi' < ((casts G).set lo ((min x0 x1 : Nat) : Int)).length := by rw [List.length_set, casts_len, HL.out]; omega
              have HLN := Lib.hid hln
              have HLN' := Lib.hid hln'
              clear hln hln'
              generalize min x0 x1 = mn at *
              have f0 := HI3.out.frozen lo
              have f1 := HI3.out.frozen hi'
              go_wp2_with fail
              go_quiet (fail)
              go_wp2_with fail
              replace HI3 : Hid (Ints (wr.drewN nq) W.heap.size (.slice (some ⟨g, 0, none⟩) n cap) (casts G)) := HI3
              replace d0 : (wr.drewN nq).cell? ⟨g, lo, none⟩ = some (.int .i64 x0) := d0
              replace d1 : (wr.drewN nq).cell? ⟨g, hi', none⟩ = some (.int .i64 x1) := d1
              replace f0 : (wr.drewN nq).frozen? ⟨g, lo, none⟩ = false := f0
              replace f1 : (wr.drewN nq).frozen? ⟨g, hi', none⟩ = false := f1
              replace hb := below_drewN hb nq
              generalize wr.drewN nq = wq at HI3 d0 d1 f0 f1 hb ⊢
              go_quiet (first | (go_at_call 163; exact quietC (fun n => HC.out _) _))
              go_wp2
              go_roundw
              case rel =>
                refine ⟨k + 1, by omega, by go_num, ?_, ((below_drewN hb _).setCell (p := ⟨g, lo, none⟩) hg1 _).setCell (p := ⟨g, hi', none⟩) hg1 _⟩
                rw [HST.out, HU.out, casts_set, casts_set]
                have h1 : Ints _ _ _ _ := Ints.set (w := wq.drewN nq) HI3.out HLN.out (mn : Int)
                exact h1.set HLN'.out _
              case measure => simp [intOf]; omega
            · have HT : Hid (subs.take k = subs) := List.take_of_length_le (by have := HM.out; omega)
              go_wp2
              go_roundw
              case rel => exact ⟨j + 1, by omega, by go_num, by have := HI3.out; rw [HT.out] at this; exact this, hb⟩
              case measure => simp [intOf]; omega
        · obtain rfl : n = j := by omega
          have HI4 := Lib.hid hI
          clear hI
          go_wp2
          go_ret
          exact ⟨_, rfl, by rw [HF.out]; exact HI4.out.base_le hbW.size, hbW.trans (hb.mono hbW.size)⟩
end Go.Proofs.YtpbikjkjfojjiaaGreat
namespace Go.Proofs.YtpbikjkjfojjiaaGreat
open Go.RowKit
theorem implIsSet (n : Int) (w : World) : Calls Tryz.prog 169 #[.int .i64 n] w fun e w' => e = .returned (.bool (decide (0 ≤ n ∧ n ≤ 65535))) ∧ w = w' := by
  go_enter Tryz.func169, Tryz.ntmps169
  go_wp2
  all_goals
    go_ret
    exact ⟨ret_bool (by rw [Bool.eq_iff_iff]; simp; try omega), rfl⟩
def bitsTo (a k : Nat) : List Nat := (List.range k).filter (fun j => a.testBit j)
def listOf (a : Nat) : List Nat := bitsTo a 16
theorem bitsTo_yes {a k : Nat} (h : a.testBit k = true) : bitsTo a (k + 1) = bitsTo a k ++ [k] := by simp [bitsTo, List.range_succ, List.filter_append, h]
theorem bitsTo_no {a k : Nat} (h : a.testBit k = false) : bitsTo a (k + 1) = bitsTo a k := by simp [bitsTo, List.range_succ, List.filter_append, h]
theorem bitsTo_len (a k : Nat) : (bitsTo a k).length ≤ k := by
  have := List.length_filter_le (fun j => a.testBit j) (List.range k)
  simpa [bitsTo] using this
theorem and_bit0 {x k : Nat} (hx : x < 4611686018427387904) (hk : k < 62) : (bits .and .i64 (x : Int) (wrap64 (2 ^ k)) != 0) = x.testBit k ∧ (bits .and .i64 (x : Int) (wrap64 (2 ^ k)) == 0) = !x.testBit k := by
  rw [shl_one hk, bits_and hx (pow_lt62 hk), ← testBit_and]
  generalize x &&& 2 ^ k = y
  constructor
  · rw [Bool.eq_iff_iff]
    simp
  · rw [Bool.eq_iff_iff]
    simp
set_option maxHeartbeats 1000000 in
set_option maxRecDepth 100000 in
theorem implListOf (a : Nat) (ha : a < 65536) (w : World) : Calls Tryz.prog 148 #[.int .i64 a] w fun e w' => ∃ v, e = .returned v ∧ Ints w' w.heap.size v (casts (listOf a)) ∧ Below w.heap.size w w' := by
  obtain ⟨i0, hi, hz0, hz1, hz2⟩ := info_parts info_Int
  have HC : Hid (∀ w, Calls Tryz.prog 169 #[.int .i64 a] w fun e w' => e = .returned (.bool true) ∧ w = w') := fun w => by
    have := implIsSet a w
    rw [decide_eq_true (by omega)] at this
    exact this
  go_enter Tryz.func148, Tryz.ntmps148
  go_wp2
  go_loopw [3, 4] (fun v i wr => ∃ k : Nat, k ≤ 16 ∧ i = .int .i64 k ∧ Ints wr w.heap.size v (casts (bitsTo a k)) ∧ Below w.heap.size w wr) (fun _ i _ => 16 - (intOf i).toNat)
  case atStart => exact ⟨0, Nat.zero_le _, rfl, Ints.empty w, (Below.refl _ _).alloc (Nat.le_refl _) _⟩
  case round =>
    obtain ⟨k, hk, rfl, hI, hb⟩ := hrel
    have HI := Lib.hid hI
    clear hI
    by_cases hkn : k < 16
    · obtain ⟨f0, f1⟩ := and_bit0 (x := a) (k := k) (by omega) (by omega)
      have hlen := bitsTo_len a k
      cases ht : a.testBit k
      · have HT := Lib.hid ht
        rw [ht] at f0 f1
        clear ht
        go_wp2_with (go_at_call 169; refine (HC.out _).mono ?_; rintro e w2 ⟨rfl, rfl⟩)
        go_roundw
        case rel => exact ⟨k + 1, by omega, by go_num, by rw [bitsTo_no HT.out]; exact HI.out, hb⟩
        case measure => simp [intOf]; omega
      · have HT := Lib.hid ht
        rw [ht] at f0 f1
        clear ht
        go_wp2_with (first
          | (go_at_call 169; refine (HC.out _).mono ?_; rintro e w2 ⟨rfl, rfl⟩)
          | (at_builtin; refine wpList_app_int rfl _ _ 69 rfl i0 Tryz.underlying69 hi hz0 hz1 hz2 w.heap.size _ _ rfl _ _ _ rfl HI.out rfl (by rw [casts_len]; omega) hb.size ?_; intro v' w1 hI1 hB1))
        go_roundw
        case rel => exact ⟨k + 1, by omega, by go_num, by rw [bitsTo_yes HT.out, casts_snoc]; exact hI1, hb.trans (hB1 _ (Nat.le_refl _))⟩
        case measure => simp [intOf]; omega
    · obtain rfl : k = 16 := by omega
      go_wp2_with (go_at_call 169; refine (HC.out _).mono ?_; rintro e w2 ⟨rfl, rfl⟩)
      go_ret
      exact ⟨_, rfl, HI.out, hb⟩
end Go.Proofs.YtpbikjkjfojjiaaGreat
namespace Go.Proofs.YtpbikjkjfojjiaaGreat
open Go.RowKit
/-! What is known of a world stays known later. -/
section
variable {w w' : World} {S : Nat → Prop}
theorem keepA {a : Addr} {v : Value} (o : Obj) (h : w.cell? a = some v) : (w.alloc o).cell? a = some v := by
  rw [World.cell?_alloc_lt _ _ _ (World.block_lt_of_cell? w a h)]; exact h
theorem keepNew {c : Array Value} {t : TypeId} {g i : Nat} {v : Value} (hg : g = w.heap.size) (h : c[i]? = some v) : (w.alloc (.cells c t)).cell? ⟨g, i, none⟩ = some v := by
  subst hg
  simp [h]
theorem keepN {a : Addr} {v : Value} {n : Nat} (h : w.cell? a = some v) : (w.drewN n).cell? a = some v := h
theorem keepB {a : Addr} {v : Value} (hb : Below w.heap.size w w') (h : w.cell? a = some v) : w'.cell? a = some v :=
  (hb.cell (World.block_lt_of_cell? w a h)).trans h
theorem belowA (w : World) (o : Obj) : Below w.heap.size w (w.alloc o) := (Below.refl _ _).alloc (Nat.le_refl _) _
theorem belowD (w : World) : Below w.heap.size w w.drew := below_drewN (Below.refl _ _) 1
theorem belowN (w : World) (n : Nat) : Below w.heap.size w (w.drewN n) := below_drewN (Below.refl _ _) n
theorem RepVals.alloc {cs : List C} {us : List Value} (o : Obj) (h : RepVals w S cs us) : RepVals (w.alloc o) S cs us := h.below (belowA w o)
theorem RepVals.drew {cs : List C} {us : List Value} (h : RepVals w S cs us) : RepVals w.drew S cs us := h.below (belowD w)
theorem RepVals.drewN {cs : List C} {us : List Value} {n : Nat} (h : RepVals w S cs us) : RepVals (w.drewN n) S cs us := h.below (belowN w n)
theorem RepVals.later {cs : List C} {us : List Value} (hb : Below w.heap.size w w') (h : RepVals w S cs us) : RepVals w' S cs us := h.below hb
theorem Rep.alloc {c : C} {v : Value} (o : Obj) (h : Rep w S c v) : Rep (w.alloc o) S c v := h.below (belowA w o)
theorem Rep.drew {c : C} {v : Value} (h : Rep w S c v) : Rep w.drew S c v := h.below (belowD w)
theorem Rep.drewN {c : C} {v : Value} {n : Nat} (h : Rep w S c v) : Rep (w.drewN n) S c v := h.below (belowN w n)
theorem Rep.later {c : C} {v : Value} (hb : Below w.heap.size w w') (h : Rep w S c v) : Rep w' S c v := h.below hb
/-- One after the other, the first of them from the world where one began. -/
theorem Below.later {B : Nat} {a : World} (hb : Below w.heap.size w w') (h : Below B a w) (hB : B ≤ a.heap.size) : Below B a w' := h.trans (hb.mono (Nat.le_trans hB h.size))
end
theorem wpList_store_newN {P : Program} {ops : Array Oper} {rest : List Oper} {o : Oper} {a : Act} {w : World} {Q : Exit → Act → World → Prop} (hgd : o.guard = none) (ty : TypeId) (x y : Operand) (ho : o.op = .store ty x y)
    (w0 : World) (n : Nat) (t : TypeId) (cur : Array Value) (hw : w = (w0.alloc (.cells cur t)).drewN n) (g : Nat) (hx : a.eval x = .pointer (some ⟨g, 0, none⟩)) (hg : g = w0.heap.size) (us : List Value) (hy : (a.eval y).cells.toList = us) (i : TypeInfo) (hi : P.info? ty = some i) (hs : i.size = us.length)
    (hc : cur.size = us.length) (h1 : ∀ u ∈ us, u.oneCell' = true)
    (h : wpList P ops Q rest (a.put o.dst undef) ((w0.alloc (.cells us.toArray t)).drewN n)) : wpList P ops Q (o :: rest) a w :=
  wpList_store_new hgd ty x y ho (w0.drewN n) t cur hw g hx hg us hy i hi hs hc h1 h
/-- At this store and no other. -/
theorem atStore {P : Program} {ops : Array Oper} {rest : List Oper} {o : Oper} {a : Act} {w : World} {Q : Exit → Act → World → Prop} (ty : TypeId) (x y : Operand) (ho : o.op = .store ty x y) (h : wpList P ops Q (o :: rest) a w) : wpList P ops Q (o :: rest) a w := h
/-- A whole value stored into a variable of the call's own. -/
theorem wpList_store_row {P : Program} {ops : Array Oper} {rest : List Oper} {o : Oper} {a : Act} {w : World} {Q : Exit → Act → World → Prop} (hgd : o.guard = none) (ty : TypeId) (x y : Operand) (ho : o.op = .store ty x y)
    (g : Nat) (hx : a.eval x = .pointer (some ⟨g, 0, none⟩)) (us : List Value) (hy : (a.eval y).cells.toList = us) (i : TypeInfo) (hi : P.info? ty = some i) (hs : i.size = us.length)
    (t : TypeId) (cur : Array Value) (hg : w.heap[g]? = some (.cells cur t (0, 0))) (hf : cur.size = us.length) (h1 : ∀ u ∈ us, u.oneCell' = true)
    (h : ∀ w', Put w w' g 0 us → w'.heap[g]? = some (.cells us.toArray t (0, 0)) → wpList P ops Q rest (a.put o.dst undef) w') : wpList P ops Q (o :: rest) a w := by
  refine wpList_plain hgd fun K hK => ?_
  have hst := run_storeCells_at P g 0 t us 0 cur w hg (by simp; omega) h1
  simp only [Nat.add_zero] at hst
  have hsz : (a.eval y).cells.size = i.size := by rw [hs, ← hy, Array.length_toList]
  unfold Oper.wp execOp
  simp only [ho, hx, Instr.storeAt, Instr.sureAddr, storeVar, Sem.run_bind, Sem.run_pure, Result.andThen_ok, sizeOf, typeInfo, hi, run_program, hsz, ne_eq, not_true_eq_false, if_false, hy, hst]
  refine hK _ _ (h _ (put_setRow w g 0 t us cur hg (by omega)) ?_)
  rw [setRow_heap w g cur _ t _ hg]
  congr 2
  have hd : cur.toList.drop (0 + us.length) = [] := by rw [Nat.zero_add, ← hf]; simp
  rw [hd]
  simp
theorem Put.below {w w' : World} {g off B : Nat} {us : List Value} (h : Put w w' g off us) (hB : B ≤ g) : Below B w w' := ⟨h.os, h.tape, h.output, by have := h.size; omega, fun x hx => h.other x (by omega)⟩
end Go.Proofs.YtpbikjkjfojjiaaGreat
