/-
  Bindings, occurrences and their order. No program is named here.
-/
import Derived.Test.YtiglacjigkcgkaaCmp4
import Derived.Test.YtiglacjigkcgkaaLOccurrence
set_option linter.unusedSimpArgs false
set_option linter.unusedVariables false
namespace Go.Proofs.Ytiglacjigkcgkaa
open Go.RowKit

/-- Lists in the order of their first difference; the shorter first. -/
def lexL {α : Type} (c : α → α → Int) : List α → List α → Int
  | [], [] => 0
  | [], _ :: _ => -1
  | _ :: _, [] => 1
  | x :: xs, y :: ys => firstNZ [c x y, lexL c xs ys]
theorem lexL_step {α : Type} {c : α → α → Int} {ps qs : List α} {k : Nat} {x y : α} (h1 : ps[k]? = some x) (h2 : qs[k]? = some y) :
    lexL c (ps.drop k) (qs.drop k) = firstNZ [c x y, lexL c (ps.drop (k + 1)) (qs.drop (k + 1))] := by
  have e1 : ps.drop k = x :: ps.drop (k + 1) := by
    obtain ⟨hl, hx⟩ := List.getElem?_eq_some_iff.1 h1
    rw [← hx]; exact List.drop_eq_getElem_cons hl
  have e2 : qs.drop k = y :: qs.drop (k + 1) := by
    obtain ⟨hl, hx⟩ := List.getElem?_eq_some_iff.1 h2
    rw [← hx]; exact List.drop_eq_getElem_cons hl
  rw [e1, e2, lexL]
theorem lexL_left {α : Type} {c : α → α → Int} {ps qs : List α} {k : Nat} (h1 : k < ps.length) (h2 : qs.length ≤ k) : lexL c (ps.drop k) (qs.drop k) = 1 := by
  rw [List.drop_eq_nil_of_le h2, List.drop_eq_getElem_cons h1, lexL]
theorem lexL_right {α : Type} {c : α → α → Int} {ps qs : List α} {k : Nat} (h1 : ps.length ≤ k) (h2 : k < qs.length) : lexL c (ps.drop k) (qs.drop k) = -1 := by
  rw [List.drop_eq_nil_of_le h1, List.drop_eq_getElem_cons h2, lexL]
theorem lexL_end {α : Type} {c : α → α → Int} {ps qs : List α} {k : Nat} (h1 : ps.length ≤ k) (h2 : qs.length ≤ k) : lexL c (ps.drop k) (qs.drop k) = 0 := by
  rw [List.drop_eq_nil_of_le h1, List.drop_eq_nil_of_le h2, lexL]
theorem cmpTms_lex : ∀ (x y : List Tm), cmpTms x y = lexL cmpTm x y
  | [], [] => by simp [cmpTms, lexL]
  | [], _ :: _ => by simp [cmpTms, lexL]
  | _ :: _, [] => by simp [cmpTms, lexL]
  | x :: xs, y :: ys => by simp only [cmpTms, lexL, cmpTms_lex xs ys]

/-! Numbers. -/
def encInts (l : List Int) : List (List C) := l.map (fun n => [.lit (.int .i64 n)])
def okInts (l : List Int) : Prop := ∀ n ∈ l, I64 n
theorem okInts_enc : ∀ {l : List Int}, okInts l → okRows (fieldsOf .int) (encInts l)
  | [], _ => by simp [encInts, okRows]
  | n :: l, h => by
    simp only [encInts, List.map_cons, okRows]
    exact ⟨mkRow_Int (h n (by simp)), okInts_enc (fun m hm => h m (by simp [hm]))⟩
theorem decInts : ∀ {rows : List (List C)}, okRows (fieldsOf .int) rows → ∃ l, rows = encInts l ∧ okInts l
  | [], _ => ⟨[], by simp [encInts], by simp [okInts]⟩
  | r :: rs, h => by
    simp only [okRows] at h
    obtain ⟨n, rfl, hn⟩ := okRow_Int h.1
    obtain ⟨l, rfl, hl⟩ := decInts h.2
    exact ⟨n :: l, by simp [encInts], fun m hm => by
      rcases List.mem_cons.1 hm with rfl | hm
      · exact hn
      · exact hl m hm⟩
theorem encInts_len (l : List Int) : (encInts l).length = l.length := by simp [encInts]
theorem encInts_get (l : List Int) (i : Nat) : (encInts l)[i]? = l[i]?.map (fun n => [.lit (.int .i64 n)]) := by simp [encInts]

/-! Bindings. -/
structure Bd where
  var : Tm
  to : Tm
def encBd (b : Bd) : List C := encTm b.var ++ encTm b.to
def okBd (b : Bd) : Prop := okTm b.var ∧ okTm b.to
def okBds (l : List Bd) : Prop := ∀ b ∈ l, okBd b
def encBds (l : List Bd) : List (List C) := l.map encBd
def cmpBd (a b : Bd) : Int := firstNZ [cmpTm a.var b.var, cmpTm a.to b.to]
theorem okRow_encBd {b : Bd} (h : okBd b) : okRow (fieldsOf .binding) (encBd b) := by
  obtain ⟨⟨o, n, s, a⟩, ⟨o', n', s', a'⟩⟩ := b
  simp only [okBd, okTm] at h
  simp only [encBd, encTm, List.cons_append, List.nil_append]
  exact mkRow_Binding h.1.1 h.1.2.1 h.1.2.2.1 (okRows_enc a h.1.2.2.2) h.2.1 h.2.2.1 h.2.2.2.1 (okRows_enc a' h.2.2.2.2)
theorem okRows_encBds : ∀ {l : List Bd}, okBds l → okRows (fieldsOf .binding) (encBds l)
  | [], _ => by simp [encBds, okRows]
  | b :: l, h => by
    simp only [encBds, List.map_cons, okRows]
    exact ⟨okRow_encBd (h b (by simp)), okRows_encBds (fun m hm => h m (by simp [hm]))⟩
theorem decBds : ∀ {rows : List (List C)}, okRows (fieldsOf .binding) rows → ∃ l, rows = encBds l ∧ okBds l
  | [], _ => ⟨[], by simp [encBds], by simp [okBds]⟩
  | r :: rs, h => by
    simp only [okRows] at h
    obtain ⟨i0, t1, i2, r3, i4, t5, i6, r7, rfl, g0, g1, g2, g3, g4, g5, g6, g7⟩ := okRow_Binding h.1
    obtain ⟨l, rfl, hl⟩ := decBds h.2
    obtain ⟨a, rfl, ha⟩ := decTms g3
    obtain ⟨a', rfl, ha'⟩ := decTms g7
    refine ⟨⟨.mk i0 t1 i2 a, .mk i4 t5 i6 a'⟩ :: l, by simp [encBds, encBd, encTm], fun m hm => ?_⟩
    rcases List.mem_cons.1 hm with rfl | hm
    · exact ⟨by simp only [okTm]; exact ⟨g0, g1, g2, ha⟩, by simp only [okTm]; exact ⟨g4, g5, g6, ha'⟩⟩
    · exact hl m hm
theorem encBds_len (l : List Bd) : (encBds l).length = l.length := by simp [encBds]
theorem encBds_get (l : List Bd) (i : Nat) : (encBds l)[i]? = l[i]?.map encBd := by simp [encBds]
theorem repVals_cat {w : World} {S : Nat → Prop} : ∀ {cs ds : List C} {us vs : List Value}, RepVals w S (cs ++ ds) (us ++ vs) → us.length = cs.length → RepVals w S cs us ∧ RepVals w S ds vs
  | [], _, [], _, h, _ => ⟨by simp [RepVals], by simpa using h⟩
  | c :: cs, ds, u :: us, vs, h, hl => by
    simp only [List.cons_append, RepVals] at h ⊢
    obtain ⟨h1, h2⟩ := repVals_cat (cs := cs) (us := us) h.2 (by simpa using hl)
    exact ⟨⟨h.1, h1⟩, h2⟩
  | [], _, _ :: _, _, _, hl => by simp at hl
  | _ :: _, _, [], _, _, hl => by simp at hl

/-! Occurrences. -/
structure Occ where
  path : List Int
  left : List Tm
  right : List Tm
  mat : List Bd
def encOcc (o : Occ) : List C := [.sl (encInts o.path), .sl (encTms o.left), .sl (encTms o.right), .sl (encBds o.mat)]
def okOcc (o : Occ) : Prop := okInts o.path ∧ okTms o.left ∧ okTms o.right ∧ okBds o.mat
def cmpOcc (a b : Occ) : Int := firstNZ [lexL cmpInt a.path b.path, cmpTms a.left b.left, cmpTms a.right b.right, lexL cmpBd a.mat b.mat]
theorem okRow_encOcc {o : Occ} (h : okOcc o) : okRow (fieldsOf .occ) (encOcc o) := mkRow_Occurrence (okInts_enc h.1) (okRows_enc _ h.2.1) (okRows_enc _ h.2.2.1) (okRows_encBds h.2.2.2)
theorem decOcc {row : List C} (h : okRow (fieldsOf .occ) row) : ∃ o, row = encOcc o ∧ okOcc o := by
  obtain ⟨r0, r1, r2, r3, rfl, g0, g1, g2, g3⟩ := okRow_Occurrence h
  obtain ⟨p, rfl, hp⟩ := decInts g0
  obtain ⟨l, rfl, hl⟩ := decTms g1
  obtain ⟨r, rfl, hr⟩ := decTms g2
  obtain ⟨m, rfl, hm⟩ := decBds g3
  exact ⟨⟨p, l, r, m⟩, rfl, hp, hl, hr, hm⟩
end Go.Proofs.Ytiglacjigkcgkaa
