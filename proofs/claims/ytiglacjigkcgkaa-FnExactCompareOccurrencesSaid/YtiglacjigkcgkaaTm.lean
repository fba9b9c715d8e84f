/-
  Terms as trees, how they stand as rows of cells, and their order. No program is named here.
-/
import Derived.Test.YtiglacjigkcgkaaLTerm
import Derived.Lib.Bytealg
set_option linter.unusedSimpArgs false
set_option linter.unusedVariables false
namespace Go.Proofs.Ytiglacjigkcgkaa
open Go.RowKit

inductive Tm where
  | mk (op : Int) (name : ByteArray) (sort : Int) (args : List Tm)
def Tm.args : Tm → List Tm | .mk _ _ _ a => a
def Tm.op : Tm → Int | .mk a _ _ _ => a
def Tm.name : Tm → ByteArray | .mk _ a _ _ => a
def Tm.sort : Tm → Int | .mk _ _ a _ => a
mutual
def encTm : Tm → List C
  | .mk op nm so args => [.lit (.int .i64 op), .lit (.string nm), .lit (.int .i64 so), .sl (encTms args)]
def encTms : List Tm → List (List C)
  | [] => []
  | t :: ts => encTm t :: encTms ts
end
mutual
def okTm : Tm → Prop
  | .mk op nm so args => I64 op ∧ nm.size ≤ maxLen ∧ I64 so ∧ okTms args
def okTms : List Tm → Prop
  | [] => True
  | t :: ts => okTm t ∧ okTms ts
end
theorem encTms_eq (ts : List Tm) : encTms ts = ts.map encTm := by
  induction ts with
  | nil => simp [encTms]
  | cons t ts ih => simp [encTms, ih]
theorem encTms_len (ts : List Tm) : (encTms ts).length = ts.length := by simp [encTms_eq]
theorem encTms_get (ts : List Tm) (i : Nat) : (encTms ts)[i]? = ts[i]?.map encTm := by simp [encTms_eq]
mutual
theorem okRow_enc : ∀ (t : Tm), okTm t → okRow (fieldsOf .term) (encTm t)
  | .mk op nm so args, h => by
    simp only [okTm] at h
    simp only [encTm]
    exact mkRow_Term h.1 h.2.1 h.2.2.1 (okRows_enc args h.2.2.2)
theorem okRows_enc : ∀ (ts : List Tm), okTms ts → okRows (fieldsOf .term) (encTms ts)
  | [], _ => by simp [encTms, okRows]
  | t :: ts, h => by
    simp only [okTms] at h
    simp only [encTms, okRows]
    exact ⟨okRow_enc t h.1, okRows_enc ts h.2⟩
end
theorem dec_both (n : Nat) : (∀ row, nodesRow row < n → okRow (fieldsOf .term) row → ∃ t, row = encTm t ∧ okTm t) ∧ (∀ rows, nodesRows rows < n → okRows (fieldsOf .term) rows → ∃ ts, rows = encTms ts ∧ okTms ts) := by
  induction n with
  | zero => exact ⟨fun _ h => by omega, fun _ h => by omega⟩
  | succ n ih =>
    have h1 : ∀ row, nodesRow row < n + 1 → okRow (fieldsOf .term) row → ∃ t, row = encTm t ∧ okTm t := by
      intro row hn hok
      obtain ⟨i0, t1, i2, r3, rfl, g0, g1, g2, g3⟩ := okRow_Term hok
      obtain ⟨ts, rfl, hts⟩ := ih.2 r3 (by simp only [nodesRow, nodesC] at hn; omega) g3
      exact ⟨.mk i0 t1 i2 ts, by simp [encTm], by simp only [okTm]; exact ⟨g0, g1, g2, hts⟩⟩
    refine ⟨h1, fun rows => ?_⟩
    induction rows with
    | nil => exact fun _ _ => ⟨[], by simp [encTms], by simp [okTms]⟩
    | cons r rs ihr =>
      intro hn hok
      simp only [nodesRows] at hn
      simp only [okRows] at hok
      obtain ⟨t, rfl, ht⟩ := h1 r (by omega) hok.1
      obtain ⟨ts, rfl, hts⟩ := ihr (by omega) hok.2
      exact ⟨t :: ts, by simp [encTms], by simp only [okTms]; exact ⟨ht, hts⟩⟩
theorem decTm {row : List C} (h : okRow (fieldsOf .term) row) : ∃ t, row = encTm t ∧ okTm t := (dec_both _).1 row (Nat.lt_succ_self _) h
theorem decTms {rows : List (List C)} (h : okRows (fieldsOf .term) rows) : ∃ ts, rows = encTms ts ∧ okTms ts := (dec_both _).2 rows (Nat.lt_succ_self _) h
theorem okTms.mem : ∀ {ts : List Tm} {t : Tm}, okTms ts → t ∈ ts → okTm t
  | [], _, _, h => by simp at h
  | x :: xs, t, h, ht => by
    simp only [okTms] at h
    rcases List.mem_cons.1 ht with rfl | ht
    · exact h.1
    · exact okTms.mem h.2 ht

/-! The order of terms. -/
def cmpInt (a b : Int) : Int := if a < b then -1 else if b < a then 1 else 0
def cmpStr (a b : ByteArray) : Int := Lib.compareBytes a.data.toList b.data.toList
def firstNZ : List Int → Int
  | [] => 0
  | x :: xs => if x = 0 then firstNZ xs else x
mutual
def cmpTm : Tm → Tm → Int
  | .mk o n s a, .mk o' n' s' a' => firstNZ [cmpInt o o', cmpStr n n', cmpInt s s', cmpTms a a']
def cmpTms : List Tm → List Tm → Int
  | [], [] => 0
  | [], _ :: _ => -1
  | _ :: _, [] => 1
  | x :: xs, y :: ys => firstNZ [cmpTm x y, cmpTms xs ys]
end
theorem compareBytes_self : ∀ (l : List UInt8), Lib.compareBytes l l = 0
  | [] => rfl
  | x :: xs => by simp [Lib.compareBytes, compareBytes_self xs]
theorem compareBytes_zero : ∀ {l m : List UInt8}, Lib.compareBytes l m = 0 → l = m
  | [], [], _ => rfl
  | [], _ :: _, h => by simp [Lib.compareBytes] at h
  | _ :: _, [], h => by simp [Lib.compareBytes] at h
  | x :: xs, y :: ys, h => by
    simp only [Lib.compareBytes] at h
    split at h
    · simp at h
    · split at h
      · simp at h
      · rename_i h1 h2
        have e : x = y := UInt8.le_antisymm (UInt8.not_lt.1 h2) (UInt8.not_lt.1 h1)
        rw [e, compareBytes_zero h]
theorem compareBytes_less : ∀ (l m : List UInt8), Op.bytesLess l m = decide (Lib.compareBytes l m = -1)
  | [], [] => by simp [Op.bytesLess, Lib.compareBytes]
  | [], _ :: _ => by simp [Op.bytesLess, Lib.compareBytes]
  | _ :: _, [] => by simp [Op.bytesLess, Lib.compareBytes]
  | x :: xs, y :: ys => by
    have ih := compareBytes_less xs ys
    simp only [Op.bytesLess, Lib.compareBytes, ih]
    by_cases h1 : x < y
    · simp [h1]
    · by_cases h2 : y < x
      · have : ¬ x = y := fun e => by subst e; exact h1 h2
        simp [h1, h2, this]
      · have e : x = y := UInt8.le_antisymm (UInt8.not_lt.1 h2) (UInt8.not_lt.1 h1)
        subst e
        simp [h1]
theorem compareBytes_range : ∀ (l m : List UInt8), Lib.compareBytes l m = -1 ∨ Lib.compareBytes l m = 0 ∨ Lib.compareBytes l m = 1
  | [], [] => by simp [Lib.compareBytes]
  | [], _ :: _ => by simp [Lib.compareBytes]
  | _ :: _, [] => by simp [Lib.compareBytes]
  | x :: xs, y :: ys => by
    have ih := compareBytes_range xs ys
    simp only [Lib.compareBytes]
    split
    · simp
    · split
      · simp
      · exact ih
theorem cmpInt_range (a b : Int) : cmpInt a b = -1 ∨ cmpInt a b = 0 ∨ cmpInt a b = 1 := by unfold cmpInt; split <;> (try split) <;> simp
theorem cmpInt_zero {a b : Int} : cmpInt a b = 0 ↔ a = b := by unfold cmpInt; split <;> (try split) <;> simp <;> omega
theorem cmpStr_zero {a b : ByteArray} : cmpStr a b = 0 ↔ a = b := by
  constructor
  · intro h
    have := compareBytes_zero h
    obtain ⟨⟨la⟩⟩ := a
    obtain ⟨⟨lb⟩⟩ := b
    simp at this
    rw [this]
  · rintro rfl
    exact compareBytes_self _
theorem cmpStr_range (a b : ByteArray) : cmpStr a b = -1 ∨ cmpStr a b = 0 ∨ cmpStr a b = 1 := compareBytes_range _ _
def In3 (c : Int) : Prop := c = -1 ∨ c = 0 ∨ c = 1
theorem firstNZ_range : ∀ {l : List Int}, (∀ c ∈ l, In3 c) → In3 (firstNZ l)
  | [], _ => .inr (.inl rfl)
  | x :: xs, h => by
    simp only [firstNZ]
    split
    · exact firstNZ_range (fun c hc => h c (by simp [hc]))
    · exact h x (by simp)
mutual
theorem cmpTm_range : ∀ (a b : Tm), In3 (cmpTm a b)
  | .mk o n s a, .mk o' n' s' a' => by
    simp only [cmpTm]
    refine firstNZ_range (fun c hc => ?_)
    simp only [List.mem_cons, List.not_mem_nil, or_false] at hc
    rcases hc with rfl | rfl | rfl | rfl
    · exact cmpInt_range _ _
    · exact cmpStr_range _ _
    · exact cmpInt_range _ _
    · exact cmpTms_range a a'
theorem cmpTms_range : ∀ (a b : List Tm), In3 (cmpTms a b)
  | [], [] => .inr (.inl (by simp [cmpTms]))
  | [], _ :: _ => .inl (by simp [cmpTms])
  | _ :: _, [] => .inr (.inr (by simp [cmpTms]))
  | x :: xs, y :: ys => by
    simp only [cmpTms]
    refine firstNZ_range (fun c hc => ?_)
    simp only [List.mem_cons, List.not_mem_nil, or_false] at hc
    rcases hc with rfl | rfl
    · exact cmpTm_range x y
    · exact cmpTms_range xs ys
end
/-- The two lists agree in their first k elements. -/
theorem cmpTms_step : ∀ {ps qs : List Tm} {k : Nat} {x y : Tm}, ps[k]? = some x → qs[k]? = some y → cmpTms (ps.drop k) (qs.drop k) = firstNZ [cmpTm x y, cmpTms (ps.drop (k + 1)) (qs.drop (k + 1))] := by
  intro ps qs k x y h1 h2
  have e1 : ps.drop k = x :: ps.drop (k + 1) := by
    obtain ⟨hl, hx⟩ := List.getElem?_eq_some_iff.1 h1
    rw [← hx]; exact List.drop_eq_getElem_cons hl
  have e2 : qs.drop k = y :: qs.drop (k + 1) := by
    obtain ⟨hl, hx⟩ := List.getElem?_eq_some_iff.1 h2
    rw [← hx]; exact List.drop_eq_getElem_cons hl
  rw [e1, e2, cmpTms]
end Go.Proofs.Ytiglacjigkcgkaa
