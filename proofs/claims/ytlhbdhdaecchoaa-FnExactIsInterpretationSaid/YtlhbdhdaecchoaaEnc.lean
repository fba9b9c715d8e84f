/-
  Sorts, operators and signatures as plain data, and how they stand as rows of cells. No function of the program is named here.
-/
import Derived.Test.YtlhbdhdaecchoaaLSignature
set_option linter.unusedSimpArgs false
set_option linter.unusedVariables false
namespace Go.Proofs.Ytlhbdhdaecchoaa
open Go.RowKit

theorem decL {α : Type} {fs : List F} {e : α → List C} {p : α → Prop} (hd : ∀ row, okRow fs row → ∃ a, row = e a ∧ p a) : ∀ {rows : List (List C)}, okRows fs rows → ∃ l : List α, rows = l.map e ∧ ∀ x ∈ l, p x
  | [], _ => ⟨[], rfl, by simp⟩
  | r :: rs, h => by
    simp only [okRows] at h
    obtain ⟨a, rfl, ha⟩ := hd r h.1
    obtain ⟨l, rfl, hl⟩ := decL hd h.2
    exact ⟨a :: l, rfl, fun x hx => by
      rcases List.mem_cons.1 hx with rfl | hx
      · exact ha
      · exact hl x hx⟩
theorem okL {α : Type} {fs : List F} {e : α → List C} {p : α → Prop} (hk : ∀ a, p a → okRow fs (e a)) : ∀ {l : List α}, (∀ x ∈ l, p x) → okRows fs (l.map e)
  | [], _ => by simp [okRows]
  | a :: l, h => by
    simp only [List.map_cons, okRows]
    exact ⟨hk a (h a (by simp)), okL hk (fun x hx => h x (by simp [hx]))⟩

def encInt (n : Int) : List C := [.lit (.int .i64 n)]
def encStr (s : ByteArray) : List C := [.lit (.string s)]
def encSub (p : Int × Int) : List C := [.lit (.int .i64 p.1), .lit (.int .i64 p.2)]
def okSub (p : Int × Int) : Prop := I64 p.1 ∧ I64 p.2
def okStr (s : ByteArray) : Prop := s.size ≤ maxLen
theorem decInt : ∀ row, okRow (fieldsOf .int) row → ∃ a, row = encInt a ∧ I64 a := fun row h => okRow_Int h
theorem okInt : ∀ a, I64 a → okRow (fieldsOf .int) (encInt a) := fun a h => mkRow_Int h
theorem decStr : ∀ row, okRow (fieldsOf .str) row → ∃ a, row = encStr a ∧ okStr a := fun row h => okRow_String h
theorem okStrR : ∀ a, okStr a → okRow (fieldsOf .str) (encStr a) := fun a h => mkRow_String h
theorem decSub : ∀ row, okRow (fieldsOf .sub) row → ∃ a, row = encSub a ∧ okSub a := fun row h => by
  obtain ⟨i0, i1, rfl, h0, h1⟩ := okRow_Sub h
  exact ⟨(i0, i1), rfl, h0, h1⟩
theorem okSubR : ∀ a, okSub a → okRow (fieldsOf .sub) (encSub a) := fun a h => mkRow_Sub h.1 h.2

structure Srt where
  names : List ByteArray
  subs : List (Int × Int)
def encSrt (s : Srt) : List C := [.sl (s.names.map encStr), .sl (s.subs.map encSub)]
def okSrt (s : Srt) : Prop := (∀ x ∈ s.names, okStr x) ∧ ∀ x ∈ s.subs, okSub x
theorem decSrt {row : List C} (h : okRow sortsF row) : ∃ s, row = encSrt s ∧ okSrt s := by
  obtain ⟨r0, r1, rfl, g0, g1⟩ := okRow_Sorts h
  obtain ⟨l0, rfl, k0⟩ := decL decStr g0
  obtain ⟨l1, rfl, k1⟩ := decL decSub g1
  exact ⟨⟨l0, l1⟩, rfl, k0, k1⟩
theorem okSrtR {s : Srt} (h : okSrt s) : okRow sortsF (encSrt s) := mkRow_Sorts (okL okStrR h.1) (okL okSubR h.2)

structure Dcl where
  args : List Int
  res : Int
def encDcl (d : Dcl) : List C := [.sl (d.args.map encInt), .lit (.int .i64 d.res)]
def okDcl (d : Dcl) : Prop := (∀ x ∈ d.args, I64 x) ∧ I64 d.res
theorem decDcl : ∀ row, okRow (fieldsOf .decl) row → ∃ a, row = encDcl a ∧ okDcl a := fun row h => by
  obtain ⟨r0, i1, rfl, g0, g1⟩ := okRow_Decl h
  obtain ⟨l0, rfl, k0⟩ := decL decInt g0
  exact ⟨⟨l0, i1⟩, rfl, k0, g1⟩
theorem okDclR : ∀ a, okDcl a → okRow (fieldsOf .decl) (encDcl a) := fun a h => mkRow_Decl (okL okInt h.1) h.2

structure Opr where
  name : ByteArray
  decls : List Dcl
  assoc : Bool
  comm : Bool
  unit : Int
def encOpr (o : Opr) : List C := [.lit (.string o.name), .sl (o.decls.map encDcl), .lit (.bool o.assoc), .lit (.bool o.comm), .lit (.int .i64 o.unit)]
def okOpr (o : Opr) : Prop := okStr o.name ∧ (∀ x ∈ o.decls, okDcl x) ∧ I64 o.unit
theorem decOpr : ∀ row, okRow (fieldsOf .op) row → ∃ a, row = encOpr a ∧ okOpr a := fun row h => by
  obtain ⟨t0, r1, p2, p3, i4, rfl, g0, g1, _, _, g4⟩ := okRow_Op h
  obtain ⟨l1, rfl, k1⟩ := decL decDcl g1
  exact ⟨⟨t0, l1, p2, p3, i4⟩, rfl, g0, k1, g4⟩
theorem okOprR : ∀ a, okOpr a → okRow (fieldsOf .op) (encOpr a) := fun a h => mkRow_Op h.1 (okL okDclR h.2.1) trivial trivial h.2.2

structure Sgn where
  sorts : Srt
  ops : List Opr
def encSgn (s : Sgn) : List C := [.sl (s.sorts.names.map encStr), .sl (s.sorts.subs.map encSub), .sl (s.ops.map encOpr)]
def okSgn (s : Sgn) : Prop := okSrt s.sorts ∧ ∀ x ∈ s.ops, okOpr x
theorem decSgn {row : List C} (h : okRow sigF row) : ∃ s, row = encSgn s ∧ okSgn s := by
  obtain ⟨r0, r1, r2, rfl, g0, g1, g2⟩ := okRow_Signature h
  obtain ⟨l0, rfl, k0⟩ := decL decStr g0
  obtain ⟨l1, rfl, k1⟩ := decL decSub g1
  obtain ⟨l2, rfl, k2⟩ := decL decOpr g2
  exact ⟨⟨⟨l0, l1⟩, l2⟩, rfl, ⟨k0, k1⟩, k2⟩
theorem okSgnR {s : Sgn} (h : okSgn s) : okRow sigF (encSgn s) := mkRow_Signature (okL okStrR h.1.1) (okL okSubR h.1.2) (okL okOprR h.2)

/-! Reading elements. -/
theorem Rep.at {α : Type} {w : World} {S : Nat → Prop} {fs : List F} {e : α → List C} {p : α → Prop} (hk : ∀ a, p a → okRow fs (e a)) {l : List α} (hl : ∀ x ∈ l, p x) {A : Option Addr} {m cap k : Nat} {a : α}
    (h : Rep w S (.sl (l.map e)) (.slice A m cap)) (ha : l[k]? = some a) : ∃ b off, A = some ⟨b, off, none⟩ ∧ S b ∧ b < w.heap.size ∧ RepRow w S b (off + k * fs.length) (e a) := by
  have hkl : k < l.length := (List.getElem?_eq_some_iff.1 ha).1
  obtain ⟨A', m', cap', hf, hm, _, _⟩ := h.form
  injection hf with h1 h2 h3
  subst h1 h2 h3
  obtain ⟨b, off, r, rfl, hS, hbz, hget, hokr, hrow⟩ := h.get (okL hk hl) (i := k) (by rw [← hm]; simpa using hkl)
  refine ⟨b, off, rfl, hS, hbz, ?_⟩
  rw [List.getElem?_map, ha] at hget
  simp only [Option.map_some, Option.some.injEq] at hget
  rw [hget]
  exact hrow
theorem Rep.shape {α : Type} {w : World} {S : Nat → Prop} {e : α → List C} {l : List α} {v : Value} (h : Rep w S (.sl (l.map e)) v) : ∃ A cap, v = .slice A l.length cap ∧ l.length ≤ cap ∧ cap ≤ maxLen := by
  obtain ⟨A, m, cap, rfl, hm, h1, h2⟩ := h.form
  rw [List.length_map] at hm
  subst hm
  exact ⟨A, cap, rfl, h1, h2⟩
end Go.Proofs.Ytlhbdhdaecchoaa
