/-
  Algebras as plain data; what a valid one is. The reference's l22Power.
-/
import Derived.Test.YtlhbdhdaecchoaaSgn
import Derived.Test.YtlhbdhdaecchoaaLAlgebra
set_option linter.unusedSimpArgs false
set_option linter.unusedVariables false
namespace Go.Proofs.Ytlhbdhdaecchoaa
open Go.RowKit Go.Sort

def encInts (l : List Int) : List C := [.sl (l.map encInt)]
def okInts (l : List Int) : Prop := ∀ x ∈ l, I64 x
theorem decInts : ∀ row, okRow (fieldsOf .ints) row → ∃ a, row = encInts a ∧ okInts a := fun row h => by
  obtain ⟨r0, rfl, g0⟩ := okRow_Ints h
  obtain ⟨l, rfl, hl⟩ := decL decInt g0
  exact ⟨l, rfl, hl⟩
theorem okIntsR : ∀ a, okInts a → okRow (fieldsOf .ints) (encInts a) := fun a h => mkRow_Ints (okL okInt h)
structure Alg where
  size : Int
  tables : List (List Int)
def encAlg (a : Alg) : List C := [.lit (.int .i64 a.size), .sl (a.tables.map encInts)]
def okAlg (a : Alg) : Prop := I64 a.size ∧ ∀ t ∈ a.tables, okInts t
theorem decAlg {row : List C} (h : okRow algF row) : ∃ a, row = encAlg a ∧ okAlg a := by
  obtain ⟨i0, r1, rfl, g0, g1⟩ := okRow_Algebra h
  obtain ⟨l, rfl, hl⟩ := decL decInts g1
  exact ⟨⟨i0, l⟩, rfl, g0, hl⟩
theorem okAlgR {a : Alg} (h : okAlg a) : okRow algF (encAlg a) := mkRow_Algebra h.1 (okL okIntsR h.2)
theorem Rep.intsAt {w : World} {S : Nat → Prop} {l : List (List Int)} {A : Option Addr} {m cap k : Nat} {t : List Int} (hl : ∀ x ∈ l, okInts x) (h : Rep w S (.sl (l.map encInts)) (.slice A m cap)) (ht : l[k]? = some t) :
    ∃ b off At ct, A = some ⟨b, off, none⟩ ∧ b < w.heap.size ∧ w.cell? ⟨b, off + k, none⟩ = some (.slice At t.length ct) ∧ t.length ≤ ct ∧ ct ≤ maxLen ∧ Rep w S (.sl (t.map encInt)) (.slice At t.length ct) := by
  obtain ⟨b, off, rfl, _, hb, hr⟩ := Rep.at okIntsR hl h ht
  simp only [encInts, RepRow, and_true, fieldsOf, List.length_cons, List.length_nil, Nat.zero_add, Nat.mul_one] at hr
  obtain ⟨u, c0, r0⟩ := hr
  obtain ⟨At, ct, rfl, h1, h2⟩ := r0.shape
  exact ⟨b, off, At, ct, rfl, hb, c0, h1, h2, r0⟩

structure TabOk (z : Int) (n : Nat) (t : List Int) : Prop where
  len : t.length = z.toNat ^ n
  all : ∀ x ∈ t, 0 ≤ x ∧ x < z
structure AlgOk (g : Sgn) (a : Alg) : Prop where
  sgn : SgnOk g
  lo : 1 ≤ a.size
  hi : a.size ≤ 4
  len : a.tables.length = g.ops.length
  tab : ∀ (i : Nat) (o : Opr) (d : Dcl) (t : List Int), g.ops[i]? = some o → o.decls[0]? = some d → a.tables[i]? = some t → TabOk a.size d.args.length t
open Classical in
noncomputable def isAlg (g : Sgn) (a : Alg) : Bool := decide (AlgOk g a)
theorem isAlg_true {g : Sgn} {a : Alg} (h : AlgOk g a) : isAlg g a = true := by simp [isAlg, h]
theorem isAlg_false {g : Sgn} {a : Alg} (h : ¬ AlgOk g a) : isAlg g a = false := by simp [isAlg, h]
theorem isAlg_iff {g : Sgn} {a : Alg} : isAlg g a = true ↔ AlgOk g a := by simp [isAlg]
def algC (f : FuncId) : Prop := ∀ (g : Sgn) (a : Alg) (S : Nat → Prop) (vs us : List Value) (w : World), okSgn g → okAlg a → RepVals w S (encSgn g) vs → RepVals w S (encAlg a) us →
  Calls Try.prog f #[.agg vs.toArray, .agg us.toArray] w fun e w' => e = .returned (.bool (isAlg g a)) ∧ Below w.heap.size w w'
theorem pow_le64 {z j : Nat} (hz : z ≤ 4) (hj : j ≤ 3) : z ^ j ≤ 64 := Nat.le_trans (Nat.pow_le_pow_left hz j) (Nat.le_trans (Nat.pow_le_pow_right (by omega) hj) (by decide))
theorem wrap_mul {p z : Nat} (hp : p ≤ 64) (hz : z ≤ 4) : wrap64 ((p : Int) * (z : Int)) = ((p * z : Nat) : Int) ∧ IntKind.i64.wrap ((p : Int) * (z : Int)) = ((p * z : Nat) : Int) := by
  have h : p * z ≤ 64 * 4 := Nat.mul_le_mul hp hz
  have e : (p : Int) * (z : Int) = ((p * z : Nat) : Int) := by rw [Int.natCast_mul]
  rw [e]
  generalize p * z = q at *
  constructor
  · exact IntWalk.wrap64_in _ (by omega)
  · exact IntWalk.i64_in _ (by omega)
end Go.Proofs.Ytlhbdhdaecchoaa
