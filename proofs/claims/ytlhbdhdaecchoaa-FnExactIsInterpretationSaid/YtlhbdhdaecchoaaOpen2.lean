/-
  Reading an argument that is a slice.
-/
import Derived.Test.YtlhbdhdaecchoaaOpen
set_option linter.unusedSimpArgs false
set_option linter.unusedVariables false
namespace Go.Proofs.Ytlhbdhdaecchoaa
open Go.ChangeShapes Go.WideShapes Go.ChangeAt Go.RowKit Go.Deep

theorem okWide_one {P : Program} {w : World} {r : Reach} {base : Nat} {t e : TypeId} {v : Value} (ht : P.underlying t = some (.slice e)) (h : Value.okWide P w r base t v) : v.cells.toList = [v] := by
  simp only [Value.okWide, ht] at h
  cases v <;> first
    | rfl
    | (exfalso; simp [Cell.okWide, ht, Cell.ok] at h)
theorem open_sl {w : World} {tn : TN} {row : List C} {v : Value} (hok : okRow [.sl tn] row) (h : RepVals w (fun _ => True) row [v]) : ∃ rows, okRows (fieldsOf tn) rows ∧ Rep w (fun _ => True) (.sl rows) v := by
  match row, hok, h with
  | [c], hok, h =>
    simp only [okRow] at hok
    obtain ⟨rows, rfl, hr⟩ := okC_sl hok.1
    simp only [RepVals] at h
    exact ⟨rows, hr, h.1⟩
end Go.Proofs.Ytlhbdhdaecchoaa
