/-
  The laws' counting, copying and comparing, as contracts of the plain machine.
-/
import Derived.Test.YtlhbdhdaecchoaaPe
import Derived.Test.YtlhbdhdaecchoaaLSignature
import Derived.Test.YtlhbdhdaecchoaaLWeight
set_option linter.unusedSimpArgs false
set_option linter.unusedVariables false
namespace Go.Proofs.Ytlhbdhdaecchoaa
open Go.RowKit

theorem con_szSignature {row : List C} (hok : okRow sigF row) {left : Int} (h0 : 0 ≤ left) (h1 : left ≤ 1048576) : Con e0 6 [.agg row, .one (.lit (.int .i64 left))] [.one (.lit (.int .i64 (sub left (bulkRow row))))] := by
  refine con_below e0_ok (by kernel_rfl) fun w S vs h => ?_
  match vs, h with
  | [v, u], h =>
    obtain ⟨⟨us, rfl, hu⟩, h2, _⟩ := h
    have h2 : u = .int .i64 left := by simpa [DRel, Rep] using h2
    subst h2
    exact (szSignature_any row S us left w hok hu h0 h1).mono fun e w' ⟨h1, h2⟩ => ⟨_, h1, h2, by simp [retA, ARel, DRel, Rep]⟩
theorem con_toSignature {row : List C} (hok : okRow sigF row) (hb : bulkRow row ≤ 1048576) : Con e0 9 [.agg row] [.agg row] := by
  refine con_below e0_ok (by kernel_rfl) fun w S vs h => ?_
  match vs, h with
  | [v], h =>
    obtain ⟨⟨us, rfl, hu⟩, _⟩ := h
    exact (toSignature_any row S us w hok hu hb).mono fun e w' ⟨us', h1, h2, h3⟩ => ⟨_, h1, h3, us', rfl, OwnVals.rep row _ _ us' (fun x hx => .inr hx) h2⟩
theorem con_eqSignature {row : List C} (hok : okRow sigF row) : Con e0 12 [.agg row, .agg row] [.one (.lit (.bool true))] := by
  refine con_below e0_ok (by kernel_rfl) fun w S vs h => ?_
  match vs, h with
  | [v, u], h =>
    obtain ⟨⟨us, rfl, hu⟩, ⟨us', rfl, hu'⟩, _⟩ := h
    exact (eqSignature_any row S S us us' w hok hu hu').mono fun e w' ⟨h1, h2⟩ => ⟨_, h1, h2, by simp [retA, ARel, DRel, Rep]⟩
theorem con_szWeightS {rows : List (List C)} (hok : okRows (fieldsOf .weight) rows) {left : Int} (h0 : 0 ≤ left) (h1 : left ≤ 1048576) : Con e0 14 [.one (.sl rows), .one (.lit (.int .i64 left))] [.one (.lit (.int .i64 (sub left (rows.length + bulkRows rows))))] := by
  refine con_below e0_ok (by kernel_rfl) fun w S vs h => ?_
  match vs, h with
  | [v, u], h =>
    obtain ⟨hu, h2, _⟩ := h
    have h2 : u = .int .i64 left := by simpa [DRel, Rep] using h2
    subst h2
    exact (szWeightS_any rows S v left w hok hu h0 h1).mono fun e w' ⟨h1, h2⟩ => ⟨_, h1, h2, by simp [retA, ARel, DRel, Rep]⟩
theorem con_toWeightS {rows : List (List C)} (hok : okRows (fieldsOf .weight) rows) (hb : rows.length + bulkRows rows ≤ 1048576) : Con e0 16 [.one (.sl rows)] [.one (.sl rows)] := by
  refine con_below e0_ok (by kernel_rfl) fun w S vs h => ?_
  match vs, h with
  | [v], h =>
    obtain ⟨hu, _⟩ := h
    exact (toWeightS_any rows S v w hok hu hb).mono fun e w' ⟨v', h1, h2, h3⟩ => ⟨_, h1, h3, (Own.rep _ _ v' h2).mono (fun x hx => .inr hx)⟩
theorem con_eqWeightS {rows : List (List C)} (hok : okRows (fieldsOf .weight) rows) : Con e0 18 [.one (.sl rows), .one (.sl rows)] [.one (.lit (.bool true))] := by
  refine con_below e0_ok (by kernel_rfl) fun w S vs h => ?_
  match vs, h with
  | [v, u], h =>
    obtain ⟨hu, hu', _⟩ := h
    exact (eqWeightS_any rows S S v u w hok hu hu').mono fun e w' ⟨h1, h2⟩ => ⟨_, h1, h2, by simp [retA, ARel, DRel, Rep]⟩
end Go.Proofs.Ytlhbdhdaecchoaa
