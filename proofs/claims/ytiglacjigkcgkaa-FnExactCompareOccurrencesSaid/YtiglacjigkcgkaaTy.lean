/-
  How the laws' types lie in memory.
-/
import Derived.Test.YtiglacjigkcgkaaOpen
set_option linter.unusedSimpArgs false
set_option linter.unusedVariables false
namespace Go.Proofs.Ytiglacjigkcgkaa
open Go.RowKit
def seatT : TN → TypeId
  | .int => 3
  | .term => 24
  | .binding => 92
  | .link => 87
  | .chain => 41
  | _ => 0
def seatR : TN → Prop
  | .int => True
  | .term => True
  | .binding => True
  | .link => True
  | .chain => True
  | _ => False
theorem ty_int : TyOk Try.prog seatT seatR 3 [.int] := .int Try.underlying3
theorem ty_str : TyOk Try.prog seatT seatR 9 [.str] := .str Try.underlying9
theorem ty_bool : TyOk Try.prog seatT seatR 4 [.bool] := .bool Try.underlying4
theorem ty_s_int : TyOk Try.prog seatT seatR 25 [.sl .int] := .sl (tn := .int) Try.underlying25 (by kernel_rfl) trivial
theorem ty_s_term : TyOk Try.prog seatT seatR 22 [.sl .term] := .sl (tn := .term) Try.underlying22 (by kernel_rfl) trivial
theorem ty_s_binding : TyOk Try.prog seatT seatR 50 [.sl .binding] := .sl (tn := .binding) Try.underlying50 (by kernel_rfl) trivial
theorem ty_s_link : TyOk Try.prog seatT seatR 39 [.sl .link] := .sl (tn := .link) Try.underlying39 (by kernel_rfl) trivial
theorem ty_s_chain : TyOk Try.prog seatT seatR 85 [.sl .chain] := .sl (tn := .chain) Try.underlying85 (by kernel_rfl) trivial
theorem ty_Term : TyOk Try.prog seatT seatR 24 (fieldsOf .term) := TyOk.st_of [[.int], [.str], [.int], [.sl .term]] Try.underlying24 (by kernel_rfl) (by kernel_rfl) ⟨ty_int, ty_str, ty_int, ty_s_term, trivial⟩
theorem ty_Binding : TyOk Try.prog seatT seatR 92 (fieldsOf .binding) := TyOk.st_of [termF, termF] Try.underlying92 (by kernel_rfl) (by kernel_rfl) ⟨ty_Term, ty_Term, trivial⟩
theorem ty_Occurrence : TyOk Try.prog seatT seatR 52 (fieldsOf .occ) := TyOk.st_of [[.sl .int], [.sl .term], [.sl .term], [.sl .binding]] Try.underlying52 (by kernel_rfl) (by kernel_rfl) ⟨ty_s_int, ty_s_term, ty_s_term, ty_s_binding, trivial⟩
theorem ty_Link : TyOk Try.prog seatT seatR 87 (fieldsOf .link) := TyOk.st_of [[.int], occF, [.sl .chain]] Try.underlying87 (by kernel_rfl) (by kernel_rfl) ⟨ty_int, ty_Occurrence, ty_s_chain, trivial⟩
theorem ty_Chain : TyOk Try.prog seatT seatR 41 (fieldsOf .chain) := TyOk.st_of [termF, termF, [.sl .link]] Try.underlying41 (by kernel_rfl) (by kernel_rfl) ⟨ty_Term, ty_Term, ty_s_link, trivial⟩
theorem seatTR : ∀ tn, seatR tn → TyOk Try.prog seatT seatR (seatT tn) (fieldsOf tn) := by
  intro tn h
  cases tn
  all_goals first
    | exact (h : False).elim
    | exact ty_int
    | exact ty_str
    | exact ty_s_int
    | exact ty_Term
    | exact ty_Binding
    | exact ty_Occurrence
    | exact ty_Link
    | exact ty_Chain
end Go.Proofs.Ytiglacjigkcgkaa
