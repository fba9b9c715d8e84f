/-
  How the laws' types lie in memory.
-/
import Derived.Test.YtlhbdhdaecchoaaOpen
set_option linter.unusedSimpArgs false
set_option linter.unusedVariables false
namespace Go.Proofs.Ytlhbdhdaecchoaa
open Go.RowKit
def seatT : TN → TypeId
  | .int => 3
  | .str => 9
  | .ints => 59
  | .sub => 114
  | .decl => 122
  | .op => 85
  | .weight => 75
  | _ => 0
def seatR : TN → Prop
  | .int => True
  | .str => True
  | .ints => True
  | .sub => True
  | .decl => True
  | .op => True
  | .weight => True
  | _ => False
theorem ty_int : TyOk Try.prog seatT seatR 3 [.int] := .int Try.underlying3
theorem ty_str : TyOk Try.prog seatT seatR 9 [.str] := .str Try.underlying9
theorem ty_bool : TyOk Try.prog seatT seatR 4 [.bool] := .bool Try.underlying4
theorem ty_s_int : TyOk Try.prog seatT seatR 59 [.sl .int] := .sl (tn := .int) Try.underlying59 (by kernel_rfl) trivial
theorem ty_s_str : TyOk Try.prog seatT seatR 22 [.sl .str] := .sl (tn := .str) Try.underlying22 (by kernel_rfl) trivial
theorem ty_s_ints : TyOk Try.prog seatT seatR 29 [.sl .ints] := .sl (tn := .ints) Try.underlying29 (by kernel_rfl) trivial
theorem ty_s_sub : TyOk Try.prog seatT seatR 23 [.sl .sub] := .sl (tn := .sub) Try.underlying23 (by kernel_rfl) trivial
theorem ty_s_decl : TyOk Try.prog seatT seatR 83 [.sl .decl] := .sl (tn := .decl) Try.underlying83 (by kernel_rfl) trivial
theorem ty_s_op : TyOk Try.prog seatT seatR 26 [.sl .op] := .sl (tn := .op) Try.underlying26 (by kernel_rfl) trivial
theorem ty_s_weight : TyOk Try.prog seatT seatR 47 [.sl .weight] := .sl (tn := .weight) Try.underlying47 (by kernel_rfl) trivial
theorem ty_Sub : TyOk Try.prog seatT seatR 114 (fieldsOf .sub) := TyOk.st_of [[.int], [.int]] Try.underlying114 (by kernel_rfl) (by kernel_rfl) ⟨ty_int, ty_int, trivial⟩
theorem ty_Sorts : TyOk Try.prog seatT seatR 25 (sortsF) := TyOk.st_of [[.sl .str], [.sl .sub]] Try.underlying25 (by kernel_rfl) (by kernel_rfl) ⟨ty_s_str, ty_s_sub, trivial⟩
theorem ty_Decl : TyOk Try.prog seatT seatR 122 (fieldsOf .decl) := TyOk.st_of [[.sl .int], [.int]] Try.underlying122 (by kernel_rfl) (by kernel_rfl) ⟨ty_s_int, ty_int, trivial⟩
theorem ty_Op : TyOk Try.prog seatT seatR 85 (fieldsOf .op) := TyOk.st_of [[.str], [.sl .decl], [.bool], [.bool], [.int]] Try.underlying85 (by kernel_rfl) (by kernel_rfl) ⟨ty_str, ty_s_decl, ty_bool, ty_bool, ty_int, trivial⟩
theorem ty_Signature : TyOk Try.prog seatT seatR 28 (sigF) := TyOk.st_of [sortsF, [.sl .op]] Try.underlying28 (by kernel_rfl) (by kernel_rfl) ⟨ty_Sorts, ty_s_op, trivial⟩
theorem ty_Algebra : TyOk Try.prog seatT seatR 31 (algF) := TyOk.st_of [[.int], [.sl .ints]] Try.underlying31 (by kernel_rfl) (by kernel_rfl) ⟨ty_int, ty_s_ints, trivial⟩
theorem ty_Weight : TyOk Try.prog seatT seatR 75 (fieldsOf .weight) := TyOk.st_of [[.int], [.sl .int]] Try.underlying75 (by kernel_rfl) (by kernel_rfl) ⟨ty_int, ty_s_int, trivial⟩
theorem seatTR : ∀ tn, seatR tn → TyOk Try.prog seatT seatR (seatT tn) (fieldsOf tn) := by
  intro tn h
  cases tn
  all_goals first
    | exact (h : False).elim
    | exact ty_int
    | exact ty_str
    | exact ty_s_int
    | exact ty_Sub
    | exact ty_Decl
    | exact ty_Op
    | exact ty_Weight
end Go.Proofs.Ytlhbdhdaecchoaa
