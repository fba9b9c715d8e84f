/-
  The plain machine's equations, one for each form, so that rewriting goes the way of the run. No function of the program is named here.
-/
import Derived.Test.YtlhbdhdaecchoaaPm8
set_option linter.unusedSimpArgs false
set_option linter.unusedVariables false
namespace Go.Proofs.Ytlhbdhdaecchoaa
open Go.RowKit
section
variable {P : Program} {d : Option Nat} {ds : List (Option Nat)} {os : List Oper} {n : St → Res} {s : List (Nat × A)} {m : List (Nat × List C)} {σ : St}
def contA (n : St → Res) (s : List (Nat × A)) (m : List (Nat × List C)) (d : Option Nat) : Option A → Res
  | some α => n ⟨setA s d α, m⟩
  | none => .bad
theorem contA_some {α : A} : contA n s m d (some α) = n ⟨setA s d α, m⟩ := rfl
theorem contR_putE {x : Option A} : contR (putE ⟨s, m⟩ d x) n = contA n s m d x := by cases x <;> rfl
theorem ro_nil : runOps P ds [] ⟨s, m⟩ = .done ⟨s, m⟩ := rfl
theorem ro_n {op : Op} {t : TypeId} {p : String} {a : Array Edge} : runOps P ds (⟨d, op, t, p, a, none⟩ :: os) ⟨s, m⟩ = stepR P d os (runOps P ds os) op ⟨s, m⟩ := rfl
theorem ro_g {op : Op} {t : TypeId} {p : String} {a : Array Edge} {j : Nat} {w : Bool} : runOps P ds (⟨d, op, t, p, a, some (j, w)⟩ :: os) ⟨s, m⟩ = guardR w (stepR P d os (runOps P ds os) op) (skipR d (runOps P ds os)) ⟨s, m⟩ ((ds[j]?.join).map (gs s)) := rfl
theorem g_some {y x : St → Res} {b w : Bool} : guardR w y x σ (some (.d (.one (.lit (.bool b))))) = pickR y x σ (b == w) := rfl
theorem pk_t {y x : St → Res} : pickR y x σ true = y σ := rfl
theorem pk_f {y x : St → Res} : pickR y x σ false = x σ := rfl
theorem sk_r : skipR d n ⟨s, m⟩ = n ⟨setA s d .no, m⟩ := rfl
theorem g_no {y x : St → Res} {w : Bool} : guardR w y x σ (some .no) = x σ := rfl
theorem R_move {x : Operand} : stepR P d os n (.move x) ⟨s, m⟩ = n ⟨setA s d (evA s x), m⟩ := rfl
theorem R_assign {x : Operand} : stepR P d os n (.assign x) ⟨s, m⟩ = n ⟨setA s d (evA s x), m⟩ := rfl
theorem R_pick {c a b : Operand} : stepR P d os n (.pick c a b) ⟨s, m⟩ = contA n s m d (pickA (evA s a) (evA s b) (evA s c)) := contR_putE
theorem R_load {t : TypeId} {x : Operand} : stepR P d os n (.load t x) ⟨s, m⟩ = contA n s m d (loadA (kindT P t) (ptrA m (evA s x))) := contR_putE
theorem R_fieldAddr {t : TypeId} {x : Operand} {f : Nat} : stepR P d os n (.fieldAddr t x f) ⟨s, m⟩ = contA n s m d (fieldAddrA (evA s x) (offT P t f)) := contR_putE
theorem R_field {t : TypeId} {x : Operand} {f : Nat} : stepR P d os n (.field t x f) ⟨s, m⟩ = contA n s m d (fieldA P (evA s x) (offT P t f)) := contR_putE
theorem R_indexAddr {t : TypeId} {x i : Operand} : stepR P d os n (.indexAddr t x i) ⟨s, m⟩ = contA n s m d (indexAddrA (elemT P t) (evA s x) (evA s i)) := contR_putE
theorem R_index {t : TypeId} {x i : Operand} : stepR P d os n (.index t x i) ⟨s, m⟩ = contA n s m d (indexA (P.underlying t) (evA s x) (evA s i)) := contR_putE
theorem R_bin {op : BinOp} {t t' : TypeId} {x y : Operand} : stepR P d os n (.binOp op t x y t') ⟨s, m⟩ = contA n s m d (binA P t op (evA s x) (evA s y)) := contR_putE
theorem R_un {op : UnOp} {t : TypeId} {x : Operand} : stepR P d os n (.unOp op t x) ⟨s, m⟩ = contA n s m d (unA op (evA s x)) := contR_putE
theorem R_extract {x : Operand} {i : Nat} : stepR P d os n (.extract x i) ⟨s, m⟩ = contA n s m d (extractA i (evA s x)) := contR_putE
theorem R_nil {x : Operand} : stepR P d os n (.nilCheck x) ⟨s, m⟩ = contA n s m d (nilA (evA s x)) := contR_putE
theorem R_len {args : List Operand} {ts : Array TypeId} : stepR P d os n (.call ⟨.builtin .len, args.toArray, ts⟩) ⟨s, m⟩ = contA n s m d (lenA (lenT P ts) (args.map (evA s))) := contR_putE
theorem R_call {f : FuncId} {args : List Operand} {ts : Array TypeId} : stepR P d os n (.call ⟨.value (.func f), args.toArray, ts⟩) ⟨s, m⟩ = callR f d os ⟨s, m⟩ (dsA (args.map (evA s))) := rfl
theorem c_some {f : FuncId} {xs : List D} : callR f d os σ (some xs) = .call f xs d os σ := rfl
theorem R_alloc {t : TypeId} : stepR P d os n (.alloc t) ⟨s, m⟩ = contR (newE ⟨s, m⟩ d (zeroT P t)) n := rfl
theorem R_box {t : TypeId} {x : Operand} : stepR P d os n (.box t x) ⟨s, m⟩ = contR (newE ⟨s, m⟩ d (cellsA (evA s x))) n := rfl
theorem R_store {t : TypeId} {x y : Operand} : stepR P d os n (.store t x y) ⟨s, m⟩ = contR (storeE ⟨s, m⟩ d (evA s x) (cellsA (evA s y)) (sizeT P t)) n := rfl
theorem k_some : contR (some σ) n = n σ := rfl
theorem n_some {k : Nat} {cs : List C} : newE ⟨s, m⟩ (some k) (some cs) = some ⟨(k, .ref k 0) :: killR k s, (k, cs) :: m⟩ := rfl
def storeC (s : List (Nat × A)) (m : List (Nat × List C)) (k off n : Nat) (us : List C) : Option (List C) → Option St
  | some cs => if us.length = n ∧ off + n ≤ cs.length then some ⟨s, (k, cs.take off ++ us ++ cs.drop (off + n)) :: m⟩ else none
  | none => none
theorem s_some {k off n : Nat} {us : List C} : storeE ⟨s, m⟩ none (.ref k off) (some us) (some n) = storeC s m k off n us (gm m k) := by
  unfold storeE storeC
  rfl
theorem s_cell {k off n : Nat} {us cs : List C} : storeC s m k off n us (some cs) = if us.length = n ∧ off + n ≤ cs.length then some ⟨s, (k, cs.take off ++ us ++ cs.drop (off + n)) :: m⟩ else none := rfl
theorem e_tmp {t : Nat} : evA s (.tmp t) = gs s t := rfl
theorem e_const {v : Value} : evA s (.const v) = .d (.one (toC v)) := rfl
theorem t_int {k : IntKind} {i : Int} : toC (.int k i) = .lit (.int k i) := rfl
theorem t_bool {b : Bool} : toC (.bool b) = .lit (.bool b) := rfl
theorem t_str {b : ByteArray} : toC (.string b) = .lit (.string b) := rfl
theorem t_sl : toC (.slice none 0 0) = .sl [] := rfl
theorem sa_some {k : Nat} {a : A} : setA s (some k) a = (k, a) :: s := rfl
theorem sa_none {a : A} : setA s none a = s := rfl
theorem p_elt {cs : List C} : ptrA m (.d (.elt cs)) = some cs := rfl
theorem p_ref {k off : Nat} : ptrA m (.ref k off) = (gm m k).map (·.drop off) := rfl
theorem l_some {k : TK} {cs : List C} : loadA (some k) (some cs) = valT k cs := rfl
theorem v_one {c : C} {cs : List C} : valT .one (c :: cs) = some (.d (.one c)) := rfl
theorem v_agg {k : Nat} {cs : List C} : valT (.agg k) cs = if k ≤ cs.length then some (.d (.agg (cs.take k))) else none := rfl
theorem pa_bool {a b : A} {t : Bool} : pickA a b (.d (.one (.lit (.bool t)))) = some (if t = true then a else b) := rfl
theorem fa_elt {cs : List C} {k : Nat} {t : TypeId} : fieldAddrA (.d (.elt cs)) (some (k, t)) = some (.d (.elt (cs.drop k))) := rfl
theorem fa_ref {b off k : Nat} {t : TypeId} : fieldAddrA (.ref b off) (some (k, t)) = some (.ref b (off + k)) := rfl
theorem f_agg {cs : List C} {k : Nat} {t : TypeId} : fieldA P (.d (.agg cs)) (some (k, t)) = loadA (kindT P t) (some (cs.drop k)) := rfl
theorem ia_sl {k : Nat} {rows : List (List C)} {kk : IntKind} {j : Int} : indexAddrA (some k) (.d (.one (.sl rows))) (.d (.one (.lit (.int kk j)))) = if 0 ≤ j then if rowsB k rows = true then eltA rows[j.toNat]? else none else none := rfl
theorem el_some {r : List C} : eltA (some r) = some (.d (.elt r)) := rfl
theorem i_str {b : ByteArray} {kk : IntKind} {j : Int} : indexA (some .string) (.d (.one (.lit (.string b)))) (.d (.one (.lit (.int kk j)))) = if 0 ≤ j then byteA b[j.toNat]? else none := rfl
theorem by_some {b : UInt8} : byteA (some b) = some (.d (.one (.lit (.int .u8 b.toNat)))) := rfl
theorem li_some {v : Value} : litA (some v) = some (.d (.one (.lit v))) := rfl
theorem b_lit {op : BinOp} {t : TypeId} {a b : Value} : binA P t op (.d (.one (.lit a))) (.d (.one (.lit b))) = litA (binT P op t a b) := rfl
theorem u_lit {op : UnOp} {a : Value} : unA op (.d (.one (.lit a))) = litA (unV op a) := rfl
theorem un_not {b : Bool} : unV .not (.bool b) = some (.bool (!b)) := rfl
theorem un_neg {a : Int} : unV .neg (.int .i64 a) = some (.int .i64 (IntKind.i64.wrap (0 - a))) := rfl
theorem da_some {x : D} : dA (some x) = some (.d x) := rfl
theorem x_tup {i : Nat} {xs : List D} : extractA i (.tup xs) = dA xs[i]? := rfl
theorem nl_elt {cs : List C} : nilA (.d (.elt cs)) = some (.d (.elt cs)) := rfl
theorem nl_ref {k off : Nat} : nilA (.ref k off) = some (.ref k off) := rfl
theorem ln_sl {rows : List (List C)} : lenA (some true) [.d (.one (.sl rows))] = some (.d (.one (.lit (.int .i64 rows.length)))) := rfl
theorem ln_str {b : ByteArray} : lenA (some false) [.d (.one (.lit (.string b)))] = some (.d (.one (.lit (.int .i64 b.size)))) := rfl
theorem ce_one {c : C} : cellsA (.d (.one c)) = if okCell c = true then some [c] else none := rfl
theorem ce_agg {cs : List C} : cellsA (.d (.agg cs)) = if cs.all okCell = true then some cs else none := rfl
theorem ok_int {k : IntKind} {i : Int} : okCell (.lit (.int k i)) = true := rfl
theorem ok_bool {b : Bool} : okCell (.lit (.bool b)) = true := rfl
theorem ok_str {b : ByteArray} : okCell (.lit (.string b)) = true := rfl
theorem ok_sl {rows : List (List C)} : okCell (.sl rows) = true := rfl
theorem r_one {x : D} : retA [x] = .d x := rfl
theorem r_two {x y : D} {r : List D} : retA (x :: y :: r) = .tup (x :: y :: r) := rfl
theorem r_no : retA [] = .tup [] := rfl
theorem bv_add {t : TypeId} {a b : Int} : binT P .add t (.int .i64 a) (.int .i64 b) = some (.int .i64 (IntKind.i64.wrap (a + b))) := rfl
theorem bv_sub {t : TypeId} {a b : Int} : binT P .sub t (.int .i64 a) (.int .i64 b) = some (.int .i64 (IntKind.i64.wrap (a - b))) := rfl
theorem bv_mul {t : TypeId} {a b : Int} : binT P .mul t (.int .i64 a) (.int .i64 b) = some (.int .i64 (IntKind.i64.wrap (a * b))) := rfl
theorem bv_lss {t : TypeId} {a b : Int} : binT P .lss t (.int .i64 a) (.int .i64 b) = some (.bool (decide (a < b))) := rfl
theorem bv_leq {t : TypeId} {a b : Int} : binT P .leq t (.int .i64 a) (.int .i64 b) = some (.bool (decide (a ≤ b))) := rfl
theorem bv_gtr {t : TypeId} {a b : Int} : binT P .gtr t (.int .i64 a) (.int .i64 b) = some (.bool (decide (b < a))) := rfl
theorem bv_geq {t : TypeId} {a b : Int} : binT P .geq t (.int .i64 a) (.int .i64 b) = some (.bool (decide (b ≤ a))) := rfl
theorem bv_eql {t : TypeId} {a b : Int} : binT P .eql t (.int .i64 a) (.int .i64 b) = some (.bool (decide (a = b))) := rfl
theorem bv_neq {t : TypeId} {a b : Int} : binT P .neq t (.int .i64 a) (.int .i64 b) = some (.bool (!decide (a = b))) := rfl
theorem bw_lss {t : TypeId} {a b : Int} : binT P .lss t (.int .u8 a) (.int .u8 b) = some (.bool (decide (a < b))) := rfl
theorem bw_leq {t : TypeId} {a b : Int} : binT P .leq t (.int .u8 a) (.int .u8 b) = some (.bool (decide (a ≤ b))) := rfl
theorem bw_gtr {t : TypeId} {a b : Int} : binT P .gtr t (.int .u8 a) (.int .u8 b) = some (.bool (decide (b < a))) := rfl
theorem bw_geq {t : TypeId} {a b : Int} : binT P .geq t (.int .u8 a) (.int .u8 b) = some (.bool (decide (b ≤ a))) := rfl
theorem bw_eql {t : TypeId} {a b : Int} : binT P .eql t (.int .u8 a) (.int .u8 b) = some (.bool (decide (a = b))) := rfl
theorem bw_neq {t : TypeId} {a b : Int} : binT P .neq t (.int .u8 a) (.int .u8 b) = some (.bool (!decide (a = b))) := rfl
theorem bs_eql {t : TypeId} {a b : ByteArray} : binT P .eql t (.string a) (.string b) = some (.bool (a.toList == b.toList)) := rfl
theorem bs_neq {t : TypeId} {a b : ByteArray} : binT P .neq t (.string a) (.string b) = some (.bool (!(a.toList == b.toList))) := rfl
theorem bs_lss {t : TypeId} {a b : ByteArray} : binT P .lss t (.string a) (.string b) = some (.bool (Go.Op.bytesLess a.toList b.toList)) := rfl
theorem bb_eql {t : TypeId} {a b : Bool} : binT P .eql t (.bool a) (.bool b) = boolT (P.underlying t) (a == b) := rfl
theorem bb_neq {t : TypeId} {a b : Bool} : binT P .neq t (.bool a) (.bool b) = boolT (P.underlying t) (!(a == b)) := rfl
theorem bb_t {v : Bool} : boolT (some .bool) v = some (.bool v) := rfl
end
end Go.Proofs.Ytlhbdhdaecchoaa
