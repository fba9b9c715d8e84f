/-
  The plain machine for this program: the environment, contracts that were walked, small facts.
-/
import Derived.Test.YtlhbdhdaecchoaaTt
import Derived.Test.YtlhbdhdaecchoaaAlg
set_option linter.unusedSimpArgs false
set_option linter.unusedVariables false
namespace Go.Proofs.Ytlhbdhdaecchoaa
open Go.RowKit

noncomputable def e0 : Env := ⟨Try.prog, fun _ => False, fun _ => True⟩
theorem e0P : e0.P = Try.prog := rfl
theorem e0_ok : e0.Ok := ⟨fun _ _ _ _ _ => trivial, by kernel_rfl⟩
/-- A contract in terms of worlds, as a contract of the plain machine. -/
theorem con_below {e : Env} (he : e.Ok) {f : FuncId} {args r : List D} (hb : hasBody e.P f = true)
    (h : ∀ (w : World) (S : Nat → Prop) (vs : List Value), DsRel w S args vs → Calls e.P f vs.toArray w fun en w' => ∃ v, en = .returned v ∧ Below w.heap.size w w' ∧ ARel w' (fun b => S b ∨ (w.heap.size ≤ b ∧ b < w'.heap.size)) (fun _ => 0) (retA r) v) : Con e f args r := by
  refine ⟨hb, fun w S vs hS hE hG hvs => (h w S vs hvs).mono fun en w' ⟨v, h1, h2, h3⟩ => ⟨v, h1, Kept.of_below h2, he.keep _ _ h2.size (fun b hb => h2.block b (hE b hb)) hG, ?_⟩⟩
  exact h3
/-- What is asked at a region's end. -/
def TrimK (mask : Nat) (Q : PX → St → Prop) (σ' : St) : Prop := Q .normal ⟨trimS mask σ'.s, σ'.m⟩
theorem runs_region {e : Env} {mask id : Nat} {l : List Oper} {draw : Bool} {σ : St} {s1 s2 : List (Nat × A)} {m1 : List (Nat × List C)} {ds : List (Option Nat)} {Q : PX → St → Prop} (hds : l.map (·.dst) = ds) (h : runOps e.P ds l σ = .done ⟨s1, m1⟩) (ht : trimS mask s1 = s2) (hQ : Q .normal ⟨s2, m1⟩) : pwp e mask (.region id l.toArray draw) σ Q :=
  pwp_region (by rw [hds]; exact runs_done h (by rw [ht]; exact hQ))
def trimR (mask : Nat) : Res → Res
  | .done σ => .done ⟨trimS mask σ.s, σ.m⟩
  | r => r
theorem trimR_done {mask : Nat} {s : List (Nat × A)} {m : List (Nat × List C)} : trimR mask (.done ⟨s, m⟩) = .done ⟨trimS mask s, m⟩ := rfl
/-- A region whose ways meet again. -/
theorem runs_meet {e : Env} {mask id : Nat} {l : List Oper} {draw : Bool} {σ : St} (s2 : List (Nat × A)) (m2 : List (Nat × List C)) {ds : List (Option Nat)} {Q : PX → St → Prop} (hds : l.map (·.dst) = ds) (h : trimR mask (runOps e.P ds l σ) = .done ⟨s2, m2⟩) (hQ : Q .normal ⟨s2, m2⟩) : pwp e mask (.region id l.toArray draw) σ Q := by
  refine pwp_region ?_
  rw [hds]
  cases hr : runOps e.P ds l σ with
  | bad => rw [hr] at h; cases h
  | call f xs d os σ' => rw [hr] at h; cases h
  | done σ' =>
    rw [hr] at h
    obtain ⟨s', m'⟩ := σ'
    simp only [trimR_done, Res.done.injEq] at h
    exact runs_done hr (by show Q .normal ⟨trimS mask s', m'⟩; rw [h]; exact hQ)
theorem runs_end {e : Env} {mask : Nat} {l : List Oper} {σ : St} {s1 s2 : List (Nat × A)} {m1 : List (Nat × List C)} {ds : List (Option Nat)} {Q : PX → St → Prop} (h : runOps e.P ds l σ = .done ⟨s1, m1⟩) (ht : trimS mask s1 = s2) (hQ : Q .normal ⟨s2, m1⟩) : Runs e ds l σ (TrimK mask Q) :=
  runs_done h (by unfold TrimK; rw [ht]; exact hQ)
theorem runs_begin {e : Env} {mask id : Nat} {l : List Oper} {draw : Bool} {σ : St} {ds : List (Option Nat)} {Q : PX → St → Prop} (hds : l.map (·.dst) = ds) (h : Runs e ds l σ (TrimK mask Q)) : pwp e mask (.region id l.toArray draw) σ Q :=
  pwp_region (by rw [hds]; exact h)
theorem runs_go {e : Env} {ds : List (Option Nat)} {K : St → Prop} {os os' : List Oper} {σ : St} {s1 s2 : List (Nat × A)} {m1 : List (Nat × List C)} {f : FuncId} {xs : List D} {d : Option Nat} {r : List D} (h : runOps e.P ds os σ = .call f xs d os' ⟨s1, m1⟩) (hc : Con e f xs r) (h2 : setA s1 d (retA r) = s2) (hK : Runs e ds os' ⟨s2, m1⟩ K) : Runs e ds os σ K :=
  runs_call r h hc (by rw [h2]; exact hK)
theorem pwp_ct {e : Env} {mask : Nat} {σ : St} {Q : PX → St → Prop} {c : Operand} {a b : Code} (hc : evA σ.s c = .d (.one (.lit (.bool true)))) (h : pwp e mask a σ Q) : pwp e mask (.cond c a b) σ Q := pwp_cond hc (fun _ => h) (fun h => by cases h)
theorem pwp_cf {e : Env} {mask : Nat} {σ : St} {Q : PX → St → Prop} {c : Operand} {a b : Code} (hc : evA σ.s c = .d (.one (.lit (.bool false)))) (h : pwp e mask b σ Q) : pwp e mask (.cond c a b) σ Q := pwp_cond hc (fun h => by cases h) (fun _ => h)
theorem rowsB_map {α : Type} {e : α → List C} {n : Nat} (h : ∀ a, (e a).length = n) (l : List α) : rowsB n (l.map e) = true := by simp [rowsB, h]
theorem rb_int (l : List Int) : rowsB 1 (l.map encInt) = true := rowsB_map (e := encInt) (n := 1) (fun _ => rfl) l
theorem rb_str (l : List ByteArray) : rowsB 1 (l.map encStr) = true := rowsB_map (e := encStr) (n := 1) (fun _ => rfl) l
theorem rb_sub (l : List (Int × Int)) : rowsB 2 (l.map encSub) = true := rowsB_map (e := encSub) (n := 2) (fun _ => rfl) l
theorem rb_dcl (l : List Dcl) : rowsB 2 (l.map encDcl) = true := rowsB_map (e := encDcl) (n := 2) (fun _ => rfl) l
theorem rb_opr (l : List Opr) : rowsB 5 (l.map encOpr) = true := rowsB_map (e := encOpr) (n := 5) (fun _ => rfl) l
theorem rb_ints (l : List (List Int)) : rowsB 1 (l.map encInts) = true := rowsB_map (e := encInts) (n := 1) (fun _ => rfl) l
theorem wrapN {a b : Int} (h : a = b) (h1 : -9223372036854775808 ≤ b) (h2 : b ≤ 9223372036854775807) : IntKind.i64.wrap a = b := by rw [h]; exact IntWalk.i64_in _ ⟨h1, h2⟩
theorem wrap1 {k : Nat} (h : k < 9223372036854775807) : IntKind.i64.wrap ((k : Int) + 1) = ((k + 1 : Nat) : Int) := wrapN (by omega) (by omega) (by omega)
theorem bqtt : (true == true) = true := rfl
theorem bqtf : (true == false) = false := rfl
theorem bqft : (false == true) = false := rfl
theorem bqff : (false == false) = true := rfl
theorem natInt (n : Nat) : (n : Int).toNat = n := Int.toNat_natCast n
end Go.Proofs.Ytlhbdhdaecchoaa
