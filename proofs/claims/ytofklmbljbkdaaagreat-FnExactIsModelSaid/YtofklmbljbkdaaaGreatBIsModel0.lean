/-
  Part of a proof: Pw, Al, Hp, Or, Lb, Nc, Nw, Rq, QcAlgebra.
-/
import Derived.Test.YtofklmbljbkdaaaGreatBBase0
import Derived.Test.YtofklmbljbkdaaaGreatBBase1
import Derived.Test.YtofklmbljbkdaaaGreatBBase2
import Derived.Test.YtofklmbljbkdaaaGreatBBase3
import Derived.Test.YtofklmbljbkdaaaGreatBBase4
set_option linter.unusedSimpArgs false
set_option linter.unusedVariables false
namespace Go.Proofs.YtofklmbljbkdaaaGreat
open Go.RowKit
theorem con_power {z : Int} {k : Nat} (h0 : 0 ≤ z) (hz : z ≤ 4) (hk : k ≤ 6) : Con e0 125 [.one (.lit (.int .i64 z)), .one (.lit (.int .i64 k))] [.one (.lit (.int .i64 (z ^ k)))] := by
  have hp : ∀ i : Nat, 0 ≤ z ^ i ∧ z ^ i ≤ 4 ^ i := fun i => by
    induction i with
    | zero => simp
    | succ i ih =>
      rw [Int.pow_succ, Int.pow_succ]
      exact ⟨Int.mul_nonneg ih.1 h0, Int.mul_le_mul ih.2 hz h0 (Int.pow_nonneg (by decide))⟩
  have hb : ∀ i : Nat, i ≤ 6 → (4 : Int) ^ i ≤ 4096 := fun i hi => by
    have : i = 0 ∨ i = 1 ∨ i = 2 ∨ i = 3 ∨ i = 4 ∨ i = 5 ∨ i = 6 := by omega
    rcases this with rfl | rfl | rfl | rfl | rfl | rfl | rfl <;> decide
  refine gI 627 Tryz.func125 ?_
  (have F := @e0P; refine gG ?_; clear F)
  (have F := ((Int.pow_zero z)); refine gL (ι := Nat) [5, 6, 9] [] (fun i => [(5, .d (.one (.lit (.int .i64 (z ^ i))))), (6, A.d (.one (.lit (.int .i64 i))))]) (fun i => []) (fun i => i ≤ k) (fun i => k - i) (0) (Nat.zero_le _) (fun i hi => ?_); clear F)
  by_cases hlt : i < k
  · have q1 : (i : Int) < (k : Int) := by omega
    have hw1 := wrap1 (k := i) (by omega)
    have h1 := hp (i + 1)
    have h2 := hb (i + 1) (by omega)
    have hw2 : IntKind.i64.wrap (z ^ i * z) = z ^ (i + 1) := by rw [← Int.pow_succ]; exact IntWalk.i64_in _ (by rw [Nat.succ_eq_add_one]; omega)
    (have F := And.intro @q1 (And.intro @hw1 @hw2); refine gG ?_; exact ⟨i + 1, hlt, gw, gw, by omega⟩)
  obtain rfl : i = k := by omega
  have q1 : ¬ ((i : Int) < (i : Int)) := by omega
  (have F := @q1; refine gG ?_; exact gT)
end Go.Proofs.YtofklmbljbkdaaaGreat
namespace Go.Proofs.YtofklmbljbkdaaaGreat
open Go.RowKit
theorem powA_cast {z : Int} (h0 : 0 ≤ z) (n : Nat) : ((z.toNat ^ n : Nat) : Int) = z ^ n := by rw [Int.natCast_pow, Int.toNat_of_nonneg h0]
theorem powA_step {z : Int} (h0 : 0 ≤ z) (hz : z ≤ 4) {i : Nat} (hi : i < 3) : IntKind.i64.wrap (z ^ i * z) = z ^ (i + 1) := by
  have h1 : z.toNat ^ (i + 1) ≤ 64 := pow_le64 (by omega) (by omega)
  have e : z ^ i * z = z ^ (i + 1) := (Int.pow_succ z i).symm
  rw [e, ← powA_cast h0]
  exact IntWalk.i64_in _ (by omega)
section
variable {g : Sgn} {a : Alg}
theorem tabA_next {i : Nat} {o : Opr} {d : Dcl} {t : List Int} (ho : g.ops[i]? = some o) (hd : o.decls[0]? = some d) (ht : a.tables[i]? = some t) (hall : ∀ (k : Nat) (o : Opr) (d : Dcl) (t : List Int), k < i → g.ops[k]? = some o → o.decls[0]? = some d → a.tables[k]? = some t → TabOk a.size d.args.length t) (h : TabOk a.size d.args.length t) :
    ∀ (k : Nat) (o : Opr) (d : Dcl) (t : List Int), k < i + 1 → g.ops[k]? = some o → o.decls[0]? = some d → a.tables[k]? = some t → TabOk a.size d.args.length t := fun k o' d' t' hk h1 h2 h3 => by
  by_cases e : k = i
  · subst e
    rw [ho] at h1; injection h1 with h1; subst h1
    rw [hd] at h2; injection h2 with h2; subst h2
    rw [ht] at h3; injection h3 with h3; subst h3
    exact h
  · exact hall k o' d' t' (by omega) h1 h2 h3
theorem tabA_of {n : Nat} {t : List Int} (hl : t.length = a.size.toNat ^ n) (h : ∀ (q : Nat) x, q < t.length → t[q]? = some x → 0 ≤ x ∧ x < a.size) : TabOk a.size n t := ⟨hl, fun x hx => by
  obtain ⟨q, hq⟩ := List.getElem?_of_mem hx
  exact h q x (List.getElem?_eq_some_iff.1 hq).1 hq⟩
theorem entA_next {t : List Int} {k : Nat} {x : Int} (hx : t[k]? = some x) (hall : ∀ (q : Nat) x, q < k → t[q]? = some x → 0 ≤ x ∧ x < a.size) (h : 0 ≤ x ∧ x < a.size) : ∀ (q : Nat) x, q < k + 1 → t[q]? = some x → 0 ≤ x ∧ x < a.size := fun q y hq hy => by
  by_cases e : q = k
  · subst e; rw [hx] at hy; injection hy with hy; subst hy; exact h
  · exact hall q y (by omega) hy
set_option maxHeartbeats 8000000 in
set_option maxRecDepth 100000 in
theorem con_implAlg (hg : okSgn g) (ha : okAlg a) : Con e0 128 [.agg (encSgn g), .agg (encAlg a)] [.one (.lit (.bool (isAlg g a)))] := by
  have cS := con_implSgn hg
  have hno : ¬ AlgOk g a → isAlg g a = false := isAlg_false
  have hs64 := ha.1
  have rt := rb_ints a.tables
  rw [encSgn] at cS
  rw [encSgn, encAlg]
  refine gI 302786010393794788197119 Tryz.func128 ?_
  (have F := @e0P; refine gG ?_; clear F)
  refine gB ?_
  (have F := @e0P; refine gC (cS) ?_; clear F)
  cases hs : isSgn g with
  | false =>
    have hf := hno fun h => by rw [isSgn_true h.sgn] at hs; cases hs
    (have F := @e0P; refine gR ?_; clear F)
    (have F := @hf; refine gG ?_; exact gT)
  | true =>
  have hg' := isSgn_iff.1 hs
  by_cases h1 : 1 ≤ a.size
  rotate_left
  · have z1 : (a.size < 1) = True := eq_true (by omega)
    have hf := hno fun h => h1 h.lo
    (have F := @z1; refine gR ?_; clear F)
    (have F := @hf; refine gG ?_; exact gT)
  have z1 : (a.size < 1) = False := eq_false (by omega)
  by_cases h4 : a.size ≤ 4
  rotate_left
  · have z2 : ((4 : Int) < a.size) = True := eq_true (by omega)
    have hf := hno fun h => h4 h.hi
    (have F := And.intro @z1 @z2; refine gR ?_; clear F)
    (have F := @hf; refine gG ?_; exact gT)
  have z2 : ((4 : Int) < a.size) = False := eq_false (by omega)
  by_cases hl : a.tables.length = g.ops.length
  rotate_left
  · have z3 : ((a.tables.length : Int) = (g.ops.length : Int)) = False := eq_false (by omega)
    have hf := hno fun h => hl h.len
    (have F := And.intro @z1 (And.intro @z2 @z3); refine gR ?_; clear F)
    (have F := @hf; refine gG ?_; exact gT)
  have z3 : ((a.tables.length : Int) = (g.ops.length : Int)) = True := eq_true (by omega)
  have h0 : 0 ≤ a.size := by omega
  have hgl := hg'.len
  (have F := And.intro @z1 (And.intro @z2 @z3); refine gR ?_; clear F)
  (have F := @e0P; refine gG ?_; clear F)
  (have F := @e0P; refine gL (ι := Nat) [4, 5, 6, 7, 9, 35, 36, 45, 46, 47, 60, 65, 66, 67, 68, 78] [] (fun i => [(35, A.d (.one (.lit (.int .i64 i))))]) (fun i => []) (fun i => i ≤ g.ops.length ∧ ∀ (k : Nat) (o : Opr) (d : Dcl) (t : List Int), k < i → g.ops[k]? = some o → o.decls[0]? = some d → a.tables[k]? = some t → TabOk a.size d.args.length t) (fun i => g.ops.length - i) (0) (⟨Nat.zero_le _, fun k o d t h => absurd h (by omega)⟩) (fun i hi => ?_); clear F)
  obtain ⟨hil, hall⟩ := hi
  by_cases hlt : i < g.ops.length
  rotate_left
  · obtain rfl : i = g.ops.length := by omega
    have q1 : ¬ ((g.ops.length : Int) < (g.ops.length : Int)) := by omega
    have q0 : ¬ ((g.ops.length : Int) < (a.tables.length : Int)) := by omega
    have ht := isAlg_true ⟨hg', h1, h4, hl, fun k o d t h1 h2 h3 => hall k o d t (List.getElem?_eq_some_iff.1 h1).1 h1 h2 h3⟩
    (have F := And.intro @q1 @ht; refine gG ?_; exact gT)
  have q1 : (i : Int) < (g.ops.length : Int) := by omega
  obtain ⟨o, ho⟩ : ∃ o, g.ops[i]? = some o := ⟨_, List.getElem?_eq_getElem hlt⟩
  obtain ⟨t, ht⟩ : ∃ t, a.tables[i]? = some t := ⟨_, List.getElem?_eq_getElem (by omega)⟩
  obtain ⟨d, hd, hdd⟩ := (hg'.decls o (List.mem_of_getElem? ho)).first
  have har := (hg'.decls o (List.mem_of_getElem? ho)).ar d hd
  have hw1 := wrap1 (k := i) (by omega)
  have hbad : ¬ TabOk a.size d.args.length t → isAlg g a = false := fun h => hno fun hA => h (hA.tab i o d t ho hd ht)
  have hp64 : a.size.toNat ^ d.args.length ≤ 64 := pow_le64 (by omega) har
  have hpc := powA_cast h0 d.args.length
  (have F := And.intro @q1 (And.intro @ho (And.intro @encOpr_u (And.intro @hd @encDcl_u))); refine gG ?_; clear F)
  (have F := ((Int.pow_zero a.size)); refine gL (ι := Nat) [7, 46, 47] [] (fun j => [(46, A.d (.one (.lit (.int .i64 j)))), (7, .d (.one (.lit (.int .i64 (a.size ^ j)))))]) (fun j => []) (fun j => j ≤ d.args.length) (fun j => d.args.length - j) (0) (Nat.zero_le _) (fun j hj => ?_); clear F)
  by_cases hlj : j < d.args.length
  · have q2 : (j : Int) < (d.args.length : Int) := by omega
    have hw2 := wrap1 (k := j) (by omega)
    have hp := powA_step h0 h4 (i := j) (by omega)
    (have F := And.intro @q2 (And.intro @hp @hw2); refine gG ?_; exact ⟨j + 1, hlj, gw, gw, by omega⟩)
  obtain rfl : j = d.args.length := by omega
  have q2 : ¬ ((d.args.length : Int) < (d.args.length : Int)) := by omega
  by_cases hle : t.length = a.size.toNat ^ d.args.length
  rotate_left
  · have z4 : ((t.length : Int) = a.size ^ d.args.length) = False := eq_false (by omega)
    have hf := hbad fun h => hle h.len
    (have F := And.intro @q2 (And.intro @ht (And.intro @encInts_u (And.intro @z4 @hf))); refine gG ?_; exact gT)
  have z4 : ((t.length : Int) = a.size ^ d.args.length) = True := eq_true (by omega)
  (have F := And.intro @q2 (And.intro @ht (And.intro @encInts_u @z4)); refine gG ?_; clear F)
  (have F := @e0P; refine gL (ι := Nat) [4, 9, 67, 68, 78] [] (fun k => [(67, A.d (.one (.lit (.int .i64 k))))]) (fun k => []) (fun k => k ≤ t.length ∧ ∀ (q : Nat) x, q < k → t[q]? = some x → 0 ≤ x ∧ x < a.size) (fun k => t.length - k) (0) (⟨Nat.zero_le _, fun q x h => absurd h (by omega)⟩) (fun k hk => ?_); clear F)
  obtain ⟨hkl, hak⟩ := hk
  by_cases hlk : k < t.length
  rotate_left
  · obtain rfl : k = t.length := by omega
    have q3 : ¬ ((t.length : Int) < (t.length : Int)) := by omega
    have hq := tabA_next ho hd ht hall (tabA_of hle hak)
    (have F := And.intro @q3 (And.intro @ht (And.intro @encInts_u @hw1)); refine gG ?_; exact ⟨i + 1, ⟨hlt, hq⟩, gw, gw, by omega⟩)
  have q3 : (k : Int) < (t.length : Int) := by omega
  have hw3 := wrap1 (k := k) (by omega)
  obtain ⟨x, hx⟩ : ∃ x, t[k]? = some x := ⟨_, List.getElem?_eq_getElem hlk⟩
  by_cases c1 : 0 ≤ x
  rotate_left
  · have y1 : (x < 0) = True := eq_true (by omega)
    have hf := hbad fun h => c1 (h.all x (List.mem_of_getElem? hx)).1
    (have F := And.intro @q3 (And.intro @hx (And.intro @encInt_u (And.intro @y1 @hf))); refine gG ?_; exact gT)
  have y1 : (x < 0) = False := eq_false (by omega)
  by_cases c2 : x < a.size
  rotate_left
  · have y2 : (a.size ≤ x) = True := eq_true (by omega)
    have hf := hbad fun h => c2 (h.all x (List.mem_of_getElem? hx)).2
    (have F := And.intro @q3 (And.intro @hx (And.intro @encInt_u (And.intro @y1 (And.intro @y2 @hf)))); refine gG ?_; exact gT)
  have y2 : (a.size ≤ x) = False := eq_false (by omega)
  have hq := entA_next hx hak ⟨c1, c2⟩
  (have F := And.intro @q3 (And.intro @hx (And.intro @encInt_u (And.intro @y1 (And.intro @y2 @hw3)))); refine gG ?_; exact ⟨k + 1, ⟨hlk, hq⟩, gw, gw, by omega⟩)
set_option maxHeartbeats 8000000 in
set_option maxRecDepth 100000 in
theorem con_specAlg (hg : okSgn g) (ha : okAlg a) : Con e0 122 [.agg (encSgn g), .agg (encAlg a)] [.one (.lit (.bool (isAlg g a)))] := by
  have cS := con_specSgn hg
  have hno : ¬ AlgOk g a → isAlg g a = false := isAlg_false
  have hs64 := ha.1
  have rt := rb_ints a.tables
  rw [encSgn] at cS
  rw [encSgn, encAlg]
  refine gI 1180627790252472270975 Tryz.func122 ?_
  (have F := @e0P; refine gG ?_; clear F)
  refine gB ?_
  (have F := @e0P; refine gC (cS) ?_; clear F)
  cases hs : isSgn g with
  | false =>
    have hf := hno fun h => by rw [isSgn_true h.sgn] at hs; cases hs
    (have F := @e0P; refine gR ?_; clear F)
    (have F := @hf; refine gG ?_; exact gT)
  | true =>
  have hg' := isSgn_iff.1 hs
  (have F := @e0P; refine gC (con_l1In a.size 1 4) ?_; clear F)
  by_cases h14 : 1 ≤ a.size ∧ a.size ≤ 4
  rotate_left
  · have z1 : decide (1 ≤ a.size ∧ a.size ≤ 4) = false := decide_eq_false h14
    have hf := hno fun h => h14 ⟨h.lo, h.hi⟩
    (have F := @z1; refine gR ?_; clear F)
    (have F := @hf; refine gG ?_; exact gT)
  have z1 : decide (1 ≤ a.size ∧ a.size ≤ 4) = true := decide_eq_true h14
  obtain ⟨h1, h4⟩ := h14
  by_cases hl : a.tables.length = g.ops.length
  rotate_left
  · have z3 : ((a.tables.length : Int) = (g.ops.length : Int)) = False := eq_false (by omega)
    have hf := hno fun h => hl h.len
    (have F := And.intro @z1 @z3; refine gR ?_; clear F)
    (have F := @hf; refine gG ?_; exact gT)
  have z3 : ((a.tables.length : Int) = (g.ops.length : Int)) = True := eq_true (by omega)
  have h0 : 0 ≤ a.size := by omega
  have hgl := hg'.len
  (have F := And.intro @z1 @z3; refine gR ?_; clear F)
  (have F := @e0P; refine gG ?_; clear F)
  (have F := @e0P; refine gL (ι := Nat) [4, 5, 6, 29, 47, 55, 70] [] (fun i => [(5, A.d (.one (.lit (.int .i64 i))))]) (fun i => []) (fun i => i ≤ g.ops.length ∧ ∀ (k : Nat) (o : Opr) (d : Dcl) (t : List Int), k < i → g.ops[k]? = some o → o.decls[0]? = some d → a.tables[k]? = some t → TabOk a.size d.args.length t) (fun i => g.ops.length - i) (0) (⟨Nat.zero_le _, fun k o d t h => absurd h (by omega)⟩) (fun i hi => ?_); clear F)
  obtain ⟨hil, hall⟩ := hi
  by_cases hlt : i < g.ops.length
  rotate_left
  · obtain rfl : i = g.ops.length := by omega
    have q1 : ¬ ((g.ops.length : Int) < (g.ops.length : Int)) := by omega
    have q0 : ¬ ((g.ops.length : Int) < (a.tables.length : Int)) := by omega
    have ht := isAlg_true ⟨hg', h1, h4, hl, fun k o d t h1 h2 h3 => hall k o d t (List.getElem?_eq_some_iff.1 h1).1 h1 h2 h3⟩
    (have F := And.intro @q0 @ht; refine gG ?_; exact gT)
  have q1 : (i : Int) < (a.tables.length : Int) := by omega
  obtain ⟨o, ho⟩ : ∃ o, g.ops[i]? = some o := ⟨_, List.getElem?_eq_getElem hlt⟩
  obtain ⟨t, ht⟩ : ∃ t, a.tables[i]? = some t := ⟨_, List.getElem?_eq_getElem (by omega)⟩
  obtain ⟨d, hd, hdd⟩ := (hg'.decls o (List.mem_of_getElem? ho)).first
  have har := (hg'.decls o (List.mem_of_getElem? ho)).ar d hd
  have hw1 := wrap1 (k := i) (by omega)
  have hbad : ¬ TabOk a.size d.args.length t → isAlg g a = false := fun h => hno fun hA => h (hA.tab i o d t ho hd ht)
  have hp64 : a.size.toNat ^ d.args.length ≤ 64 := pow_le64 (by omega) har
  have hpc := powA_cast h0 d.args.length
  have cA := con_l4Arity hd
  have cP := con_power (z := a.size) (k := d.args.length) h0 h4 (by omega)
  rw [encOpr] at cA
  (have F := @q1; refine gG ?_; clear F)
  refine gB ?_
  (have F := And.intro @ho (And.intro @ht (And.intro @encOpr_u (And.intro @encInts_u @rt))); refine gC (cA) ?_; clear F)
  (have F := @e0P; refine gC (cP) ?_; clear F)
  by_cases hle : t.length = a.size.toNat ^ d.args.length
  rotate_left
  · have z4 : ((t.length : Int) = a.size ^ d.args.length) = False := eq_false (by omega)
    have hf := hbad fun h => hle h.len
    (have F := @z4; refine gR ?_; clear F)
    (have F := @hf; refine gG ?_; exact gT)
  have z4 : ((t.length : Int) = a.size ^ d.args.length) = True := eq_true (by omega)
  have hz1 : IntKind.i64.wrap (a.size - 1) = a.size - 1 := IntWalk.i64_in _ (by omega)
  (have F := @z4; refine gR ?_; clear F)
  (have F := @e0P; refine gG ?_; clear F)
  (have F := @e0P; refine gL (ι := Nat) [4, 6, 55, 70] [] (fun k => [(6, A.d (.one (.lit (.int .i64 k))))]) (fun k => []) (fun k => k ≤ t.length ∧ ∀ (q : Nat) x, q < k → t[q]? = some x → 0 ≤ x ∧ x < a.size) (fun k => t.length - k) (0) (⟨Nat.zero_le _, fun q x h => absurd h (by omega)⟩) (fun k hk => ?_); clear F)
  obtain ⟨hkl, hak⟩ := hk
  by_cases hlk : k < t.length
  rotate_left
  · obtain rfl : k = t.length := by omega
    have q3 : ¬ ((t.length : Int) < (t.length : Int)) := by omega
    have hq := tabA_next ho hd ht hall (tabA_of hle hak)
    (have F := And.intro @q3 (And.intro @ht (And.intro @encInts_u @hw1)); refine gG ?_; exact ⟨i + 1, ⟨hlt, hq⟩, gw, gw, by omega⟩)
  have q3 : (k : Int) < (t.length : Int) := by omega
  have hw3 := wrap1 (k := k) (by omega)
  obtain ⟨x, hx⟩ : ∃ x, t[k]? = some x := ⟨_, List.getElem?_eq_getElem hlk⟩
  (have F := And.intro @q3 (And.intro @ht (And.intro @encInts_u @rt)); refine gG ?_; clear F)
  refine gB ?_
  (have F := And.intro @ht (And.intro @encInts_u (And.intro @rt (And.intro @hx (And.intro @encInt_u @hz1)))); refine gC (con_l1In x 0 (a.size - 1)) ?_; clear F)
  by_cases c1 : 0 ≤ x ∧ x ≤ a.size - 1
  rotate_left
  · have hf := hbad fun h => c1 (by have := h.all x (List.mem_of_getElem? hx); omega)
    have y1 : decide (0 ≤ x ∧ x ≤ a.size - 1) = false := decide_eq_false c1
    (have F := @y1; refine gR ?_; clear F)
    (have F := @hf; refine gG ?_; exact gT)
  have y1 : decide (0 ≤ x ∧ x ≤ a.size - 1) = true := decide_eq_true c1
  have hq := entA_next hx hak (by omega)
  (have F := @y1; refine gR ?_; clear F)
  (have F := @hw3; refine gG ?_; exact ⟨k + 1, ⟨hlk, hq⟩, gw, gw, by omega⟩)
end
end Go.Proofs.YtofklmbljbkdaaaGreat
namespace Go.Proofs.YtofklmbljbkdaaaGreat
open Go.RowKit
def AllIn (z : Int) (xs : List Int) : Prop := ∀ x ∈ xs, In0 z x
def digL (z : Int) : Nat → Int → List Int
  | 0, _ => []
  | n + 1, k => (k % z) :: digL z n (k / z)
def numL (z : Int) : List Int → Int
  | [] => 0
  | x :: xs => x + z * numL z xs
theorem digL_len (z : Int) : ∀ (n : Nat) (k : Int), (digL z n k).length = n
  | 0, _ => rfl
  | n + 1, k => by simp [digL, digL_len z n]
theorem digL_in {z : Int} (hz : 1 ≤ z) : ∀ (n : Nat) (k : Int), AllIn z (digL z n k)
  | 0, _ => by intro x hx; simp [digL] at hx
  | n + 1, k => by
    intro x hx
    simp only [digL, List.mem_cons] at hx
    rcases hx with rfl | hx
    · exact ⟨Int.emod_nonneg _ (by omega), Int.emod_lt_of_pos _ (by omega)⟩
    · exact digL_in hz n _ x hx
theorem numL_in {z : Int} (hz : 1 ≤ z) : ∀ {xs : List Int}, AllIn z xs → 0 ≤ numL z xs ∧ numL z xs < z ^ xs.length
  | [], _ => by simp [numL]
  | x :: xs, h => by
    obtain ⟨h0, h1⟩ := numL_in hz (xs := xs) fun y hy => h y (by simp [hy])
    obtain ⟨x0, x1⟩ := h x (by simp)
    have m0 : 0 ≤ z * numL z xs := Int.mul_nonneg (by omega) h0
    have m1 : z * (numL z xs + 1) ≤ z * z ^ xs.length := Int.mul_le_mul_of_nonneg_left (by omega) (by omega)
    rw [Int.mul_add] at m1
    rw [List.length_cons, Int.pow_succ, Int.mul_comm (z ^ xs.length) z, numL]
    omega
theorem digL_num {z : Int} (hz : 1 ≤ z) : ∀ {xs : List Int}, AllIn z xs → digL z xs.length (numL z xs) = xs
  | [], _ => rfl
  | x :: xs, h => by
    obtain ⟨x0, x1⟩ := h x (by simp)
    have ih := digL_num hz (xs := xs) fun y hy => h y (by simp [hy])
    rw [List.length_cons, digL, numL, Int.add_mul_emod_self_left, Int.emod_eq_of_lt x0 x1, Int.add_mul_ediv_left _ _ (by omega), Int.ediv_eq_zero_of_lt x0 x1, Int.zero_add, ih]
def numB (z : Int) (xs : List Int) : Int := numL z xs.reverse
theorem numB_snoc (z : Int) (xs : List Int) (x : Int) : numB z (xs ++ [x]) = x + z * numB z xs := by simp [numB, numL]
theorem numB_inj {z : Int} (hz : 1 ≤ z) {xs ys : List Int} (hx : AllIn z xs) (hy : AllIn z ys) (hl : xs.length = ys.length) (h : numB z xs = numB z ys) : xs = ys := by
  have h1 := digL_num hz (xs := xs.reverse) fun x hx' => hx x (by simpa using hx')
  have h2 := digL_num hz (xs := ys.reverse) fun x hx' => hy x (by simpa using hx')
  rw [List.length_reverse] at h1 h2
  unfold numB at h
  rw [h, hl, h2] at h1
  simpa using congrArg List.reverse h1.symm
theorem numB_zeros (z : Int) : ∀ (k : Nat) (p : List Int), numB z (p ++ List.replicate k 0) = z ^ k * numB z p
  | 0, p => by simp
  | k + 1, p => by
    have e : p ++ List.replicate (k + 1) 0 = (p ++ List.replicate k 0) ++ [0] := by rw [List.replicate_succ', List.append_assoc]
    rw [e, numB_snoc, numB_zeros z k p, Int.zero_add, Int.pow_succ, ← Int.mul_assoc, Int.mul_comm z]
end Go.Proofs.YtofklmbljbkdaaaGreat
namespace Go.Proofs.YtofklmbljbkdaaaGreat
open Go.RowKit
def litC : C → Bool
  | .lit _ => true
  | _ => false
def litD : D → Bool
  | .one c => litC c
  | .agg cs => cs.all litC
  | _ => false
theorem RepVals_any {w : World} {S S' : Nat → Prop} : ∀ {cs : List C} {vs : List Value}, cs.all litC = true → RepVals w S cs vs → RepVals w S' cs vs
  | [], [], _, _ => trivial
  | .lit x :: cs, v :: vs, hl, h => by
    simp only [List.all_cons, Bool.and_eq_true] at hl
    exact ⟨h.1, RepVals_any hl.2 h.2⟩
  | .sl _ :: _, _ :: _, hl, _ => by simp [litC] at hl
  | .ptr _ :: _, _ :: _, hl, _ => by simp [litC] at hl
  | .fn _ _ :: _, _ :: _, hl, _ => by simp [litC] at hl
  | [], _ :: _, _, h => h.elim
  | _ :: _, [], _, h => h.elim
theorem DRel_any {w : World} {S S' : Nat → Prop} {x : D} {v : Value} (hl : litD x = true) (h : DRel w S x v) : DRel w S' x v := by
  cases x with
  | one c => cases c with
    | lit y => exact h
    | _ => simp [litD, litC] at hl
  | agg cs => obtain ⟨vs, h1, h2⟩ := h; exact ⟨vs, h1, RepVals_any hl h2⟩
  | clip _ => simp [litD] at hl
theorem DsRel_any {w : World} {S S' : Nat → Prop} : ∀ {r : List D} {vs : List Value}, r.all litD = true → DsRel w S r vs → DsRel w S' r vs
  | [], [], _, _ => trivial
  | x :: r, v :: vs, hl, h => by
    simp only [List.all_cons, Bool.and_eq_true] at hl
    exact ⟨DRel_any hl.1 h.1, DsRel_any hl.2 h.2⟩
  | [], _ :: _, _, h => h.elim
  | _ :: _, [], _, h => h.elim
theorem ARel_any {w : World} {S S' : Nat → Prop} {L : Lay} : ∀ {r : List D} {v : Value}, r.all litD = true → ARel w S L (retA r) v → ARel w S' L (retA r) v
  | [], _, _, h => by obtain ⟨vs, h1, h2⟩ := h; exact ⟨vs, h1, DsRel_any rfl h2⟩
  | [x], v, hl, h => by
    simp only [List.all_cons, List.all_nil, Bool.and_true] at hl
    exact DRel_any (x := x) (v := v) hl h
  | x :: y :: z, _, hl, h => by obtain ⟨vs, h1, h2⟩ := h; exact ⟨vs, h1, DsRel_any hl h2⟩
end Go.Proofs.YtofklmbljbkdaaaGreat
namespace Go.Proofs.YtofklmbljbkdaaaGreat
open Go.RowKit
def ReadsB (a : Option Addr) (cap : Nat) (rows : List (List C)) : List D → List D → Prop
  | [], [] => True
  | l :: ls, d :: ds => (l = d ∨ (l = .one (.lit (.slice a rows.length cap)) ∧ d = .one (.sl rows))) ∧ ReadsB a cap rows ls ds
  | _, _ => False
theorem ReadsB.rel {a : Option Addr} {cap ety sz : Nat} {rows : List (List C)} : ∀ {lits data : List D}, ReadsB a cap rows lits data → ∀ (w : World) (S : Nat → Prop) (vs : List Value), BufRel w S ety sz rows (.slice a rows.length cap) → DsRel w S lits vs → DsRel w (fun b => S b ∨ vblk (.slice a rows.length cap) = some b) data vs
  | [], [], _, w, S, [], _, _ => trivial
  | [], [], _, w, S, _ :: _, _, h => h.elim
  | l :: ls, d :: ds, hr, w, S, [], _, h => h.elim
  | l :: ls, d :: ds, ⟨h1, h2⟩, w, S, v :: vs, hp, ⟨hv, hvs⟩ => by
    refine ⟨?_, ReadsB.rel h2 w S vs hp hvs⟩
    rcases h1 with rfl | ⟨rfl, rfl⟩
    · exact DRel.keep (Nat.le_refl _) (fun _ _ _ => rfl) (fun b hb => .inl hb) hv
    · have hv : v = .slice a rows.length cap := hv
      subst hv
      exact hp.rep
  | [], _ :: _, h, _, _, _, _, _ => h.elim
  | _ :: _, [], h, _, _, _, _, _ => h.elim
theorem con_rdB {e : Env} {f : FuncId} {data lits r : List D} {a : Option Addr} {cap ety sz : Nat} {rows : List (List C)} (h : Con e f data r) (hr : ReadsB a cap rows lits data) (hl : r.all litD = true) : ConP e f lits [.buf (some (a, cap)) ety sz rows] (fun r' q => r' = r ∧ q = [.buf (some (a, cap)) ety sz rows]) := by
  refine ⟨h.1, fun w S vs hS hE hG hpm ha hv => ?_⟩
  obtain ⟨hb, hbE⟩ := hpm _ List.mem_cons_self
  have hb : BufRel w S ety sz rows (.slice a rows.length cap) := hb
  have hblk : ∀ g, pblks [.buf (some (a, cap)) ety sz rows] g ↔ vblk (.slice a rows.length cap) = some g := fun g => ⟨fun ⟨x, hx, hg⟩ => by simp at hx; subst hx; exact hg, fun h => ⟨_, List.mem_cons_self, h⟩⟩
  have hlt : ∀ g, vblk (.slice a rows.length cap) = some g → g < w.heap.size ∧ ¬ S g := fun g hg => by
    obtain ⟨_, _, h3⟩ := hb
    rcases h3 with ⟨hn, b, hv⟩ | ⟨g', cap', cur, hv, hc, hg', hs, _⟩
    · injection hv with e1 e2 e3
      rw [e3] at hg
      cases a <;> simp [vblk] at hg
    · rw [hv] at hg
      simp only [vblk] at hg
      split at hg
      · cases hg
      · injection hg with hg
        subst hg
        exact ⟨hg', hs⟩
  refine (h.2 w (fun b => S b ∨ vblk (.slice a rows.length cap) = some b) vs (fun b hb => hb.elim (hS b) (fun q => ⟨(hlt b q).1, hbE b q⟩)) hE hG (hr.rel w S vs hb hv)).mono ?_
  rintro en w' ⟨v, h1, h3, h4, h7⟩
  refine ⟨v, r, _, h1, ⟨rfl, rfl⟩, ⟨h3.os, h3.tape, h3.output, h3.drawn, h3.size, fun k hk hn => h3.block k hk fun q => hn (.inl q)⟩, h4, fun x hx => ?_, ha, ARel_any hl h7⟩
  simp only [List.mem_cons, List.not_mem_nil, or_false] at hx
  subst hx
  refine ⟨?_, fun g hg => .inl ((hblk g).2 hg)⟩
  show BufRel w' _ ety sz rows (.slice a rows.length cap)
  refine hb.keep h3.size (fun b o hb' => ?_) (fun b hb' => ⟨.inl hb', fun q => (hlt b ((hblk b).1 q)).2 hb'⟩) (fun g hg => ⟨h3.block g (hlt g hg).1 (hbE g hg), fun q => q.2 ((hblk g).2 hg)⟩)
  exact cell_of_heap (h3.block b (hS b hb').1 (hS b hb').2) o
end Go.Proofs.YtofklmbljbkdaaaGreat
namespace Go.Proofs.YtofklmbljbkdaaaGreat
open Go.RowKit
def nxR (z : Int) : List Int → List Int × Bool
  | [] => ([], false)
  | x :: r => if x + 1 < z then ((x + 1) :: r, true) else (0 :: (nxR z r).1, (nxR z r).2)
def nxt (z : Int) (xs : List Int) : List Int := (nxR z xs.reverse).1.reverse
def nxB (z : Int) (xs : List Int) : Bool := (nxR z xs.reverse).2
theorem nxR_num {z : Int} (hz : 1 ≤ z) : ∀ {r : List Int}, AllIn z r → (nxR z r).1.length = r.length ∧ AllIn z (nxR z r).1 ∧ ((nxR z r).2 = true → numL z (nxR z r).1 = numL z r + 1) ∧ ((nxR z r).2 = false → numL z r + 1 = z ^ r.length)
  | [], _ => by simp [nxR, numL, AllIn]
  | x :: r, h => by
    obtain ⟨x0, x1⟩ := h x (by simp)
    have hr : AllIn z r := fun y hy => h y (by simp [hy])
    obtain ⟨h1, h2, h3, h4⟩ := nxR_num hz hr
    simp only [nxR]
    split
    · rename_i hlt
      refine ⟨by simp, fun y hy => ?_, fun _ => by simp only [numL]; omega, fun h => by cases h⟩
      rcases List.mem_cons.1 hy with rfl | hy
      · exact ⟨by omega, hlt⟩
      · exact hr y hy
    · rename_i hge
      have ex : x = z - 1 := by omega
      refine ⟨by simp [h1], fun y hy => ?_, fun hb => ?_, fun hb => ?_⟩
      · rcases List.mem_cons.1 hy with rfl | hy
        · exact ⟨Int.le_refl _, by omega⟩
        · exact h2 y hy
      · have := h3 hb
        simp only [numL] at this ⊢
        rw [this, Int.mul_add, ex]
        omega
      · have := h4 hb
        simp only [numL, List.length_cons, Int.pow_succ]
        rw [← this, Int.add_mul, ex, Int.mul_comm (numL z r) z]
        omega
theorem nxt_len {z : Int} (hz : 1 ≤ z) {xs : List Int} (h : AllIn z xs) : (nxt z xs).length = xs.length := by
  have := (nxR_num hz (r := xs.reverse) fun y hy => h y (by simpa using hy)).1
  simpa [nxt] using this
theorem nxt_in {z : Int} (hz : 1 ≤ z) {xs : List Int} (h : AllIn z xs) : AllIn z (nxt z xs) := by
  have := (nxR_num hz (r := xs.reverse) fun y hy => h y (by simpa using hy)).2.1
  exact fun y hy => this y (by simpa [nxt] using hy)
theorem nxt_num {z : Int} (hz : 1 ≤ z) {xs : List Int} (h : AllIn z xs) (hb : nxB z xs = true) : numB z (nxt z xs) = numB z xs + 1 := by
  have := (nxR_num hz (r := xs.reverse) fun y hy => h y (by simpa using hy)).2.2.1 hb
  simpa [numB, nxt] using this
theorem nxt_last {z : Int} (hz : 1 ≤ z) {xs : List Int} (h : AllIn z xs) (hb : nxB z xs = false) : numB z xs + 1 = z ^ xs.length := by
  have := (nxR_num hz (r := xs.reverse) fun y hy => h y (by simpa using hy)).2.2.2 hb
  simpa [numB] using this
end Go.Proofs.YtofklmbljbkdaaaGreat
namespace Go.Proofs.YtofklmbljbkdaaaGreat
open Go.RowKit
theorem nxR_snoc {z : Int} (p : List Int) (x : Int) : nxt z (p ++ [x]) = (if x + 1 < z then p ++ [x + 1] else nxt z p ++ [0]) ∧ nxB z (p ++ [x]) = (if x + 1 < z then true else nxB z p) := by
  unfold nxt nxB
  rw [List.reverse_append, List.reverse_singleton, List.singleton_append, nxR]
  split <;> simp
def oRow (xs : List Int) (m : Nat) : List (List C) := (xs.take m ++ List.replicate (xs.length - m) 0).map encInt
def oMid (xs : List Int) (i : Nat) (y : Int) : List (List C) := (xs.take i ++ y :: List.replicate (xs.length - (i + 1)) 0).map encInt
theorem oRow_n (xs : List Int) : oRow xs xs.length = xs.map encInt := by simp [oRow]
theorem oRow_mid {xs : List Int} {i : Nat} {x : Int} (h : xs[i]? = some x) : oRow xs (i + 1) = oMid xs i x := by
  simp [oRow, oMid, List.take_add_one, h]
theorem oMid_0 {xs : List Int} {i : Nat} (h : i < xs.length) : oMid xs i 0 = oRow xs i := by
  rw [oRow, oMid, show xs.length - i = (xs.length - (i + 1)) + 1 by omega, List.replicate_succ]
theorem oMid_len {xs : List Int} {i : Nat} {y : Int} (h : i < xs.length) : (oMid xs i y).length = xs.length := by
  simp only [oMid, List.length_map, List.length_append, List.length_take, List.length_cons, List.length_replicate]; omega
theorem oMid_get {xs : List Int} {i : Nat} {y : Int} (h : i < xs.length) : (oMid xs i y)[i]? = some [.lit (.int .i64 y)] := by
  have hl : (xs.take i).length = i := by rw [List.length_take]; omega
  rw [oMid, List.getElem?_map, List.getElem?_append_right (by omega), hl, Nat.sub_self]
  rfl
theorem oMid_set {xs : List Int} {i : Nat} {y y' : Int} (h : i < xs.length) : (oMid xs i y).set i [.lit (.int .i64 y')] = oMid xs i y' := by
  have hl : (xs.take i).length = i := by rw [List.length_take]; omega
  have e : ∀ v : Int, oMid xs i v = (xs.take i).map encInt ++ (encInt v :: (List.replicate (xs.length - (i + 1)) (0 : Int)).map encInt) := fun v => by simp [oMid]
  rw [e, e, List.set_append_right _ _ (by simp; omega)]
  simp [hl, encInt, Nat.min_eq_left (Nat.le_of_lt h)]
theorem oMid_rows (xs : List Int) (i : Nat) (y : Int) : rowsB 1 (oMid xs i y) = true := rb_int _
theorem oRow_len {xs : List Int} {m : Nat} (h : m ≤ xs.length) : (oRow xs m).length = xs.length := by
  simp only [oRow, List.length_map, List.length_append, List.length_take, List.length_replicate]; omega
def RNx (a : Option Addr) (cap : Nat) (b : Bool) (ys : List Int) (r : List D) (pm : List Bk) : Prop := r = [.one (.lit (.bool b))] ∧ pm = [.buf (some (a, cap)) 3 1 (ys.map encInt)]
set_option maxHeartbeats 8000000 in
set_option maxRecDepth 100000 in
theorem conP_next {z : Int} {xs : List Int} (h1z : 1 ≤ z) (hz4 : z ≤ 4) (hx : AllIn z xs) (hl : xs.length ≤ 1000) (a : Option Addr) (cap : Nat) : ConP e0 131 [.one (.lit (.slice a xs.length cap)), .one (.lit (.int .i64 z))] [.buf (some (a, cap)) 3 1 (xs.map encInt)] (RNx a cap (nxB z xs) (nxt z xs)) := by
  have hw0 : IntKind.i64.wrap ((xs.length : Int) - 1) = (xs.length : Int) - 1 := IntWalk.i64_in _ (by omega)
  have hrow := rb_int xs
  rw [← oRow_n xs] at hrow ⊢
  have hln := oRow_len (Nat.le_refl xs.length)
  refine gIP (ts := [.slot 4]) [1000] 16778291 Tryz.func131 ?_
  (have F := And.intro @hrow (And.intro @hln @hw0); refine gG ?_; clear F)
  (have F := @e0P; refine gL (ι := Nat) [4, 5, 10, 24] [1000] (fun m => [(5, .d (.one (.lit (.int .i64 ((m : Int) - 1)))))]) (fun m => [(1000, .buf (some (a, cap)) 3 1 (oRow xs m))]) (fun m => m ≤ xs.length ∧ nxt z xs = nxt z (xs.take m) ++ List.replicate (xs.length - m) 0 ∧ nxB z xs = nxB z (xs.take m)) (fun m => m) (xs.length) (⟨Nat.le_refl _, by simp, by simp⟩) (fun m hm => ?_); clear F)
  obtain ⟨hmn, hnx, hnb⟩ := hm
  rcases m with _ | i
  · have hr0 : (oRow xs 0) = (nxt z xs).map encInt := by rw [hnx]; simp [oRow, nxt, nxR]
    have hb0 : nxB z xs = false := by rw [hnb]; simp [nxB, nxR]
    have e0' : (((0 : Nat) : Int) - 1) = -1 := rfl
    rw [e0', hb0]
    have q1 : ((0 : Int) ≤ -1) = False := eq_false (by decide)
    (have F := @q1; refine gG ?_; clear F)
    rw [hr0]
    exact (have F := q1; gTP (R := RNx a cap false (nxt z xs)) [1000] ⟨rfl, rfl⟩)
  · obtain ⟨x, hxi⟩ : ∃ x, xs[i]? = some x := ⟨_, List.getElem?_eq_getElem (by omega)⟩
    have hil : i < xs.length := by omega
    obtain ⟨x0, x1⟩ := hx x (List.mem_of_getElem? hxi)
    have e1 : (((i + 1 : Nat) : Int) - 1) = (i : Int) := by omega
    rw [e1, oRow_mid hxi]
    have q1 : ((0 : Int) ≤ (i : Int)) = True := eq_true (by omega)
    have hlm := fun y => oMid_len (xs := xs) (y := y) hil
    have hgm := fun y => oMid_get (xs := xs) (y := y) hil
    have hsm := fun y y' => oMid_set (xs := xs) (y := y) (y' := y') hil
    have hrm := oMid_rows xs i
    have hw1 : IntKind.i64.wrap (x + 1) = x + 1 := IntWalk.i64_in _ (by omega)
    have hw2 : IntKind.i64.wrap ((i : Int) - 1) = (i : Int) - 1 := IntWalk.i64_in _ (by omega)
    have htk : xs.take (i + 1) = xs.take i ++ [x] := by rw [List.take_add_one, hxi]; rfl
    obtain ⟨s1, s2⟩ := nxR_snoc (z := z) (xs.take i) x
    rw [htk, s1] at hnx
    rw [htk, s2] at hnb
    by_cases hlt : x + 1 < z
    · rw [if_pos hlt] at hnx hnb
      have q2 : (x + 1 < z) = True := eq_true hlt
      have hfin : oMid xs i (x + 1) = (nxt z xs).map encInt := by rw [hnx, oMid, List.append_assoc]; rfl
      rw [hnb]
      (have F := And.intro @q1 (And.intro @q2 (And.intro @hlm (And.intro @hgm (And.intro @hsm (And.intro @hrm (And.intro @hw1 @hil)))))); refine gG ?_; clear F)
      rw [hfin]
      exact (have F := q1; gTP (R := RNx a cap true (nxt z xs)) [1000] ⟨rfl, rfl⟩)
    · rw [if_neg hlt] at hnx hnb
      have q2 : (x + 1 < z) = False := eq_false hlt
      have hrs := oMid_0 hil
      have hq : i ≤ xs.length ∧ nxt z xs = nxt z (xs.take i) ++ List.replicate (xs.length - i) 0 ∧ nxB z xs = nxB z (xs.take i) := ⟨by omega, by rw [hnx, List.append_assoc, show xs.length - i = (xs.length - (i + 1)) + 1 by omega, List.replicate_succ]; rfl, hnb⟩
      (have F := And.intro @q1 (And.intro @q2 (And.intro @hlm (And.intro @hgm (And.intro @hsm (And.intro @hrm (And.intro @hrs (And.intro @hw1 (And.intro @hw2 @hil)))))))); refine gG ?_; exact ⟨i, hq, gw, gw, by omega⟩)
end Go.Proofs.YtofklmbljbkdaaaGreat
namespace Go.Proofs.YtofklmbljbkdaaaGreat
open Go.RowKit
section
variable {e : Env} {U : Nat → Prop} {S0 : Nat → Prop} {o : Oper}
theorem gives_callB {m : List (Nat × Bk)} {base : Nat} {ρ : Operand → A} {c : Operand} {args : Array Operand} {ts : Array TypeId} (ho : o.op = .call ⟨.value c, args, ts⟩) {f : FuncId} {caps : List C} {xs data r : List D} (hc : calleeA (ρ c) = some (f, caps)) (hx : dsA (args.toList.map ρ) = some xs)
    {k cap ety sz : Nat} {a : Option Addr} {rows : List (List C)} (hm : gm m k = some (.buf (some (a, cap)) ety sz rows)) (hrd : ReadsB a cap rows (xs ++ caps.map .one) data) (hcon : Con e f data r) (hl : r.all litD = true) : GivesA e U base S0 m o ρ (retA r) := by
  intro w S L ρv hC hr
  obtain ⟨m1, m2⟩ := call_mem ho
  obtain ⟨us, hv, hus⟩ := calleeA_spec hc (hr c m1)
  have hds : DsRel w S xs (args.toList.map ρv) := DsRel_of hx (by simp) (mapx (fun p hp => hr p (m2 p hp)))
  obtain ⟨hbody, hcon⟩ := hcon
  obtain ⟨hva, hb⟩ := hC.own k _ hm
  have hva : L.v k = .slice a rows.length cap := hva (a, cap) rfl
  rw [hva] at hb
  have hlt : ∀ g, vblk (.slice a rows.length cap) = some g → g < w.heap.size ∧ ¬ S g ∧ ¬ e.E g := fun g hg => by
    have hE : ¬ e.E g := hC.notE hm (by simp only [blkOf]; rw [hva]; exact hg)
    obtain ⟨_, _, h3⟩ := hb
    rcases h3 with ⟨hn, b, hv⟩ | ⟨g', cap', cur, hv, hc, hg', hs, _⟩
    · injection hv with e1 e2 e3
      rw [e3] at hg
      cases a <;> simp [vblk] at hg
    · rw [hv] at hg
      simp only [vblk] at hg
      split at hg
      · cases hg
      · injection hg with hg
        subst hg
        exact ⟨hg', hs, hE⟩
  have hcl := hcon w (fun b => S b ∨ vblk (.slice a rows.length cap) = some b) _ (fun b hb => hb.elim (hC.sin b) fun q => ⟨(hlt b q).1, (hlt b q).2.2⟩) (fun b hb => Nat.lt_of_lt_of_le (hC.ein b hb) hC.bsz) hC.g (hrd.rel w S _ hb (hds.append (DsRel.caps hus)))
  unfold gives
  rw [enter_run ho hv hbody]
  exact hcl.mono fun en w' ⟨v, h1, h2, h3, h4⟩ => ⟨v, h1, S, ⟨fun _ h => h, fun _ h => .inl h⟩, hC.later h2 h3 (fun _ h => h) (fun _ h => .inl h), h2, ARel_any hl (ARel_ret h4)⟩
end
section
variable {e : Env} {ds : List (Option Nat)} {K : St → Prop} {n n' : Nat} {os os' : List Oper} {σ : St}
theorem runs_rdB {c : Operand} {args : List Operand} {f : FuncId} {xs data r : List D} {d : Option Nat} {s1 s2 s3 : List (Nat × A)} {m1 m2 : List (Nat × Bk)} {k cap ety sz : Nat} {a : Option Addr} {rows : List (List C)} (h : runOps e.P ds n os σ = .call true c args d n' os' ⟨s1, m1⟩) (h1 : callP true c args ⟨s1, m1⟩ = some (f, xs, ⟨s2, m2⟩)) (hm : gm m2 k = some (.buf (some (a, cap)) ety sz rows))
    (hrd : ReadsB a cap rows xs data) (hc : Con e f data r) (hl : r.all litD = true) (h2 : setA s2 d (retA r) = s3) (hK : Runs e ds n' os' ⟨s3, m2⟩ K) : Runs e ds n os σ K := by
  refine runs_of os n σ ?_
  rw [h]
  intro o ts ho hd
  obtain ⟨caps, ys, hf, hcal, hds, rfl⟩ := callP_spec h1
  unfold frzQ at hf
  split at hf
  · injection hf with hf
    injection hf with e1 e2
    subst e1 e2
    show stepQ e true o _ _
    intro he
    exact ⟨retA r, by rw [hd, h2]; exact hK, fun U base S0 => gives_callB ho hcal hds hm hrd hc hl⟩
  · simp at hf
theorem gCB {c : Operand} {args : List Operand} {f : FuncId} {xs data r : List D} {d : Option Nat} {s1 s2 s3 : List (Nat × A)} {m1 m2 : List (Nat × Bk)} {cap ety sz : Nat} {a : Option Addr} {rows : List (List C)} (k : Nat) (hc : Con e f data r) (hK : Runs e ds n' os' ⟨s3, m2⟩ K) (h : runOps e.P ds n os σ = .call true c args d n' os' ⟨s1, m1⟩ := by simp only [pz, ↓reduceIte, Nat.reduceEqDiff, Nat.reduceAdd, Nat.reduceSub, Nat.reduceMul, Nat.reduceLeDiff, Nat.reduceBEq, Bool.false_eq_true, decide_true, decide_false, Int.reduceLE, Int.reduceToNat, Int.reduceLT, Int.reduceEq, eq_self, Nat.reduceShiftRight, Nat.reduceAnd, Nat.reduceBneDiff, F]; exact rfl) (h1 : callP true c args ⟨s1, m1⟩ = some (f, xs, ⟨s2, m2⟩) := by simp only [pz, ↓reduceIte, Nat.reduceEqDiff, Nat.reduceAdd, Nat.reduceSub, Nat.reduceMul, Nat.reduceLeDiff, Nat.reduceBEq, Bool.false_eq_true, decide_true, decide_false, Int.reduceLE, Int.reduceToNat, Int.reduceLT, Int.reduceEq, eq_self, Nat.reduceShiftRight, Nat.reduceAnd, Nat.reduceBneDiff, F]; exact rfl)
    (hm : gm m2 k = some (.buf (some (a, cap)) ety sz rows) := by simp only [pz, ↓reduceIte, Nat.reduceEqDiff, Nat.reduceAdd, Nat.reduceSub, Nat.reduceMul, Nat.reduceLeDiff, Nat.reduceBEq, Bool.false_eq_true, decide_true, decide_false, Int.reduceLE, Int.reduceToNat, Int.reduceLT, Int.reduceEq, eq_self, Nat.reduceShiftRight, Nat.reduceAnd, Nat.reduceBneDiff]; exact rfl) (hrd : ReadsB a cap rows xs data := by simp [ReadsB, F]) (hl : r.all litD = true := by rfl) (h2 : setA s2 d (retA r) = s3 := by simp only [setA, retA]; exact rfl) : Runs e ds n os σ K := runs_rdB h h1 hm hrd hc hl h2 hK
theorem gCS {c : Operand} {args : List Operand} {f : FuncId} {xs data r : List D} {d : Option Nat} {s1 s2 s3 : List (Nat × A)} {m1 m2 m3 : List (Nat × Bk)} {cap ety sz : Nat} {a : Option Addr} {rows : List (List C)} (k : Nat) (hc : Con e f data r) (hK : Runs e ds n' os' ⟨setA s3 d (retA r), zipM [k] [.buf (some (a, cap)) ety sz rows] ++ m3⟩ K) (h : runOps e.P ds n os σ = .call false c args d n' os' ⟨s1, m1⟩ := by simp only [pz, ↓reduceIte, Nat.reduceEqDiff, Nat.reduceAdd, Nat.reduceSub, Nat.reduceMul, Nat.reduceLeDiff, Nat.reduceBEq, Bool.false_eq_true, decide_true, decide_false, Int.reduceLE, Int.reduceToNat, Int.reduceLT, Int.reduceEq, eq_self, Nat.reduceShiftRight, Nat.reduceAnd, Nat.reduceBneDiff, F]; exact rfl) (h1 : callP false c args ⟨s1, m1⟩ = some (f, xs, ⟨s2, m2⟩) := by simp only [pz, ↓reduceIte, Nat.reduceEqDiff, Nat.reduceAdd, Nat.reduceSub, Nat.reduceMul, Nat.reduceLeDiff, Nat.reduceBEq, Bool.false_eq_true, decide_true, decide_false, Int.reduceLE, Int.reduceToNat, Int.reduceLT, Int.reduceEq, eq_self, Nat.reduceShiftRight, Nat.reduceAnd, Nat.reduceBneDiff, F]; exact rfl)
    (hm : getM m2 [k] = some [.buf (some (a, cap)) ety sz rows] := by simp only [pz, ↓reduceIte, Nat.reduceEqDiff, Nat.reduceAdd, Nat.reduceSub, Nat.reduceMul, Nat.reduceLeDiff, Nat.reduceBEq, Bool.false_eq_true, decide_true, decide_false, Int.reduceLE, Int.reduceToNat, Int.reduceLT, Int.reduceEq, eq_self, Nat.reduceShiftRight, Nat.reduceAnd, Nat.reduceBneDiff]; exact rfl) (hrd : ReadsB a cap rows xs data := by simp [ReadsB, F]) (hl : r.all litD = true := by rfl) (hk : killKs ([k] ++ [k]) s2 = s3 := by simp only [pz, ↓reduceIte, Nat.reduceEqDiff, Nat.reduceAdd, Nat.reduceSub, Nat.reduceMul, Nat.reduceLeDiff, Nat.reduceBEq, Bool.false_eq_true, decide_true, decide_false, Int.reduceLE, Int.reduceToNat, Int.reduceLT, Int.reduceEq, eq_self, Nat.reduceShiftRight, Nat.reduceAnd, Nat.reduceBneDiff]; exact rfl) (hr : remMs ([k] ++ [k]) m2 = m3 := by simp only [pz, ↓reduceIte, Nat.reduceEqDiff, Nat.reduceAdd, Nat.reduceSub, Nat.reduceMul, Nat.reduceLeDiff, Nat.reduceBEq, Bool.false_eq_true, decide_true, decide_false, Int.reduceLE, Int.reduceToNat, Int.reduceLT, Int.reduceEq, eq_self, Nat.reduceShiftRight, Nat.reduceAnd, Nat.reduceBneDiff]; exact rfl) : Runs e ds n os σ K :=
  runs_goP [k] [k] h h1 (con_rdB hc hrd hl) hm rfl (by simp) hk hr fun r' pm' ⟨h2, h3⟩ => by subst h2 h3; exact hK
end
end Go.Proofs.YtofklmbljbkdaaaGreat
namespace Go.Proofs.YtofklmbljbkdaaaGreat
open Go.RowKit
theorem con_szAlgebra {row : List C} (hok : okRow (algF) row) {left : Int} (h0 : 0 ≤ left) (h1 : left ≤ 1048576) : Con e0 11 [.agg row, .one (.lit (.int .i64 left))] [.one (.lit (.int .i64 (sub left (bulkRow row))))] := by
  refine con_below e0_ok (by kernel_rfl) fun w S vs h => ?_
  match vs, h with
  | [v, u], h =>
    obtain ⟨⟨us, rfl, hu⟩, h2, _⟩ := h
    have h2 : u = .int .i64 left := by simpa [DRel, Rep] using h2
    subst h2
    exact (szAlgebra_any row S us left w hok hu h0 h1).mono fun e w' ⟨h1, h2⟩ => ⟨_, h1, h2, by simp [retA, ARel, DRel, Rep]⟩
theorem con_toAlgebra {row : List C} (hok : okRow (algF) row) (hb : bulkRow row ≤ 1048576) : Con e0 14 [.agg row] [.agg row] := by
  refine con_below e0_ok (by kernel_rfl) fun w S vs h => ?_
  match vs, h with
  | [v], h =>
    obtain ⟨⟨us, rfl, hu⟩, _⟩ := h
    exact (toAlgebra_any row S us w hok hu hb).mono fun e w' ⟨us', h1, h2, h3⟩ => ⟨_, h1, h3, us', rfl, OwnVals.rep row _ _ us' (fun x hx => .inr hx) h2⟩
theorem con_eqAlgebra {row : List C} (hok : okRow (algF) row) : Con e0 17 [.agg row, .agg row] [.one (.lit (.bool true))] := by
  refine con_below e0_ok (by kernel_rfl) fun w S vs h => ?_
  match vs, h with
  | [v, u], h =>
    obtain ⟨⟨us, rfl, hu⟩, ⟨us', rfl, hu'⟩, _⟩ := h
    exact (eqAlgebra_any row S S us us' w hok hu hu').mono fun e w' ⟨h1, h2⟩ => ⟨_, h1, h2, by simp [retA, ARel, DRel, Rep]⟩
end Go.Proofs.YtofklmbljbkdaaaGreat
