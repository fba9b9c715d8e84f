/-
  Part of a proof: Alg, Tw, Va, Alg1, Alg2, Hp, Or, Lb, Nc, Nw, Pw, Rh, Rq, QcSignature, QcAlgebra, QcTerm.
-/
import Derived.Test.YtpbikjkjfojjiaaGreatBBase0
import Derived.Test.YtpbikjkjfojjiaaGreatBBase1
import Derived.Test.YtpbikjkjfojjiaaGreatBBase2
import Derived.Test.YtpbikjkjfojjiaaGreatBBase3
import Derived.Test.YtpbikjkjfojjiaaGreatBBase4
set_option linter.unusedSimpArgs false
set_option linter.unusedVariables false
namespace Go.Proofs.YtpbikjkjfojjiaaGreat
open Go.RowKit Go.Sort
structure TabOk (z : Int) (n : Nat) (t : List Int) : Prop where
  len : t.length = z.toNat ^ n
  all : ∀ x ∈ t, 0 ≤ x ∧ x < z
structure AlgOk (g : Sgn) (a : Alg) : Prop where
  sgn : SgnOk g
  lo : 1 ≤ a.size
  hi : a.size ≤ 4
  len : a.tables.length = g.ops.length
  tab : ∀ (i : Nat) (o : Opr) (d : Dcl) (t : List Int), g.ops[i]? = some o → o.decls[0]? = some d → a.tables[i]? = some t → TabOk a.size d.args.length t
open Classical in
noncomputable def isAlg (g : Sgn) (a : Alg) : Bool := decide (AlgOk g a)
theorem isAlg_true {g : Sgn} {a : Alg} (h : AlgOk g a) : isAlg g a = true := by simp [isAlg, h]
theorem isAlg_false {g : Sgn} {a : Alg} (h : ¬ AlgOk g a) : isAlg g a = false := by simp [isAlg, h]
theorem isAlg_iff {g : Sgn} {a : Alg} : isAlg g a = true ↔ AlgOk g a := by simp [isAlg]
def algC (f : FuncId) : Prop := ∀ (g : Sgn) (a : Alg) (S : Nat → Prop) (vs us : List Value) (w : World), okSgn g → okAlg a → RepVals w S (encSgn g) vs → RepVals w S (encAlg a) us →
  Calls Tryz.prog f #[.agg vs.toArray, .agg us.toArray] w fun e w' => e = .returned (.bool (isAlg g a)) ∧ Below w.heap.size w w'
theorem pow_le64 {z j : Nat} (hz : z ≤ 4) (hj : j ≤ 3) : z ^ j ≤ 64 := Nat.le_trans (Nat.pow_le_pow_left hz j) (Nat.le_trans (Nat.pow_le_pow_right (by omega) hj) (by decide))
theorem wrap_mul {p z : Nat} (hp : p ≤ 64) (hz : z ≤ 4) : wrap64 ((p : Int) * (z : Int)) = ((p * z : Nat) : Int) ∧ IntKind.i64.wrap ((p : Int) * (z : Int)) = ((p * z : Nat) : Int) := by
  have h : p * z ≤ 64 * 4 := Nat.mul_le_mul hp hz
  have e : (p : Int) * (z : Int) = ((p * z : Nat) : Int) := by rw [Int.natCast_mul]
  rw [e]
  generalize p * z = q at *
  constructor
  · exact IntWalk.wrap64_in _ (by omega)
  · exact IntWalk.i64_in _ (by omega)
end Go.Proofs.YtpbikjkjfojjiaaGreat
namespace Go.Proofs.YtpbikjkjfojjiaaGreat
open Go.RowKit
/-- What a table of two arguments gives. -/
def tw2 (a : Alg) (i : Nat) (x y : Int) : Int := (a.tables.getD i []).getD (x * a.size + y).toNat 0
def Inz (a : Alg) (x : Int) : Prop := 0 ≤ x ∧ x < a.size
/-- A table for two arguments. -/
structure Tab2 (a : Alg) (i : Nat) : Prop where
  lo : 1 ≤ a.size
  hi : a.size ≤ 4
  tab : ∃ l, a.tables[i]? = some l ∧ l.length = a.size.toNat * a.size.toNat ∧ ∀ x ∈ l, Inz a x
theorem Tab2.get {a : Alg} {i : Nat} (h : Tab2 a i) {x y : Int} (hx : Inz a x) (hy : Inz a y) : ∃ l, a.tables[i]? = some l ∧ IntKind.i64.wrap (x * a.size) = x * a.size ∧ IntKind.i64.wrap (x * a.size + y) = x * a.size + y ∧ 0 ≤ x * a.size + y ∧ l[(x * a.size + y).toNat]? = some (tw2 a i x y) ∧ Inz a (tw2 a i x y) := by
  obtain ⟨l, h1, h2, h3⟩ := h.tab
  have hlo := h.lo
  have hhi := h.hi
  obtain ⟨x0, x1⟩ := hx
  obtain ⟨y0, y1⟩ := hy
  have m0 : 0 ≤ x * a.size := Int.mul_nonneg x0 (by omega)
  have m1 : x * a.size + a.size ≤ a.size * a.size := by
    have : (x + 1) * a.size ≤ a.size * a.size := Int.mul_le_mul_of_nonneg_right (by omega) (by omega)
    rw [Int.add_mul] at this; omega
  have m2 : a.size * a.size ≤ 16 := by
    have := Int.mul_le_mul hhi hhi (by omega) (by omega)
    omega
  have hl : (x * a.size + y).toNat < l.length := by
    rw [h2]
    have e : ((a.size.toNat * a.size.toNat : Nat) : Int) = a.size * a.size := by rw [Int.natCast_mul, Int.toNat_of_nonneg (by omega)]
    omega
  have e1 : tw2 a i x y = l[(x * a.size + y).toNat] := by
    unfold tw2
    simp [List.getD_eq_getElem?_getD, h1, List.getElem?_eq_getElem hl]
  refine ⟨l, h1, wrapN rfl (by omega) (by omega), wrapN rfl (by omega) (by omega), by omega, ?_, ?_⟩
  · rw [e1]; exact List.getElem?_eq_getElem hl
  · rw [e1]; exact h3 _ (List.getElem_mem hl)
set_option maxHeartbeats 4000000 in
set_option maxRecDepth 100000 in
theorem con_l22Two {a : Alg} {i : Nat} {x y : Int} (ht : Tab2 a i) (hx : Inz a x) (hy : Inz a y) : Con e0 116 [.agg (encAlg a), .one (.lit (.int .i64 i)), .one (.lit (.int .i64 x)), .one (.lit (.int .i64 y))] [.one (.lit (.int .i64 (tw2 a i x y)))] := by
  obtain ⟨l, h, hw, hw2, h0, hv, _⟩ := ht.get hx hy
  refine gI 287 Tryz.func116 ?_
  (have F := And.intro @encAlg_u (And.intro @encInts_u (And.intro @encInt_u (And.intro @h (And.intro @hw (And.intro @hw2 (And.intro @h0 @hv)))))); refine gG ?_; exact gT)
end Go.Proofs.YtpbikjkjfojjiaaGreat
namespace Go.Proofs.YtpbikjkjfojjiaaGreat
open Go.RowKit
def valV : List Tm → List Int → Tm → Int
  | v :: vs, x :: xs, t => if cmpTm v t = 0 then x else valV vs xs t
  | _, _, _ => 0
def isAs (g : Sgn) (op : Int) : Bool := (g.ops[op.toNat]?.map (·.assoc)).getD false
def accV (ac : Bool) (z : Int) (l ws : List Int) : Nat → Int
  | 0 => 0
  | i + 1 => if ac = true ∧ 0 < i then l.getD (accV ac z l ws i * z + ws.getD i 0).toNat 0 else accV ac z l ws i * z + ws.getD i 0
theorem accV_0 (ac : Bool) (z : Int) (l ws : List Int) : accV ac z l ws 0 = 0 := rfl
def opV (ac : Bool) (z : Int) (l ws : List Int) : Int := if ac = true then accV true z l ws ws.length else l.getD (accV false z l ws ws.length).toNat 0
mutual
def valTm (g : Sgn) (a : Alg) (vs : List Tm) (xs : List Int) : Tm → Int
  | .mk op nm so args => if op < 0 then valV vs xs (.mk op nm so args) else opV (isAs g op) a.size (a.tables.getD op.toNat []) (valTms g a vs xs args)
def valTms (g : Sgn) (a : Alg) (vs : List Tm) (xs : List Int) : List Tm → List Int
  | [] => []
  | t :: ts => valTm g a vs xs t :: valTms g a vs xs ts
end
theorem valTms_eq (g : Sgn) (a : Alg) (vs : List Tm) (xs : List Int) : ∀ ts : List Tm, valTms g a vs xs ts = ts.map (valTm g a vs xs)
  | [] => rfl
  | t :: ts => by rw [valTms, valTms_eq g a vs xs ts, List.map_cons]
theorem valTms_len {g : Sgn} {a : Alg} {vs : List Tm} {xs : List Int} (ts : List Tm) : (valTms g a vs xs ts).length = ts.length := by rw [valTms_eq, List.length_map]
/-- A table that serves an operation of n arguments. -/
structure TabN (z : Int) (n : Nat) (ac : Bool) (l : List Int) : Prop where
  lo : 1 ≤ z
  hi : z ≤ 4
  len : l.length = z.toNat ^ n
  all : ∀ x ∈ l, 0 ≤ x ∧ x < z
  le3 : n ≤ 3
  as2 : ac = true → n = 2
def In0 (z x : Int) : Prop := 0 ≤ x ∧ x < z
theorem pow_int {z : Int} (h : 1 ≤ z) (n : Nat) : ((z.toNat ^ n : Nat) : Int) = z ^ n := by
  rw [Int.natCast_pow, Int.toNat_of_nonneg (by omega)]
theorem mul_add_lt {r z w p : Int} (h0 : 0 ≤ r) (h1 : r < p) (hz : 1 ≤ z) (hw : 0 ≤ w ∧ w < z) : 0 ≤ r * z ∧ 0 ≤ r * z + w ∧ r * z + w < p * z := by
  have m0 : 0 ≤ r * z := Int.mul_nonneg h0 (by omega)
  have m1 : (r + 1) * z ≤ p * z := Int.mul_le_mul_of_nonneg_right (by omega) (by omega)
  rw [Int.add_mul] at m1
  omega
theorem TabN.get {z : Int} {n : Nat} {ac : Bool} {l : List Int} (h : TabN z n ac l) {k : Int} (h0 : 0 ≤ k) (h1 : k < z ^ n) : l[k.toNat]? = some (l.getD k.toNat 0) ∧ In0 z (l.getD k.toNat 0) := by
  have hl : k.toNat < l.length := by
    have := pow_int h.lo n
    have e := h.len
    omega
  rw [List.getD_eq_getElem?_getD, List.getElem?_eq_getElem hl]
  exact ⟨rfl, h.all _ (List.getElem_mem hl)⟩
theorem accF_in {z : Int} {l ws : List Int} (hz : 1 ≤ z) (hw : ∀ x ∈ ws, In0 z x) : ∀ i : Nat, i ≤ ws.length → 0 ≤ accV false z l ws i ∧ accV false z l ws i < z ^ i
  | 0, _ => by simp [accV]
  | i + 1, h => by
    obtain ⟨h0, h1⟩ := accF_in (l := l) hz hw i (by omega)
    have hwi : In0 z (ws.getD i 0) := by
      rw [List.getD_eq_getElem?_getD, List.getElem?_eq_getElem (by omega)]
      exact hw _ (List.getElem_mem _)
    have hm := mul_add_lt h0 h1 hz hwi
    simp only [accV, Bool.false_eq_true, false_and, if_false, Int.pow_succ]
    exact ⟨hm.2.1, hm.2.2⟩
theorem accT_in {z : Int} {l ws : List Int} (hT : TabN z 2 true l) (hw : ∀ x ∈ ws, In0 z x) : ∀ i : Nat, i ≤ ws.length → In0 z (accV true z l ws i)
  | 0, _ => by have := hT.lo; simp only [accV, In0]; omega
  | i + 1, h => by
    have ih := accT_in hT hw i (by omega)
    have hwi : In0 z (ws.getD i 0) := by
      rw [List.getD_eq_getElem?_getD, List.getElem?_eq_getElem (by omega)]
      exact hw _ (List.getElem_mem _)
    have hm := mul_add_lt ih.1 ih.2 hT.lo hwi
    simp only [accV]
    split
    · exact (hT.get hm.2.1 (by rw [Int.pow_succ, Int.pow_succ, Int.pow_zero, Int.one_mul]; exact hm.2.2)).2
    · rename_i hi
      simp only [true_and, Nat.not_lt, Nat.le_zero] at hi
      subst hi
      simp only [accV, Int.zero_mul, Int.zero_add]
      exact hwi
theorem pow_le {z : Int} (h0 : 1 ≤ z) (h1 : z ≤ 4) {n : Nat} (hn : n ≤ 3) : z ^ n ≤ 64 := by
  have h := pow_int h0 n
  have h2 : z.toNat ^ n ≤ 64 := pow_le64 (by omega) hn
  omega
/-- One round of the program's loop over the arguments. -/
theorem acc_step {z : Int} {n : Nat} {ac : Bool} {l ws : List Int} (hT : TabN z n ac l) (hw : ∀ x ∈ ws, In0 z x) (hn : ac = false → ws.length = n) {i : Nat} {w : Int} (hi : ws[i]? = some w) :
    IntKind.i64.wrap (accV ac z l ws i * z) = accV ac z l ws i * z ∧ IntKind.i64.wrap (accV ac z l ws i * z + w) = accV ac z l ws i * z + w ∧ 0 ≤ accV ac z l ws i * z + w ∧
    (ac = true → 0 < i → l[(accV ac z l ws i * z + w).toNat]? = some (accV ac z l ws (i + 1))) ∧ (ac = false ∨ i = 0 → accV ac z l ws (i + 1) = accV ac z l ws i * z + w) := by
  have hil := (List.getElem?_eq_some_iff.1 hi).1
  have hwi := hw w (List.mem_of_getElem? hi)
  have hg : ws.getD i 0 = w := by rw [List.getD_eq_getElem?_getD, hi]; rfl
  have hlo := hT.lo
  have hhi := hT.hi
  cases ac with
  | false =>
    obtain ⟨h0, h1⟩ := accF_in (l := l) hlo hw i (by omega)
    have hm := mul_add_lt h0 h1 hlo hwi
    have hp := pow_le hlo hhi (n := i + 1) (by have := hn rfl; have := hT.le3; omega)
    rw [Int.pow_succ] at hp
    have hr : accV false z l ws i * z ≤ accV false z l ws i * z + w := by have := hwi.1; omega
    refine ⟨IntWalk.i64_in _ (by omega), IntWalk.i64_in _ (by omega), hm.2.1, fun h => absurd h (by decide), fun _ => ?_⟩
    simp only [accV, Bool.false_eq_true, false_and, if_false, hg]
  | true =>
    have h2 := hT.as2 rfl
    subst h2
    have ih := accT_in hT hw i (by omega)
    have hm := mul_add_lt ih.1 ih.2 hlo hwi
    have hp := pow_le hlo hhi (n := 2) (by omega)
    rw [Int.pow_succ, Int.pow_succ, Int.pow_zero, Int.one_mul] at hp
    have hr : accV true z l ws i * z ≤ accV true z l ws i * z + w := by have := hwi.1; omega
    refine ⟨IntWalk.i64_in _ (by omega), IntWalk.i64_in _ (by omega), hm.2.1, fun _ h => ?_, fun h => ?_⟩
    · have hgt := (hT.get hm.2.1 (by rw [Int.pow_succ, Int.pow_succ, Int.pow_zero, Int.one_mul]; exact hm.2.2)).1
      rw [hgt]
      simp only [accV, hg, h, and_self, if_true]
    · rcases h with h | h
      · cases h
      · subst h
        simp only [accV, hg]
        simp
theorem opV_in {z : Int} {n : Nat} {ac : Bool} {l ws : List Int} (hT : TabN z n ac l) (hw : ∀ x ∈ ws, In0 z x) (hn : ac = false → ws.length = n) : In0 z (opV ac z l ws) := by
  cases ac with
  | false =>
    have h := accF_in (l := l) hT.lo hw ws.length (Nat.le_refl _)
    rw [hn rfl] at h
    have := (hT.get h.1 h.2).2
    simp only [opV, Bool.false_eq_true, if_false, hn rfl]
    exact this
  | true =>
    have h2 := hT.as2 rfl
    subst h2
    simp only [opV, if_true]
    exact accT_in hT hw ws.length (Nat.le_refl _)
theorem tab_of {g : Sgn} {a : Alg} (hA : AlgOk g a) {t : Tm} {o : Opr} {d : Dcl} (hap : AppOk g t o d) : ∃ l, a.tables[t.op.toNat]? = some l ∧ TabN a.size d.args.length o.assoc l ∧ isAs g t.op = o.assoc := by
  have hat := hap.at'
  have hil := (List.getElem?_eq_some_iff.1 hat).1
  have hm := List.mem_of_getElem? hat
  have hlt : t.op.toNat < a.tables.length := by rw [hA.len]; exact hil
  refine ⟨a.tables[t.op.toNat], List.getElem?_eq_getElem hlt, ?_, by simp [isAs, hat]⟩
  have h := hA.tab _ o d _ hat hap.fst (List.getElem?_eq_getElem hlt)
  exact ⟨hA.lo, hA.hi, h.len, h.all, (hA.sgn.decls o hm).ar d hap.fst, fun h => ((hA.sgn.axs o hm).two (.inl h) d hap.fst).1⟩
structure ValOk (a : Alg) (vs : List Tm) (xs : List Int) : Prop where
  len : xs.length = vs.length
  all : ∀ x ∈ xs, In0 a.size x
theorem valV_get : ∀ {vs : List Tm} {xs : List Int} {t : Tm} {i : Nat} {v : Tm} {x : Int}, vs[i]? = some v → xs[i]? = some x → cmpTm v t = 0 → (∀ j u, j < i → vs[j]? = some u → cmpTm u t ≠ 0) → valV vs xs t = x
  | [], _, _, i, _, _, h, _, _, _ => by simp at h
  | _ :: _, [], _, i, _, _, _, h, _, _ => by simp at h
  | w :: vs, y :: xs, t, 0, v, x, h1, h2, h3, _ => by
    simp at h1 h2
    subst h1 h2
    simp [valV, h3]
  | w :: vs, y :: xs, t, i + 1, v, x, h1, h2, h3, h4 => by
    have h0 := h4 0 w (by omega) rfl
    rw [valV, if_neg h0]
    exact valV_get (by simpa using h1) (by simpa using h2) h3 fun j u hj hu => h4 (j + 1) u (by omega) (by simpa using hu)
theorem valV_in {z : Int} : ∀ {vs : List Tm} {xs : List Int} {t : Tm}, xs.length = vs.length → (∀ x ∈ xs, In0 z x) → t ∈ vs → In0 z (valV vs xs t)
  | [], _, _, _, _, h => by simp at h
  | v :: vs, [], _, h, _, _ => by simp at h
  | v :: vs, x :: xs, t, hl, hx, h => by
    rw [valV]
    split
    · exact hx x (by simp)
    · rename_i hne
      rcases List.mem_cons.1 h with rfl | h
      · exact absurd (cmpTm_self _) hne
      · exact valV_in (by simpa using hl) (fun y hy => hx y (by simp [hy])) h
theorem op_cases {g : Sgn} {t : Tm} (h : NodeOk g t) : (VarOk g t ∧ t.op < 0) ∨ (0 ≤ t.op ∧ ∃ o d, AppOk g t o d) := by
  rcases h with h | ⟨o, d, h⟩
  · exact .inl ⟨h, by have := h.1; omega⟩
  · exact .inr ⟨h.lo, o, d, h⟩
mutual
theorem valTm_in {g : Sgn} {a : Alg} {vs : List Tm} {xs : List Int} (hA : AlgOk g a) (hv : ValOk a vs xs) : ∀ {t : Tm}, FormOk g t → (∀ v ∈ varsTm t, v ∈ vs) → In0 a.size (valTm g a vs xs t)
  | .mk op nm so args, hf, hin => by
    have hn := hf.node
    simp only [FormOk] at hf
    rw [valTm]
    rcases op_cases hn with ⟨h, hop⟩ | ⟨hop, o, d, h⟩
    · rw [if_pos (by simpa only [Tm.op] using hop)]
      have e1 := h.1
      have e2 := h.2.2.2.2
      simp only [Tm.op, Tm.args] at e1 e2
      subst e1 e2
      exact valV_in hv.len hv.all (hin _ (by simp [varsTm]))
    · have h1 : ¬ op < 0 := by simp only [Tm.op] at hop; omega
      rw [if_neg h1]
      obtain ⟨l, hl, hT, has⟩ := tab_of hA h
      simp only [Tm.op] at hl has
      have hlen := valTms_len (g := g) (a := a) (vs := vs) (xs := xs) args
      have hnas := h.nas
      simp only [Tm.args] at hnas
      have e : a.tables.getD op.toNat [] = l := by simp [List.getD_eq_getElem?_getD, hl]
      rw [has, e]
      refine opV_in hT (valTms_in hA hv hf.2.1 fun v hvm => hin v ?_) fun h => by rw [hlen]; exact hnas h
      have : ¬ op = -1 := by omega
      simpa only [varsTm, if_neg this] using hvm
theorem valTms_in {g : Sgn} {a : Alg} {vs : List Tm} {xs : List Int} (hA : AlgOk g a) (hv : ValOk a vs xs) : ∀ {ts : List Tm}, FormOks g ts → (∀ v ∈ varsTms ts, v ∈ vs) → ∀ x ∈ valTms g a vs xs ts, In0 a.size x
  | [], _, _ => by simp [valTms]
  | t :: ts, hf, hin => by
    simp only [FormOks] at hf
    simp only [varsTms, List.mem_append] at hin
    intro x hx
    simp only [valTms, List.mem_cons] at hx
    rcases hx with rfl | hx
    · exact valTm_in hA hv hf.1 fun v h => hin v (.inl h)
    · exact valTms_in hA hv hf.2 (fun v h => hin v (.inr h)) x hx
end
end Go.Proofs.YtpbikjkjfojjiaaGreat
namespace Go.Proofs.YtpbikjkjfojjiaaGreat
open Go.RowKit Go.Sort
set_option maxHeartbeats 20000000 in
set_option maxRecDepth 100000 in
theorem implIsAlgebra : algC 69 := by
  intro g a S vs us w hokg hoka hvg hva
  obtain ⟨s, ops⟩ := g
  have hvg0 := hvg
  obtain ⟨g0, g1, g2, rfl, f0, f1, f2⟩ := repVals_Signature hvg
  obtain ⟨Ag0, cg0, rfl, _, _⟩ := f0.shape
  obtain ⟨Ag1, cg1, rfl, _, _⟩ := f1.shape
  obtain ⟨Ag2, cg2, rfl, hcg2, hmg2⟩ := f2.shape
  obtain ⟨z, tabs⟩ := a
  simp only [encAlg] at hva
  obtain ⟨v1, rfl, e1⟩ := repVals_Algebra hva
  obtain ⟨At, capt, rfl, hct, hmt⟩ := e1.shape
  have HOKG := Lib.hid hokg
  have HOKA := Lib.hid hoka
  have HVG := Lib.hid hvg0
  have F2 := Lib.hid f2
  have E1 := Lib.hid e1
  have hz64 : I64 z := hoka.1
  clear hvg hvg0 hva f0 f1 f2 e1 hokg hoka
  simp only at HVG F2 hcg2 hmg2
  simp only
  generalize s.names.length = n at *
  generalize s.subs.length = ls at *
  generalize hM : ops.length = m at *
  have HM := Lib.hid hM
  generalize hMT : tabs.length = mt at *
  have HMT := Lib.hid hMT
  clear hM hMT
  unfold maxLen at hmg2 hmt
  unfold I64 at hz64
  have HIS := Lib.hid (fun W h => implIsSignature ⟨s, ops⟩ S [.slice Ag0 n cg0, .slice Ag1 ls cg1, .slice Ag2 m cg2] W HOKG.out h)
  go_enter Tryz.func69, Tryz.ntmps69
  go_wp2_with fail
  generalize hW : (w.alloc _).alloc _ = W0
  have hb0 : Below w.heap.size w W0 := by rw [← hW]; exact (by repeat' (first | exact Below.refl _ _ | refine below_drewN ?_ _ | refine Below.alloc ?_ (by first | exact Nat.le_refl _ | (simp; done) | (simp; omega)) _))
  have p0 : W0.cell? ⟨w.heap.size, 0, none⟩ = some (.slice Ag0 n cg0) := (by rw [← hW]; repeat' (first | (simp; done) | exact keepNew (by simp) rfl | refine keepA _ ?_))
  have p1 : W0.cell? ⟨w.heap.size, 1, none⟩ = some (.slice Ag1 ls cg1) := (by rw [← hW]; repeat' (first | (simp; done) | exact keepNew (by simp) rfl | refine keepA _ ?_))
  have p2 : W0.cell? ⟨w.heap.size, 2, none⟩ = some (.slice Ag2 m cg2) := (by rw [← hW]; repeat' (first | (simp; done) | exact keepNew (by simp) rfl | refine keepA _ ?_))
  have p3 : W0.cell? ⟨w.heap.size + 1, 0, none⟩ = some (.int .i64 z) := (by rw [← hW]; repeat' (first | (simp; done) | exact keepNew (by simp) rfl | refine keepA _ ?_))
  have p4 : W0.cell? ⟨w.heap.size + 1, 1, none⟩ = some (.slice At mt capt) := (by rw [← hW]; repeat' (first | (simp; done) | exact keepNew (by simp) rfl | refine keepA _ ?_))
  clear hW
  generalize w.heap.size + 1 = g3 at *
  by_cases hs : SgnOk ⟨s, ops⟩
  rotate_left
  · have HF : Hid (isAlg ⟨s, ops⟩ ⟨z, tabs⟩ = false) := isAlg_false fun h => hs h.sgn
    rw [isSgn_false hs] at HIS
    clear hs
    refine (HIS.out _ (HVG.out.below hb0)).mono ?_
    rintro e w2 ⟨rfl, hb2⟩
    go_wp2
    go_ret
    exact ⟨ret_bool HF.out.symm, hb0.trans (hb2.mono hb0.size)⟩
  rw [isSgn_true hs] at HIS
  have HSO := Lib.hid hs
  clear hs
  refine (HIS.out _ (HVG.out.below hb0)).mono ?_
  rintro e W ⟨rfl, hb2⟩
  have hbW : Below w.heap.size w W := hb0.trans (hb2.mono hb0.size)
  have r0 := keepB hb2 p0
  have r1 := keepB hb2 p1
  have r2 := keepB hb2 p2
  have r3 := keepB hb2 p3
  have r4 := keepB hb2 p4
  have F2W := Lib.hid (F2.out.below hbW)
  have E1W := Lib.hid (E1.out.below hbW)
  clear p0 p1 p2 p3 p4 F2 E1 HVG HIS hb0 hb2
  by_cases hz1 : z < 1
  · have HF : Hid (isAlg ⟨s, ops⟩ ⟨z, tabs⟩ = false) := isAlg_false fun h => by have := h.lo; simp only at this; omega
    go_wp2
    go_ret
    exact ⟨ret_bool HF.out.symm, hbW⟩
  by_cases hz4 : 4 < z
  · have HF : Hid (isAlg ⟨s, ops⟩ ⟨z, tabs⟩ = false) := isAlg_false fun h => by have := h.hi; simp only at this; omega
    go_wp2
    go_ret
    exact ⟨ret_bool HF.out.symm, hbW⟩
  by_cases hmm : mt = m
  rotate_left
  · have HF : Hid (isAlg ⟨s, ops⟩ ⟨z, tabs⟩ = false) := isAlg_false fun h => hmm (by have := h.len; have := HM.out; have := HMT.out; simp only at *; omega)
    have n1 : (mt == m) = false := by simp [hmm]
    have n2 : ((mt : Int) == (m : Int)) = false := by simp; omega
    have n3 : ((mt : Int) != (m : Int)) = true := by simp; omega
    go_wp2
    go_ret
    exact ⟨ret_bool HF.out.symm, hbW⟩
  obtain rfl : m = mt := hmm.symm
  have n1 : (m == m) = true := by simp
  obtain ⟨zn, rfl⟩ := Int.eq_ofNat_of_zero_le (show 0 ≤ z by omega)
  obtain ⟨ip, hpi, _, hps, _⟩ := info_parts info_Op'
  go_wp2
  clear n1
  go_loopw [35] (fun i wr => ∃ k : Nat, k ≤ m ∧ i = .int .i64 k ∧ (∀ (j : Nat) (o : Opr) (d : Dcl) (t : List Int), j < k → ops[j]? = some o → o.decls[0]? = some d → tabs[j]? = some t → TabOk zn d.args.length t) ∧ Below W.heap.size W wr) (fun i _ => m - (intOf i).toNat)
  case atStart => exact ⟨0, Nat.zero_le _, rfl, fun j o d t h => by omega, Below.refl _ _⟩
  case round =>
    obtain ⟨k, hk, rfl, hall, hb⟩ := hrel
    have HALL := Lib.hid hall
    clear hall
    by_cases hkn : k < m
    · obtain ⟨o, ho⟩ : ∃ o, ops[k]? = some o := ⟨_, List.getElem?_eq_getElem (by have := HM.out; omega)⟩
      obtain ⟨t, ht⟩ : ∃ t, tabs[k]? = some t := ⟨_, List.getElem?_eq_getElem (by have := HMT.out; omega)⟩
      obtain ⟨d, hd, hdd⟩ := (HSO.out.decls o (List.mem_of_getElem? ho)).first
      have har := (HSO.out.decls o (List.mem_of_getElem? ho)).ar d hd
      have HOO := Lib.hid (HOKG.out.2 o (List.mem_of_getElem? ho))
      have HTO := Lib.hid (HOKA.out.2 t (List.mem_of_getElem? ht))
      obtain ⟨b, off, vd, rfl, hbz, c0, c1, c2, c3, c4, rd⟩ := Rep.opAt HOKG.out.2 (F2W.out.below hb) ho
      obtain ⟨bt, ot, Ax, cx, rfl, hbt, x0, hx1, hx2, rt⟩ := Rep.intsAt HOKA.out.2 (E1W.out.below hb) ht
      have HO := Lib.hid ho
      have HT := Lib.hid ht
      have HD := Lib.hid hd
      obtain ⟨name, decls, ac, cm, un⟩ := o
      simp only at c0 c2 c3 c4 rd hd
      obtain ⟨Ad, capd, rfl, hcd, hmd⟩ := rd.shape
      obtain ⟨b1, o1, rfl, _, hz1', hrow⟩ := Rep.at okDclR HOO.out.2.1 rd hd
      have hld : 0 < decls.length := (List.getElem?_eq_some_iff.1 hd).1
      obtain ⟨dargs, dres⟩ := d
      simp only [encDcl, RepRow, and_true, fieldsOf, List.length_cons, List.length_nil, Nat.reduceAdd, Nat.zero_mul, Nat.add_zero, Rep.lit_iff] at hrow
      obtain ⟨⟨u0, w0, r0'⟩, ⟨_, w1, rfl⟩⟩ := hrow
      obtain ⟨Ae, cape, rfl, hce, hme⟩ := r0'.shape
      simp only at har
      have RT := Lib.hid rt
      clear ho ht hd hdd rd rt r0'
      generalize decls.length = ld at *
      generalize hLT : t.length = lt at *
      have HLT2 := Lib.hid hLT
      generalize hDL : dargs.length = dl at *
      have HDL := Lib.hid hDL
      clear hLT hDL
      unfold maxLen at hx2 hmd hme
      go_upto_region 6 with ((with_reducible refine atStore 153 (.tmp 6) (.tmp 39) rfl ?_); refine wpList_store_new rfl 153 _ _ rfl _ _ _ rfl _ rfl (by simp) [.string name, .slice (some ⟨b1, o1, none⟩) ld capd, .bool ac, .bool cm, .int .i64 un] rfl ip hpi hps rfl (by simp [Value.oneCell']) ?_)
      simp only [Act.put]
      generalize hW7 : wr.alloc _ = W7
      have hb7 : Below wr.heap.size wr W7 := by rw [← hW7]; exact belowA _ _
      have y1 : W7.cell? ⟨wr.heap.size, 1, none⟩ = some (.slice (some ⟨b1, o1, none⟩) ld capd) := (by rw [← hW7]; repeat' (first | (simp; done) | exact keepNew (by simp) rfl | refine keepA _ ?_))
      have hbW7 : Below W.heap.size W W7 := hb.trans (hb7.mono hb.size)
      have q3 := keepB hbW7 r3
      have q4 := keepB hbW7 r4
      have v0 := keepB hb7 w0
      have v1 := keepB hb7 x0
      have RT7 := Lib.hid (RT.out.below hb7)
      clear hW7 c0 c1 c2 c3 c4 w0 w1 x0 RT hb7 hb hbz hbt hz1'
      generalize wr.heap.size = g7 at *
      go_wp2
      obtain ⟨wo, rfl⟩ : ∃ x : World, x = wr := ⟨_, rfl⟩
      go_loop [7, 46] (fun p i => ∃ j : Nat, j ≤ dl ∧ i = .int .i64 j ∧ p = .int .i64 ((zn ^ j : Nat) : Int)) (fun _ i => dl - (intOf i).toNat)
      case atStart => exact ⟨0, Nat.zero_le _, rfl, by simp⟩
      case round =>
        obtain ⟨j, hj, rfl, rfl⟩ := hrel
        by_cases hjk : j < dl
        · have hp := pow_le64 (show zn ≤ 4 by omega) (show j ≤ 3 by omega)
          have HS := Lib.hid (Nat.pow_succ zn j)
          generalize zn ^ j = p at *
          obtain ⟨m1, m2⟩ := wrap_mul hp (show zn ≤ 4 by omega)
          go_wp2
          go_round
          case rel => exact ⟨j + 1, by omega, by go_num, by rw [HS.out]; first | rfl | (simp only [Int.natCast_mul]; done) | simp [Int.natCast_mul]⟩
          case measure => simp [intOf]; omega
        · obtain rfl : dl = j := by omega
          have hpw := pow_le64 (show zn ≤ 4 by omega) har
          generalize hPW : zn ^ dl = pw at *
          have HPW := Lib.hid hPW
          clear hPW
          by_cases hlen : lt = pw
          rotate_left
          · have HF : Hid (isAlg ⟨s, ops⟩ ⟨zn, tabs⟩ = false) := isAlg_false fun h => hlen (by have := (h.tab k _ _ t HO.out HD.out HT.out).len; rw [HLT2.out] at this; simp only [HDL.out] at this; simpa [HPW.out] using this)
            have n1 : (lt == pw) = false := by simp [hlen]
            have n2 : ((lt : Int) == (pw : Int)) = false := by simp; omega
            have n3 : ((lt : Int) != (pw : Int)) = true := by simp; omega
            go_wp2
            go_ret
            exact ⟨ret_bool HF.out.symm, hbW.trans (hbW7.mono hbW.size)⟩
          obtain rfl : lt = pw := hlen
          have n1 : (lt == lt) = true := by simp
          go_wp2
          clear n1
          go_loop [67] (fun i => ∃ j : Nat, j ≤ lt ∧ i = .int .i64 j ∧ (∀ (i : Nat) (x : Int), i < j → t[i]? = some x → 0 ≤ x ∧ x < (zn : Int))) (fun i => lt - (intOf i).toNat)
          case atStart => exact ⟨0, Nat.zero_le _, rfl, fun i x h => by omega⟩
          case round =>
            obtain ⟨j, hj, rfl, hno⟩ := hrel
            have HNO := Lib.hid hno
            clear hno
            by_cases hjk : j < lt
            · obtain ⟨x, hx⟩ : ∃ x, t[j]? = some x := ⟨_, List.getElem?_eq_getElem (by have := HLT2.out; omega)⟩
              obtain ⟨bx, ox, rfl, hbx, cx0⟩ := Rep.int HTO.out RT7.out hx
              have HX := Lib.hid hx
              clear hx
              by_cases hxr : 0 ≤ x ∧ x < (zn : Int)
              · obtain ⟨e0, e1⟩ := hxr
                go_wp2
                go_round
                case rel =>
                  refine ⟨j + 1, by omega, by go_num, fun i y hi hy => ?_⟩
                  by_cases hij : i = j
                  · subst hij
                    rw [HX.out] at hy
                    injection hy with hy
                    rw [← hy]
                    exact ⟨e0, e1⟩
                  · exact HNO.out i y (by omega) hy
                case measure => simp [intOf]; omega
              · have HF : Hid (isAlg ⟨s, ops⟩ ⟨zn, tabs⟩ = false) := isAlg_false fun h => hxr ((h.tab k _ _ t HO.out HD.out HT.out).all x (List.mem_of_getElem? HX.out))
                by_cases e0 : x < 0
                · clear hxr
                  go_wp2
                  go_ret
                  exact ⟨ret_bool HF.out.symm, hbW.trans (hbW7.mono hbW.size)⟩
                · have e1 : (zn : Int) ≤ x := by omega
                  clear hxr
                  go_wp2
                  go_ret
                  exact ⟨ret_bool HF.out.symm, hbW.trans (hbW7.mono hbW.size)⟩
            · obtain rfl : lt = j := by omega
              go_wp2
              go_roundw
              case rel =>
                refine ⟨k + 1, by omega, by go_num, fun j o' d' t' hj ho hd ht => ?_, hbW7⟩
                by_cases hjk' : j = k
                · subst hjk'
                  rw [HO.out] at ho
                  injection ho with ho
                  subst ho
                  rw [HD.out] at hd
                  injection hd with hd
                  subst hd
                  rw [HT.out] at ht
                  injection ht with ht
                  subst ht
                  refine ⟨by rw [HLT2.out]; simp only [HDL.out]; simp [HPW.out], fun x hx => ?_⟩
                  obtain ⟨i, hi⟩ := List.mem_iff_getElem?.1 hx
                  exact HNO.out i x (by have hil := (List.getElem?_eq_some_iff.1 hi).1; rw [HLT2.out] at hil; exact hil) hi
                · exact HALL.out j o' d' t' (by omega) ho hd ht
              case measure => simp [intOf]; omega
    · obtain rfl : m = k := by omega
      have HF : Hid (isAlg ⟨s, ops⟩ ⟨zn, tabs⟩ = true) := isAlg_true ⟨HSO.out, by simp only; omega, by simp only; omega, by have := HM.out; have := HMT.out; simp only; omega, fun i o d t ho hd ht => HALL.out i o d t (by have hil : i < ops.length := (List.getElem?_eq_some_iff.1 ho).1; have := HM.out; omega) ho hd ht⟩
      go_wp2
      go_ret
      exact ⟨ret_bool HF.out.symm, hbW.trans (hb.mono hbW.size)⟩
end Go.Proofs.YtpbikjkjfojjiaaGreat
namespace Go.Proofs.YtpbikjkjfojjiaaGreat
open Go.RowKit Go.Sort
set_option maxRecDepth 100000 in
theorem specPower (z k : Nat) (hz : z ≤ 4) (hk : k ≤ 3) (w : World) : Calls Tryz.prog 75 #[.int .i64 z, .int .i64 k] w fun e w' => e = .returned (.int .i64 ((z ^ k : Nat) : Int)) ∧ w = w' := by
  go_enter Tryz.func75, Tryz.ntmps75
  go_wp2
  go_loop [5, 6] (fun n i => ∃ j : Nat, j ≤ k ∧ i = .int .i64 j ∧ n = .int .i64 ((z ^ j : Nat) : Int)) (fun _ i => k - (intOf i).toNat)
  case atStart => exact ⟨0, Nat.zero_le _, rfl, by simp⟩
  case round =>
    obtain ⟨j, hj, rfl, rfl⟩ := hrel
    by_cases hjk : j < k
    · have hp := pow_le64 hz (show j ≤ 3 by omega)
      have HS := Lib.hid (Nat.pow_succ z j)
      generalize z ^ j = p at *
      obtain ⟨m1, m2⟩ := wrap_mul hp hz
      go_wp2
      go_round
      case rel => exact ⟨j + 1, by omega, by go_num, by rw [HS.out]; first | rfl | (simp only [Int.natCast_mul]; done) | simp [Int.natCast_mul]⟩
      case measure => simp [intOf]; omega
    · obtain rfl : k = j := by omega
      go_wp2
      go_ret
      exact ⟨rfl, rfl⟩
set_option maxHeartbeats 20000000 in
set_option maxRecDepth 100000 in
theorem specIsAlgebra : algC 62 := by
  intro g a S vs us w hokg hoka hvg hva
  obtain ⟨s, ops⟩ := g
  have hvg0 := hvg
  obtain ⟨g0, g1, g2, rfl, f0, f1, f2⟩ := repVals_Signature hvg
  obtain ⟨Ag0, cg0, rfl, _, _⟩ := f0.shape
  obtain ⟨Ag1, cg1, rfl, _, _⟩ := f1.shape
  obtain ⟨Ag2, cg2, rfl, hcg2, hmg2⟩ := f2.shape
  obtain ⟨z, tabs⟩ := a
  simp only [encAlg] at hva
  obtain ⟨v1, rfl, e1⟩ := repVals_Algebra hva
  obtain ⟨At, capt, rfl, hct, hmt⟩ := e1.shape
  have HOKG := Lib.hid hokg
  have HOKA := Lib.hid hoka
  have HVG := Lib.hid hvg0
  have F2 := Lib.hid f2
  have E1 := Lib.hid e1
  have hz64 : I64 z := hoka.1
  clear hvg hvg0 hva f0 f1 f2 e1 hokg hoka
  simp only at HVG F2 hcg2 hmg2
  simp only
  generalize s.names.length = n at *
  generalize s.subs.length = ls at *
  generalize hM : ops.length = m at *
  have HM := Lib.hid hM
  generalize hMT : tabs.length = mt at *
  have HMT := Lib.hid hMT
  clear hM hMT
  unfold maxLen at hmg2 hmt
  unfold I64 at hz64
  have HIS := Lib.hid (fun W h => specIsSignature ⟨s, ops⟩ S [.slice Ag0 n cg0, .slice Ag1 ls cg1, .slice Ag2 m cg2] W HOKG.out h)
  have HIN := Lib.hid (fun w => specIn z 1 4 w)
  go_enter Tryz.func62, Tryz.ntmps62
  go_wp2_with fail
  generalize hW : (w.alloc _).alloc _ = W0
  have hb0 : Below w.heap.size w W0 := by rw [← hW]; exact (by repeat' (first | exact Below.refl _ _ | refine below_drewN ?_ _ | refine Below.alloc ?_ (by first | exact Nat.le_refl _ | (simp; done) | (simp; omega)) _))
  have p0 : W0.cell? ⟨w.heap.size, 0, none⟩ = some (.slice Ag0 n cg0) := (by rw [← hW]; repeat' (first | (simp; done) | exact keepNew (by simp) rfl | refine keepA _ ?_))
  have p1 : W0.cell? ⟨w.heap.size, 1, none⟩ = some (.slice Ag1 ls cg1) := (by rw [← hW]; repeat' (first | (simp; done) | exact keepNew (by simp) rfl | refine keepA _ ?_))
  have p2 : W0.cell? ⟨w.heap.size, 2, none⟩ = some (.slice Ag2 m cg2) := (by rw [← hW]; repeat' (first | (simp; done) | exact keepNew (by simp) rfl | refine keepA _ ?_))
  have p3 : W0.cell? ⟨w.heap.size + 1, 0, none⟩ = some (.int .i64 z) := (by rw [← hW]; repeat' (first | (simp; done) | exact keepNew (by simp) rfl | refine keepA _ ?_))
  have p4 : W0.cell? ⟨w.heap.size + 1, 1, none⟩ = some (.slice At mt capt) := (by rw [← hW]; repeat' (first | (simp; done) | exact keepNew (by simp) rfl | refine keepA _ ?_))
  clear hW
  generalize w.heap.size + 1 = g3 at *
  by_cases hs : SgnOk ⟨s, ops⟩
  rotate_left
  · have HF : Hid (isAlg ⟨s, ops⟩ ⟨z, tabs⟩ = false) := isAlg_false fun h => hs h.sgn
    rw [isSgn_false hs] at HIS
    clear hs
    refine (HIS.out _ (HVG.out.below hb0)).mono ?_
    rintro e w2 ⟨rfl, hb2⟩
    go_wp2
    go_ret
    exact ⟨ret_bool HF.out.symm, hb0.trans (hb2.mono hb0.size)⟩
  rw [isSgn_true hs] at HIS
  have HSO := Lib.hid hs
  clear hs
  refine (HIS.out _ (HVG.out.below hb0)).mono ?_
  rintro e W ⟨rfl, hb2⟩
  have hbW : Below w.heap.size w W := hb0.trans (hb2.mono hb0.size)
  have r0 := keepB hb2 p0
  have r1 := keepB hb2 p1
  have r2 := keepB hb2 p2
  have r3 := keepB hb2 p3
  have r4 := keepB hb2 p4
  have F2W := Lib.hid (F2.out.below hbW)
  have E1W := Lib.hid (E1.out.below hbW)
  clear p0 p1 p2 p3 p4 F2 E1 HVG HIS hb0 hb2
  by_cases hz : 1 ≤ z ∧ z ≤ 4
  rotate_left
  · have HF : Hid (isAlg ⟨s, ops⟩ ⟨z, tabs⟩ = false) := isAlg_false fun h => hz ⟨h.lo, h.hi⟩
    rw [decide_eq_false hz] at HIN
    clear hz
    go_wp2_with (go_at_call 64; refine (HIN.out _).mono ?_; rintro e w4 ⟨rfl, rfl⟩)
    go_ret
    exact ⟨ret_bool HF.out.symm, hbW⟩
  rw [decide_eq_true hz] at HIN
  by_cases hmm : mt = m
  rotate_left
  · have HF : Hid (isAlg ⟨s, ops⟩ ⟨z, tabs⟩ = false) := isAlg_false fun h => hmm (by have := h.len; have := HM.out; have := HMT.out; simp only at *; omega)
    have n1 : (mt == m) = false := by simp [hmm]
    have n2 : ((mt : Int) == (m : Int)) = false := by simp; omega
    have n3 : ((mt : Int) != (m : Int)) = true := by simp; omega
    go_wp2_with (go_at_call 64; refine (HIN.out _).mono ?_; rintro e w4 ⟨rfl, rfl⟩)
    go_ret
    exact ⟨ret_bool HF.out.symm, hbW⟩
  obtain rfl : m = mt := hmm.symm
  have n1 : (m == m) = true := by simp
  obtain ⟨zn, rfl⟩ := Int.eq_ofNat_of_zero_le (show 0 ≤ z by omega)
  go_wp2_with (go_at_call 64; refine (HIN.out _).mono ?_; rintro e w4 ⟨rfl, rfl⟩)
  clear HIN n1
  go_loopw [5] (fun i wr => ∃ k : Nat, k ≤ m ∧ i = .int .i64 k ∧ (∀ (j : Nat) (o : Opr) (d : Dcl) (t : List Int), j < k → ops[j]? = some o → o.decls[0]? = some d → tabs[j]? = some t → TabOk zn d.args.length t) ∧ Below W.heap.size W wr) (fun i _ => m - (intOf i).toNat)
  case atStart => exact ⟨0, Nat.zero_le _, rfl, fun j o d t h => by omega, Below.refl _ _⟩
  case round =>
    obtain ⟨k, hk, rfl, hall, hb⟩ := hrel
    have HALL := Lib.hid hall
    clear hall
    have q2 := keepB hb r2
    have q3 := keepB hb r3
    have q4 := keepB hb r4
    by_cases hkn : k < m
    · obtain ⟨o, ho⟩ : ∃ o, ops[k]? = some o := ⟨_, List.getElem?_eq_getElem (by have := HM.out; omega)⟩
      obtain ⟨t, ht⟩ : ∃ t, tabs[k]? = some t := ⟨_, List.getElem?_eq_getElem (by have := HMT.out; omega)⟩
      obtain ⟨d, hd, hdd⟩ := (HSO.out.decls o (List.mem_of_getElem? ho)).first
      have har := (HSO.out.decls o (List.mem_of_getElem? ho)).ar d hd
      have HOO := Lib.hid (HOKG.out.2 o (List.mem_of_getElem? ho))
      have HTO := Lib.hid (HOKA.out.2 t (List.mem_of_getElem? ht))
      obtain ⟨b, off, vd, rfl, hbz, c0, c1, c2, c3, c4, rd⟩ := Rep.opAt HOKG.out.2 (F2W.out.below hb) ho
      obtain ⟨bt, ot, Ax, cx, rfl, hbt, x0, hx1, hx2, rt⟩ := Rep.intsAt HOKA.out.2 (E1W.out.below hb) ht
      have HO := Lib.hid ho
      have HT := Lib.hid ht
      have HD := Lib.hid hd
      obtain ⟨name, decls, ac, cm, un⟩ := o
      simp only at c0 c2 c3 c4 rd hd
      have hrv : RepVals wr S (encOpr ⟨name, decls, ac, cm, un⟩) [.string name, vd, .bool ac, .bool cm, .int .i64 un] := by simp only [encOpr, RepVals, Rep.lit_iff, and_true, true_and]; exact rd
      obtain ⟨Ad, capd, rfl, _, _⟩ := rd.shape
      have HRV := Lib.hid hrv
      have RT := Lib.hid rt
      clear ho ht hd hdd rd hrv rt
      generalize decls.length = ld at *
      have HCA : Hid (∀ dd os, Calls Tryz.prog 115 #[.agg #[.string name, .slice Ad ld capd, .bool ac, .bool cm, .int .i64 un]] (grow (redrawn wr dd) os) fun e w'' => e = .returned (.int .i64 d.args.length) ∧ ∃ p : Regrown, w'' = grow (redrawn wr p.d) p.os) := fun dd os =>
        Calls.regrown_of (specArity ⟨name, decls, ac, cm, un⟩ d S _ _ HOO.out (HRV.out.below (below_regrown wr dd os)) HD.out)
      have HCP : Hid (∀ dd os, Calls Tryz.prog 75 #[.int .i64 zn, .int .i64 d.args.length] (grow (redrawn wr dd) os) fun e w'' => e = .returned (.int .i64 ((zn ^ d.args.length : Nat) : Int)) ∧ ∃ p : Regrown, w'' = grow (redrawn wr p.d) p.os) := fun dd os =>
        Calls.regrown_of ((specPower zn d.args.length (by omega) har _).mono fun e w' h => ⟨h.1, by rw [← h.2]; exact Below.refl _ _⟩)
      have k2 := cell_regrown q2
      have k3 := cell_regrown q3
      have k4 := cell_regrown q4
      have y0 := cell_regrown c0
      have y1 := cell_regrown c1
      have y2 := cell_regrown c2
      have y3 := cell_regrown c3
      have y4 := cell_regrown c4
      have y5 := cell_regrown x0
      have hpw := pow_le64 (show zn ≤ 4 by omega) har
      have HLT := Lib.hid (rfl : t.length = t.length)
      generalize hLT : t.length = lt at *
      have HLT2 := Lib.hid hLT
      clear hLT HLT har
      have HDD := Lib.hid (rfl : d.args.length = d.args.length)
      generalize hDL : d.args.length = dl at *
      have HDL := Lib.hid hDL
      clear hDL HDD
      generalize hPW : zn ^ dl = pw at *
      have HPW := Lib.hid hPW
      clear hPW
      unfold maxLen at hx2
      by_cases hlen : lt = pw
      rotate_left
      · have HF : Hid (isAlg ⟨s, ops⟩ ⟨zn, tabs⟩ = false) := isAlg_false fun h => hlen (by have := (h.tab k _ d t HO.out HD.out HT.out).len; rw [HLT2.out, HDL.out] at this; simpa [HPW.out] using this)
        have n1 : (lt == pw) = false := by simp [hlen]
        have n2 : ((lt : Int) == (pw : Int)) = false := by simp; omega
        have n3 : ((lt : Int) != (pw : Int)) = true := by simp; omega
        go_wp2_with fail
        (refine wp_region_quiet_below (by kernel_rfl) (by kernel_rfl) ?_
         repeat (first | go_big_quiet_step (first | (go_at_call 115; exact HCA.out _ _) | (go_at_call 75; exact HCP.out _ _)) | quiet_step (first | (go_at_call 115; exact HCA.out _ _) | (go_at_call 75; exact HCP.out _ _)))
         refine wpQuiet_nil ?_
         intro _ hw'
         obtain ⟨⟨dq, osq⟩, hw''⟩ := hw'
         subst hw'')
        go_wp2
        go_ret
        exact ⟨ret_bool HF.out.symm, hbW.trans ((hb.trans ((below_regrown wr dq osq).mono hb.size)).mono hbW.size)⟩
      obtain rfl : lt = pw := hlen
      go_wp2_with fail
      (refine wp_region_quiet_below (by kernel_rfl) (by kernel_rfl) ?_
       repeat (first | go_big_quiet_step (first | (go_at_call 115; exact HCA.out _ _) | (go_at_call 75; exact HCP.out _ _)) | quiet_step (first | (go_at_call 115; exact HCA.out _ _) | (go_at_call 75; exact HCP.out _ _)))
       refine wpQuiet_nil ?_
       intro _ hw'
       obtain ⟨⟨dq, osq⟩, hw''⟩ := hw'
       subst hw'')
      have hb5 : Below W.heap.size W (grow (redrawn wr dq) osq) := hb.trans ((below_regrown wr dq osq).mono hb.size)
      have RT5 := Lib.hid (RT.out.below (below_regrown wr dq osq))
      have y6 := y5 dq osq
      clear k2 k3 k4 y0 y1 y2 y3 y4 y5 q2 q3 q4 c0 c1 c2 c3 c4 HCA HCP HRV hb hbz x0 hbt RT
      generalize grow (redrawn wr dq) osq = W5 at *
      go_wp2
      obtain ⟨wo, rfl⟩ : ∃ x : World, x = wr := ⟨_, rfl⟩
      go_loopw [6] (fun i wr => ∃ j : Nat, j ≤ lt ∧ i = .int .i64 j ∧ (∀ (i : Nat) (x : Int), i < j → t[i]? = some x → 0 ≤ x ∧ x < (zn : Int)) ∧ Below W5.heap.size W5 wr) (fun i _ => lt - (intOf i).toNat)
      case atStart => exact ⟨0, Nat.zero_le _, rfl, fun i x h => by omega, Below.refl _ _⟩
      case round =>
        obtain ⟨j, hj, rfl, hno, hbr⟩ := hrel
        have HNO := Lib.hid hno
        clear hno
        have hb6 : Below W.heap.size W wr := hb5.trans (hbr.mono hb5.size)
        have q3 := keepB hb6 r3
        have q4 := keepB hb6 r4
        have y7 := keepB hbr y6
        by_cases hjk : j < lt
        · obtain ⟨x, hx⟩ : ∃ x, t[j]? = some x := ⟨_, List.getElem?_eq_getElem (by have := HLT2.out; omega)⟩
          obtain ⟨bx, ox, rfl, hbx, cx0⟩ := Rep.int HTO.out (RT5.out.below hbr) hx
          have HX := Lib.hid hx
          clear hx
          have HCI := Lib.hid (fun w => specInR zn x w)
          by_cases hxr : 0 ≤ x ∧ x < (zn : Int)
          · rw [inR_true hxr] at HCI
            go_wp2_with fail
            have hwr : IntKind.i64.wrap ((zn : Int) - 1) = (zn : Int) - 1 := IntWalk.i64_in _ (by omega)
            go_quiet (first | (go_at_call 64; exact quietC (fun n => HCI.out _) _))
            clear hwr
            go_wp2
            go_roundw
            case rel =>
              refine ⟨j + 1, by omega, by go_num, fun i y hi hy => ?_, below_drewN hbr _⟩
              by_cases hij : i = j
              · subst hij
                rw [HX.out] at hy
                injection hy with hy
                rw [← hy]
                exact hxr
              · exact HNO.out i y (by omega) hy
            case measure => simp [intOf]; omega
          · have HF : Hid (isAlg ⟨s, ops⟩ ⟨zn, tabs⟩ = false) := isAlg_false fun h => hxr ((h.tab k _ d t HO.out HD.out HT.out).all x (List.mem_of_getElem? HX.out))
            rw [inR_false hxr] at HCI
            clear hxr
            go_wp2_with fail
            have hwr : IntKind.i64.wrap ((zn : Int) - 1) = (zn : Int) - 1 := IntWalk.i64_in _ (by omega)
            go_quiet (first | (go_at_call 64; exact quietC (fun n => HCI.out _) _))
            go_wp2
            go_ret
            exact ⟨ret_bool HF.out.symm, hbW.trans (below_drewN (hb6.mono hbW.size) _)⟩
        · obtain rfl : lt = j := by omega
          go_wp2
          go_roundw
          case rel =>
            refine ⟨k + 1, by omega, by go_num, fun j o' d' t' hj ho hd ht => ?_, hb6⟩
            by_cases hjk' : j = k
            · subst hjk'
              rw [HO.out] at ho
              injection ho with ho
              subst ho
              rw [HD.out] at hd
              injection hd with hd
              subst hd
              rw [HT.out] at ht
              injection ht with ht
              subst ht
              refine ⟨by rw [HLT2.out, HDL.out]; simp [HPW.out], fun x hx => ?_⟩
              obtain ⟨i, hi⟩ := List.mem_iff_getElem?.1 hx
              exact HNO.out i x (by have hil := (List.getElem?_eq_some_iff.1 hi).1; rw [HLT2.out] at hil; exact hil) hi
            · exact HALL.out j o' d' t' (by omega) ho hd ht
          case measure => simp [intOf]; omega
    · obtain rfl : m = k := by omega
      have HF : Hid (isAlg ⟨s, ops⟩ ⟨zn, tabs⟩ = true) := isAlg_true ⟨HSO.out, hz.1, hz.2, by have := HM.out; have := HMT.out; simp only; omega, fun i o d t ho hd ht => HALL.out i o d t (by have hil : i < ops.length := (List.getElem?_eq_some_iff.1 ho).1; have := HM.out; omega) ho hd ht⟩
      go_wp2
      go_ret
      exact ⟨ret_bool HF.out.symm, hbW.trans (hb.mono hbW.size)⟩
end Go.Proofs.YtpbikjkjfojjiaaGreat
namespace Go.Proofs.YtpbikjkjfojjiaaGreat
open Go.RowKit
def AllIn (z : Int) (xs : List Int) : Prop := ∀ x ∈ xs, In0 z x
/-- The digits of k, the lowest first. -/
def digL (z : Int) : Nat → Int → List Int
  | 0, _ => []
  | n + 1, k => (k % z) :: digL z n (k / z)
def numL (z : Int) : List Int → Int
  | [] => 0
  | x :: xs => x + z * numL z xs
theorem digL_len (z : Int) : ∀ (n : Nat) (k : Int), (digL z n k).length = n
  | 0, _ => rfl
  | n + 1, k => by simp [digL, digL_len z n]
theorem digL_in {z : Int} (hz : 1 ≤ z) : ∀ (n : Nat) (k : Int), AllIn z (digL z n k)
  | 0, _ => by intro x hx; simp [digL] at hx
  | n + 1, k => by
    intro x hx
    simp only [digL, List.mem_cons] at hx
    rcases hx with rfl | hx
    · exact ⟨Int.emod_nonneg _ (by omega), Int.emod_lt_of_pos _ (by omega)⟩
    · exact digL_in hz n _ x hx
theorem numL_in {z : Int} (hz : 1 ≤ z) : ∀ {xs : List Int}, AllIn z xs → 0 ≤ numL z xs ∧ numL z xs < z ^ xs.length
  | [], _ => by simp [numL]
  | x :: xs, h => by
    obtain ⟨h0, h1⟩ := numL_in hz (xs := xs) fun y hy => h y (by simp [hy])
    obtain ⟨x0, x1⟩ := h x (by simp)
    have m0 : 0 ≤ z * numL z xs := Int.mul_nonneg (by omega) h0
    have m1 : z * (numL z xs + 1) ≤ z * z ^ xs.length := Int.mul_le_mul_of_nonneg_left (by omega) (by omega)
    rw [Int.mul_add] at m1
    rw [List.length_cons, Int.pow_succ, Int.mul_comm (z ^ xs.length) z, numL]
    omega
theorem digL_num {z : Int} (hz : 1 ≤ z) : ∀ {xs : List Int}, AllIn z xs → digL z xs.length (numL z xs) = xs
  | [], _ => rfl
  | x :: xs, h => by
    obtain ⟨x0, x1⟩ := h x (by simp)
    have ih := digL_num hz (xs := xs) fun y hy => h y (by simp [hy])
    rw [List.length_cons, digL, numL, Int.add_mul_emod_self_left, Int.emod_eq_of_lt x0 x1, Int.add_mul_ediv_left _ _ (by omega), Int.ediv_eq_zero_of_lt x0 x1, Int.zero_add, ih]
/-- The number of an assignment, the last digit the lowest. -/
def numB (z : Int) (xs : List Int) : Int := numL z xs.reverse
theorem numB_snoc (z : Int) (xs : List Int) (x : Int) : numB z (xs ++ [x]) = x + z * numB z xs := by simp [numB, numL]
theorem numB_inj {z : Int} (hz : 1 ≤ z) {xs ys : List Int} (hx : AllIn z xs) (hy : AllIn z ys) (hl : xs.length = ys.length) (h : numB z xs = numB z ys) : xs = ys := by
  have h1 := digL_num hz (xs := xs.reverse) fun x hx' => hx x (by simpa using hx')
  have h2 := digL_num hz (xs := ys.reverse) fun x hx' => hy x (by simpa using hx')
  rw [List.length_reverse] at h1 h2
  unfold numB at h
  rw [h, hl, h2] at h1
  simpa using congrArg List.reverse h1.symm
theorem numB_zeros (z : Int) : ∀ (k : Nat) (p : List Int), numB z (p ++ List.replicate k 0) = z ^ k * numB z p
  | 0, p => by simp
  | k + 1, p => by
    have e : p ++ List.replicate (k + 1) 0 = (p ++ List.replicate k 0) ++ [0] := by rw [List.replicate_succ', List.append_assoc]
    rw [e, numB_snoc, numB_zeros z k p, Int.zero_add, Int.pow_succ, ← Int.mul_assoc, Int.mul_comm z]
end Go.Proofs.YtpbikjkjfojjiaaGreat
namespace Go.Proofs.YtpbikjkjfojjiaaGreat
open Go.RowKit
def litC : C → Bool
  | .lit _ => true
  | _ => false
def litD : D → Bool
  | .one c => litC c
  | .agg cs => cs.all litC
  | _ => false
theorem RepVals_any {w : World} {S S' : Nat → Prop} : ∀ {cs : List C} {vs : List Value}, cs.all litC = true → RepVals w S cs vs → RepVals w S' cs vs
  | [], [], _, _ => trivial
  | .lit x :: cs, v :: vs, hl, h => by
    simp only [List.all_cons, Bool.and_eq_true] at hl
    exact ⟨h.1, RepVals_any hl.2 h.2⟩
  | .sl _ :: _, _ :: _, hl, _ => by simp [litC] at hl
  | .ptr _ :: _, _ :: _, hl, _ => by simp [litC] at hl
  | .fn _ _ :: _, _ :: _, hl, _ => by simp [litC] at hl
  | [], _ :: _, _, h => h.elim
  | _ :: _, [], _, h => h.elim
theorem DRel_any {w : World} {S S' : Nat → Prop} {x : D} {v : Value} (hl : litD x = true) (h : DRel w S x v) : DRel w S' x v := by
  cases x with
  | one c => cases c with
    | lit y => exact h
    | _ => simp [litD, litC] at hl
  | agg cs => obtain ⟨vs, h1, h2⟩ := h; exact ⟨vs, h1, RepVals_any hl h2⟩
  | clip _ => simp [litD] at hl
theorem DsRel_any {w : World} {S S' : Nat → Prop} : ∀ {r : List D} {vs : List Value}, r.all litD = true → DsRel w S r vs → DsRel w S' r vs
  | [], [], _, _ => trivial
  | x :: r, v :: vs, hl, h => by
    simp only [List.all_cons, Bool.and_eq_true] at hl
    exact ⟨DRel_any hl.1 h.1, DsRel_any hl.2 h.2⟩
  | [], _ :: _, _, h => h.elim
  | _ :: _, [], _, h => h.elim
theorem ARel_any {w : World} {S S' : Nat → Prop} {L : Lay} : ∀ {r : List D} {v : Value}, r.all litD = true → ARel w S L (retA r) v → ARel w S' L (retA r) v
  | [], _, _, h => by obtain ⟨vs, h1, h2⟩ := h; exact ⟨vs, h1, DsRel_any rfl h2⟩
  | [x], v, hl, h => by
    simp only [List.all_cons, List.all_nil, Bool.and_true] at hl
    exact DRel_any (x := x) (v := v) hl h
  | x :: y :: z, _, hl, h => by obtain ⟨vs, h1, h2⟩ := h; exact ⟨vs, h1, DsRel_any hl h2⟩
end Go.Proofs.YtpbikjkjfojjiaaGreat
namespace Go.Proofs.YtpbikjkjfojjiaaGreat
open Go.RowKit
/-- Arguments of which some are the slice that is lent. -/
def ReadsB (a : Option Addr) (cap : Nat) (rows : List (List C)) : List D → List D → Prop
  | [], [] => True
  | l :: ls, d :: ds => (l = d ∨ (l = .one (.lit (.slice a rows.length cap)) ∧ d = .one (.sl rows))) ∧ ReadsB a cap rows ls ds
  | _, _ => False
theorem ReadsB.rel {a : Option Addr} {cap ety sz : Nat} {rows : List (List C)} : ∀ {lits data : List D}, ReadsB a cap rows lits data → ∀ (w : World) (S : Nat → Prop) (vs : List Value), BufRel w S ety sz rows (.slice a rows.length cap) → DsRel w S lits vs → DsRel w (fun b => S b ∨ vblk (.slice a rows.length cap) = some b) data vs
  | [], [], _, w, S, [], _, _ => trivial
  | [], [], _, w, S, _ :: _, _, h => h.elim
  | l :: ls, d :: ds, hr, w, S, [], _, h => h.elim
  | l :: ls, d :: ds, ⟨h1, h2⟩, w, S, v :: vs, hp, ⟨hv, hvs⟩ => by
    refine ⟨?_, ReadsB.rel h2 w S vs hp hvs⟩
    rcases h1 with rfl | ⟨rfl, rfl⟩
    · exact DRel.keep (Nat.le_refl _) (fun _ _ _ => rfl) (fun b hb => .inl hb) hv
    · have hv : v = .slice a rows.length cap := hv
      subst hv
      exact hp.rep
  | [], _ :: _, h, _, _, _, _, _ => h.elim
  | _ :: _, [], h, _, _, _, _, _ => h.elim
theorem con_rdB {e : Env} {f : FuncId} {data lits r : List D} {a : Option Addr} {cap ety sz : Nat} {rows : List (List C)} (h : Con e f data r) (hr : ReadsB a cap rows lits data) (hl : r.all litD = true) : ConP e f lits [.buf (some (a, cap)) ety sz rows] (fun r' q => r' = r ∧ q = [.buf (some (a, cap)) ety sz rows]) := by
  refine ⟨h.1, fun w S vs hS hE hG hpm ha hv => ?_⟩
  obtain ⟨hb, hbE⟩ := hpm _ List.mem_cons_self
  have hb : BufRel w S ety sz rows (.slice a rows.length cap) := hb
  have hblk : ∀ g, pblks [.buf (some (a, cap)) ety sz rows] g ↔ vblk (.slice a rows.length cap) = some g := fun g => ⟨fun ⟨x, hx, hg⟩ => by simp at hx; subst hx; exact hg, fun h => ⟨_, List.mem_cons_self, h⟩⟩
  have hlt : ∀ g, vblk (.slice a rows.length cap) = some g → g < w.heap.size ∧ ¬ S g := fun g hg => by
    obtain ⟨_, _, h3⟩ := hb
    rcases h3 with ⟨hn, b, hv⟩ | ⟨g', cap', cur, hv, hc, hg', hs, _⟩
    · injection hv with e1 e2 e3
      rw [e3] at hg
      cases a <;> simp [vblk] at hg
    · rw [hv] at hg
      simp only [vblk] at hg
      split at hg
      · cases hg
      · injection hg with hg
        subst hg
        exact ⟨hg', hs⟩
  refine (h.2 w (fun b => S b ∨ vblk (.slice a rows.length cap) = some b) vs (fun b hb => hb.elim (hS b) (fun q => ⟨(hlt b q).1, hbE b q⟩)) hE hG (hr.rel w S vs hb hv)).mono ?_
  rintro en w' ⟨v, h1, h3, h4, h7⟩
  refine ⟨v, r, _, h1, ⟨rfl, rfl⟩, ⟨h3.os, h3.tape, h3.output, h3.drawn, h3.size, fun k hk hn => h3.block k hk fun q => hn (.inl q)⟩, h4, fun x hx => ?_, ha, ARel_any hl h7⟩
  simp only [List.mem_cons, List.not_mem_nil, or_false] at hx
  subst hx
  refine ⟨?_, fun g hg => .inl ((hblk g).2 hg)⟩
  show BufRel w' _ ety sz rows (.slice a rows.length cap)
  refine hb.keep h3.size (fun b o hb' => ?_) (fun b hb' => ⟨.inl hb', fun q => (hlt b ((hblk b).1 q)).2 hb'⟩) (fun g hg => ⟨h3.block g (hlt g hg).1 (hbE g hg), fun q => q.2 ((hblk g).2 hg)⟩)
  exact cell_of_heap (h3.block b (hS b hb').1 (hS b hb').2) o
end Go.Proofs.YtpbikjkjfojjiaaGreat
namespace Go.Proofs.YtpbikjkjfojjiaaGreat
open Go.RowKit
/-- The next assignment, and whether there is one; the lowest digit first. -/
def nxR (z : Int) : List Int → List Int × Bool
  | [] => ([], false)
  | x :: r => if x + 1 < z then ((x + 1) :: r, true) else (0 :: (nxR z r).1, (nxR z r).2)
def nxt (z : Int) (xs : List Int) : List Int := (nxR z xs.reverse).1.reverse
def nxB (z : Int) (xs : List Int) : Bool := (nxR z xs.reverse).2
theorem nxR_num {z : Int} (hz : 1 ≤ z) : ∀ {r : List Int}, AllIn z r → (nxR z r).1.length = r.length ∧ AllIn z (nxR z r).1 ∧ ((nxR z r).2 = true → numL z (nxR z r).1 = numL z r + 1) ∧ ((nxR z r).2 = false → numL z r + 1 = z ^ r.length)
  | [], _ => by simp [nxR, numL, AllIn]
  | x :: r, h => by
    obtain ⟨x0, x1⟩ := h x (by simp)
    have hr : AllIn z r := fun y hy => h y (by simp [hy])
    obtain ⟨h1, h2, h3, h4⟩ := nxR_num hz hr
    simp only [nxR]
    split
    · rename_i hlt
      refine ⟨by simp, fun y hy => ?_, fun _ => by simp only [numL]; omega, fun h => by cases h⟩
      rcases List.mem_cons.1 hy with rfl | hy
      · exact ⟨by omega, hlt⟩
      · exact hr y hy
    · rename_i hge
      have ex : x = z - 1 := by omega
      refine ⟨by simp [h1], fun y hy => ?_, fun hb => ?_, fun hb => ?_⟩
      · rcases List.mem_cons.1 hy with rfl | hy
        · exact ⟨Int.le_refl _, by omega⟩
        · exact h2 y hy
      · have := h3 hb
        simp only [numL] at this ⊢
        rw [this, Int.mul_add, ex]
        omega
      · have := h4 hb
        simp only [numL, List.length_cons, Int.pow_succ]
        rw [← this, Int.add_mul, ex, Int.mul_comm (numL z r) z]
        omega
theorem nxt_len {z : Int} (hz : 1 ≤ z) {xs : List Int} (h : AllIn z xs) : (nxt z xs).length = xs.length := by
  have := (nxR_num hz (r := xs.reverse) fun y hy => h y (by simpa using hy)).1
  simpa [nxt] using this
theorem nxt_in {z : Int} (hz : 1 ≤ z) {xs : List Int} (h : AllIn z xs) : AllIn z (nxt z xs) := by
  have := (nxR_num hz (r := xs.reverse) fun y hy => h y (by simpa using hy)).2.1
  exact fun y hy => this y (by simpa [nxt] using hy)
theorem nxt_num {z : Int} (hz : 1 ≤ z) {xs : List Int} (h : AllIn z xs) (hb : nxB z xs = true) : numB z (nxt z xs) = numB z xs + 1 := by
  have := (nxR_num hz (r := xs.reverse) fun y hy => h y (by simpa using hy)).2.2.1 hb
  simpa [numB, nxt] using this
theorem nxt_last {z : Int} (hz : 1 ≤ z) {xs : List Int} (h : AllIn z xs) (hb : nxB z xs = false) : numB z xs + 1 = z ^ xs.length := by
  have := (nxR_num hz (r := xs.reverse) fun y hy => h y (by simpa using hy)).2.2.2 hb
  simpa [numB] using this
end Go.Proofs.YtpbikjkjfojjiaaGreat
namespace Go.Proofs.YtpbikjkjfojjiaaGreat
open Go.RowKit
theorem nxR_snoc {z : Int} (p : List Int) (x : Int) : nxt z (p ++ [x]) = (if x + 1 < z then p ++ [x + 1] else nxt z p ++ [0]) ∧ nxB z (p ++ [x]) = (if x + 1 < z then true else nxB z p) := by
  unfold nxt nxB
  rw [List.reverse_append, List.reverse_singleton, List.singleton_append, nxR]
  split <;> simp
def oRow (xs : List Int) (m : Nat) : List (List C) := (xs.take m ++ List.replicate (xs.length - m) 0).map encInt
def oMid (xs : List Int) (i : Nat) (y : Int) : List (List C) := (xs.take i ++ y :: List.replicate (xs.length - (i + 1)) 0).map encInt
theorem oRow_n (xs : List Int) : oRow xs xs.length = xs.map encInt := by simp [oRow]
theorem oRow_mid {xs : List Int} {i : Nat} {x : Int} (h : xs[i]? = some x) : oRow xs (i + 1) = oMid xs i x := by
  simp [oRow, oMid, List.take_add_one, h]
theorem oMid_0 {xs : List Int} {i : Nat} (h : i < xs.length) : oMid xs i 0 = oRow xs i := by
  rw [oRow, oMid, show xs.length - i = (xs.length - (i + 1)) + 1 by omega, List.replicate_succ]
theorem oMid_len {xs : List Int} {i : Nat} {y : Int} (h : i < xs.length) : (oMid xs i y).length = xs.length := by
  simp only [oMid, List.length_map, List.length_append, List.length_take, List.length_cons, List.length_replicate]; omega
theorem oMid_get {xs : List Int} {i : Nat} {y : Int} (h : i < xs.length) : (oMid xs i y)[i]? = some [.lit (.int .i64 y)] := by
  have hl : (xs.take i).length = i := by rw [List.length_take]; omega
  rw [oMid, List.getElem?_map, List.getElem?_append_right (by omega), hl, Nat.sub_self]
  rfl
theorem oMid_set {xs : List Int} {i : Nat} {y y' : Int} (h : i < xs.length) : (oMid xs i y).set i [.lit (.int .i64 y')] = oMid xs i y' := by
  have hl : (xs.take i).length = i := by rw [List.length_take]; omega
  have e : ∀ v : Int, oMid xs i v = (xs.take i).map encInt ++ (encInt v :: (List.replicate (xs.length - (i + 1)) (0 : Int)).map encInt) := fun v => by simp [oMid]
  rw [e, e, List.set_append_right _ _ (by simp; omega)]
  simp [hl, encInt, Nat.min_eq_left (Nat.le_of_lt h)]
theorem oMid_rows (xs : List Int) (i : Nat) (y : Int) : rowsB 1 (oMid xs i y) = true := rb_int _
theorem oRow_len {xs : List Int} {m : Nat} (h : m ≤ xs.length) : (oRow xs m).length = xs.length := by
  simp only [oRow, List.length_map, List.length_append, List.length_take, List.length_replicate]; omega
def RNx (a : Option Addr) (cap : Nat) (b : Bool) (ys : List Int) (r : List D) (pm : List Bk) : Prop := r = [.one (.lit (.bool b))] ∧ pm = [.buf (some (a, cap)) 3 1 (ys.map encInt)]
set_option maxHeartbeats 8000000 in
set_option maxRecDepth 100000 in
theorem conP_next {z : Int} {xs : List Int} (h1z : 1 ≤ z) (hz4 : z ≤ 4) (hx : AllIn z xs) (hl : xs.length ≤ 1000) (a : Option Addr) (cap : Nat) : ConP e0 77 [.one (.lit (.slice a xs.length cap)), .one (.lit (.int .i64 z))] [.buf (some (a, cap)) 3 1 (xs.map encInt)] (RNx a cap (nxB z xs) (nxt z xs)) := by
  have hw0 : IntKind.i64.wrap ((xs.length : Int) - 1) = (xs.length : Int) - 1 := IntWalk.i64_in _ (by omega)
  have hrow := rb_int xs
  rw [← oRow_n xs] at hrow ⊢
  have hln := oRow_len (Nat.le_refl xs.length)
  refine gIP (ts := [.slot 4]) [1000] 16778291 Tryz.func77 ?_
  (have F := And.intro @hrow (And.intro @hln @hw0); refine gG ?_; clear F)
  (have F := @e0P; refine gL (ι := Nat) [4, 5, 10, 24] [1000] (fun m => [(5, .d (.one (.lit (.int .i64 ((m : Int) - 1)))))]) (fun m => [(1000, .buf (some (a, cap)) 3 1 (oRow xs m))]) (fun m => m ≤ xs.length ∧ nxt z xs = nxt z (xs.take m) ++ List.replicate (xs.length - m) 0 ∧ nxB z xs = nxB z (xs.take m)) (fun m => m) (xs.length) (⟨Nat.le_refl _, by simp, by simp⟩) (fun m hm => ?_); clear F)
  obtain ⟨hmn, hnx, hnb⟩ := hm
  rcases m with _ | i
  · have hr0 : (oRow xs 0) = (nxt z xs).map encInt := by rw [hnx]; simp [oRow, nxt, nxR]
    have hb0 : nxB z xs = false := by rw [hnb]; simp [nxB, nxR]
    have e0' : (((0 : Nat) : Int) - 1) = -1 := rfl
    rw [e0', hb0]
    have q1 : ((0 : Int) ≤ -1) = False := eq_false (by decide)
    (have F := @q1; refine gG ?_; clear F)
    rw [hr0]
    exact (have F := q1; gTP (R := RNx a cap false (nxt z xs)) [1000] ⟨rfl, rfl⟩)
  · obtain ⟨x, hxi⟩ : ∃ x, xs[i]? = some x := ⟨_, List.getElem?_eq_getElem (by omega)⟩
    have hil : i < xs.length := by omega
    obtain ⟨x0, x1⟩ := hx x (List.mem_of_getElem? hxi)
    have e1 : (((i + 1 : Nat) : Int) - 1) = (i : Int) := by omega
    rw [e1, oRow_mid hxi]
    have q1 : ((0 : Int) ≤ (i : Int)) = True := eq_true (by omega)
    have hlm := fun y => oMid_len (xs := xs) (y := y) hil
    have hgm := fun y => oMid_get (xs := xs) (y := y) hil
    have hsm := fun y y' => oMid_set (xs := xs) (y := y) (y' := y') hil
    have hrm := oMid_rows xs i
    have hw1 : IntKind.i64.wrap (x + 1) = x + 1 := IntWalk.i64_in _ (by omega)
    have hw2 : IntKind.i64.wrap ((i : Int) - 1) = (i : Int) - 1 := IntWalk.i64_in _ (by omega)
    have htk : xs.take (i + 1) = xs.take i ++ [x] := by rw [List.take_add_one, hxi]; rfl
    obtain ⟨s1, s2⟩ := nxR_snoc (z := z) (xs.take i) x
    rw [htk, s1] at hnx
    rw [htk, s2] at hnb
    by_cases hlt : x + 1 < z
    · rw [if_pos hlt] at hnx hnb
      have q2 : (x + 1 < z) = True := eq_true hlt
      have hfin : oMid xs i (x + 1) = (nxt z xs).map encInt := by rw [hnx, oMid, List.append_assoc]; rfl
      rw [hnb]
      (have F := And.intro @q1 (And.intro @q2 (And.intro @hlm (And.intro @hgm (And.intro @hsm (And.intro @hrm (And.intro @hw1 @hil)))))); refine gG ?_; clear F)
      rw [hfin]
      exact (have F := q1; gTP (R := RNx a cap true (nxt z xs)) [1000] ⟨rfl, rfl⟩)
    · rw [if_neg hlt] at hnx hnb
      have q2 : (x + 1 < z) = False := eq_false hlt
      have hrs := oMid_0 hil
      have hq : i ≤ xs.length ∧ nxt z xs = nxt z (xs.take i) ++ List.replicate (xs.length - i) 0 ∧ nxB z xs = nxB z (xs.take i) := ⟨by omega, by rw [hnx, List.append_assoc, show xs.length - i = (xs.length - (i + 1)) + 1 by omega, List.replicate_succ]; rfl, hnb⟩
      (have F := And.intro @q1 (And.intro @q2 (And.intro @hlm (And.intro @hgm (And.intro @hsm (And.intro @hrm (And.intro @hrs (And.intro @hw1 (And.intro @hw2 @hil)))))))); refine gG ?_; exact ⟨i, hq, gw, gw, by omega⟩)
end Go.Proofs.YtpbikjkjfojjiaaGreat
namespace Go.Proofs.YtpbikjkjfojjiaaGreat
open Go.RowKit
theorem con_power {z : Int} {k : Nat} (h0 : 0 ≤ z) (hz : z ≤ 4) (hk : k ≤ 6) : Con e0 75 [.one (.lit (.int .i64 z)), .one (.lit (.int .i64 k))] [.one (.lit (.int .i64 (z ^ k)))] := by
  have hp : ∀ i : Nat, 0 ≤ z ^ i ∧ z ^ i ≤ 4 ^ i := fun i => by
    induction i with
    | zero => simp
    | succ i ih =>
      rw [Int.pow_succ, Int.pow_succ]
      exact ⟨Int.mul_nonneg ih.1 h0, Int.mul_le_mul ih.2 hz h0 (Int.pow_nonneg (by decide))⟩
  have hb : ∀ i : Nat, i ≤ 6 → (4 : Int) ^ i ≤ 4096 := fun i hi => by
    have : i = 0 ∨ i = 1 ∨ i = 2 ∨ i = 3 ∨ i = 4 ∨ i = 5 ∨ i = 6 := by omega
    rcases this with rfl | rfl | rfl | rfl | rfl | rfl | rfl <;> decide
  refine gI 627 Tryz.func75 ?_
  (have F := @e0P; refine gG ?_; clear F)
  (have F := ((Int.pow_zero z)); refine gL (ι := Nat) [5, 6, 9] [] (fun i => [(5, .d (.one (.lit (.int .i64 (z ^ i))))), (6, A.d (.one (.lit (.int .i64 i))))]) (fun i => []) (fun i => i ≤ k) (fun i => k - i) (0) (Nat.zero_le _) (fun i hi => ?_); clear F)
  by_cases hlt : i < k
  · have q1 : (i : Int) < (k : Int) := by omega
    have hw1 := wrap1 (k := i) (by omega)
    have h1 := hp (i + 1)
    have h2 := hb (i + 1) (by omega)
    have hw2 : IntKind.i64.wrap (z ^ i * z) = z ^ (i + 1) := by rw [← Int.pow_succ]; exact IntWalk.i64_in _ (by rw [Nat.succ_eq_add_one]; omega)
    (have F := And.intro @q1 (And.intro @hw1 @hw2); refine gG ?_; exact ⟨i + 1, hlt, gw, gw, by omega⟩)
  obtain rfl : i = k := by omega
  have q1 : ¬ ((i : Int) < (i : Int)) := by omega
  (have F := @q1; refine gG ?_; exact gT)
end Go.Proofs.YtpbikjkjfojjiaaGreat
namespace Go.Proofs.YtpbikjkjfojjiaaGreat
open Go.RowKit
section
variable {e : Env} {mask : Nat} {Q : PX → St → Prop} {ds : List (Option Nat)}
theorem wp_any {P : Program} {o : Oper} {a : Act} {w : World} {K : Act → World → Prop} {Q0 Q : Exit → Act → World → Prop} (h0 : ∀ ex a w, ex ≠ .normal → ¬ Q0 ex a w) (hh : o.wp P a w K Q0) : o.wp P a w K Q := by
  have hl : ¬ LetsOut Q0 := fun ⟨a, w, h⟩ => h0 _ a w (by simp) h
  unfold Oper.wp at *
  generalize (execOp a.eval o).run P w = r at *
  cases r with
  | ok n w' =>
    cases n <;> simp only [Oper.upon] at hh ⊢ <;> first
      | exact hh
      | exact Calls.mono hh (fun e w'' he => by cases e <;> first | exact he | exact absurd he (h0 _ _ _ (by simp)) | exact absurd he hl)
      | exact absurd hh hl
      | exact absurd hh (h0 _ _ _ (by simp))
  | halt x w' =>
    cases x <;> simp only [Oper.upon] at hh ⊢ <;> first
      | exact hh
      | exact absurd hh hl
      | exact absurd hh (h0 _ _ _ (by simp))
theorem stepOk_of_runs {o : Oper} {σ : St} {K : St → Prop} (hg : o.guard = none) (h : Runs e ds 0 [o] σ K) : StepOk e o σ (fun σ' => Runs e ds 0 [] σ' K) := by
  intro he U w0 S0 nt a w Q hd hs
  have h : RunsS e ds [o] σ K := by simpa only [Runs] using h
  have h1 := h he U w0 S0 nt a w (ds.map fun d => { o with dst := d }) (fun ex a' w' => ex = .normal ∧ ∃ σ', K σ' ∧ SimE e U w0 S0 nt σ' a' w') (by rw [List.map_map]; exact List.map_id ds) (fun o' ho d hd' => by simp only [List.mem_singleton] at ho; subst ho; exact hd d hd') (fun a w σ' k1 k2 => ⟨rfl, σ', k1, k2⟩) hs
  unfold wpList at h1
  have hw : Region.wanted o (yielded (ds.map fun d => { o with dst := d }).toArray a.tmps) = true := by simp [Region.wanted, hg]
  rw [if_pos hw] at h1
  rcases h1 with h1 | ⟨_, a', w', h1, _⟩
  · refine wp_any (fun ex a w hne h => hne h.1) (Oper.wp_mono (fun a' w' hk => ?_) h1)
    simp only [wpList] at hk
    obtain ⟨_, σ', k1, k2⟩ := hk
    exact ⟨σ', runs_nil k1, k2⟩
  · cases h1
/-- The operation i is the only one that may come next. -/
theorem gO1 {ops : Array Oper} {K : St → Prop} {f : Nat} {listed : Array Bool} {o : Oper} {σ : St} (i : Nat) (hK : Runs e ds 0 [o] σ (RunsT e ds ops K f (listed.setIfInBounds i true))) (hr : Region.ready .any ops listed = [i] := by decide +kernel) (ho : ops[i]? = some o := by simp only [List.getElem?_toArray, List.getElem?_cons_succ, List.getElem?_cons_zero]; exact rfl) (hg : o.guard = none := by exact rfl) : RunsT e ds ops K (f + 1) listed σ := by
  refine ⟨fun h => (by rw [hr] at h; cases h), fun j hj => ?_⟩
  rw [hr] at hj
  have hji : j = i := by simpa using hj
  subst hji
  exact ⟨o, ho, hg, stepOk_of_runs hg hK⟩
/-- One of two may come next. -/
theorem gO2 {ops : Array Oper} {K : St → Prop} {f : Nat} {listed : Array Bool} {o o' : Oper} {σ : St} (i j : Nat) (hK : Runs e ds 0 [o] σ (RunsT e ds ops K f (listed.setIfInBounds i true))) (hK' : Runs e ds 0 [o'] σ (RunsT e ds ops K f (listed.setIfInBounds j true))) (hr : Region.ready .any ops listed = [i, j] := by decide +kernel) (ho : ops[i]? = some o := by simp only [List.getElem?_toArray, List.getElem?_cons_succ, List.getElem?_cons_zero]; exact rfl) (hg : o.guard = none := by exact rfl) (ho' : ops[j]? = some o' := by simp only [List.getElem?_toArray, List.getElem?_cons_succ, List.getElem?_cons_zero]; exact rfl) (hg' : o'.guard = none := by exact rfl) : RunsT e ds ops K (f + 1) listed σ := by
  refine ⟨fun h => (by rw [hr] at h; cases h), fun k hk => ?_⟩
  rw [hr] at hk
  have hk : k = i ∨ k = j := by simpa using hk
  rcases hk with rfl | rfl
  · exact ⟨o, ho, hg, stepOk_of_runs hg hK⟩
  · exact ⟨o', ho', hg', stepOk_of_runs hg' hK'⟩
/-- The operation at hand is done by rewriting. -/
theorem gO3 {K : St → Prop} {o : Oper} {s s1 : List (Nat × A)} {m m1 : List (Nat × Bk)} (hK : K ⟨s1, m1⟩) (h : runOps e.P ds 0 [o] ⟨s, m⟩ = .done ⟨s1, m1⟩ := by simp only [pz, ↓reduceIte, Nat.reduceEqDiff, Nat.reduceAdd, Nat.reduceSub, Nat.reduceMul, Nat.reduceLeDiff, Nat.reduceBEq, Bool.false_eq_true, decide_true, decide_false, Int.reduceLE, Int.reduceToNat, Int.reduceLT, Int.reduceEq, eq_self, Nat.reduceShiftRight, Nat.reduceAnd, Nat.reduceBneDiff, F]; exact rfl) : Runs e ds 0 [o] ⟨s, m⟩ K := runs_done h hK
end
end Go.Proofs.YtpbikjkjfojjiaaGreat
namespace Go.Proofs.YtpbikjkjfojjiaaGreat
open Go.RowKit
section
variable {e : Env} {U : Nat → Prop} {S0 : Nat → Prop} {o : Oper}
theorem gives_callB {m : List (Nat × Bk)} {base : Nat} {ρ : Operand → A} {c : Operand} {args : Array Operand} {ts : Array TypeId} (ho : o.op = .call ⟨.value c, args, ts⟩) {f : FuncId} {caps : List C} {xs data r : List D} (hc : calleeA (ρ c) = some (f, caps)) (hx : dsA (args.toList.map ρ) = some xs)
    {k cap ety sz : Nat} {a : Option Addr} {rows : List (List C)} (hm : gm m k = some (.buf (some (a, cap)) ety sz rows)) (hrd : ReadsB a cap rows (xs ++ caps.map .one) data) (hcon : Con e f data r) (hl : r.all litD = true) : GivesA e U base S0 m o ρ (retA r) := by
  intro w S L ρv hC hr
  obtain ⟨m1, m2⟩ := call_mem ho
  obtain ⟨us, hv, hus⟩ := calleeA_spec hc (hr c m1)
  have hds : DsRel w S xs (args.toList.map ρv) := DsRel_of hx (by simp) (mapx (fun p hp => hr p (m2 p hp)))
  obtain ⟨hbody, hcon⟩ := hcon
  obtain ⟨hva, hb⟩ := hC.own k _ hm
  have hva : L.v k = .slice a rows.length cap := hva (a, cap) rfl
  rw [hva] at hb
  have hlt : ∀ g, vblk (.slice a rows.length cap) = some g → g < w.heap.size ∧ ¬ S g ∧ ¬ e.E g := fun g hg => by
    have hE : ¬ e.E g := hC.notE hm (by simp only [blkOf]; rw [hva]; exact hg)
    obtain ⟨_, _, h3⟩ := hb
    rcases h3 with ⟨hn, b, hv⟩ | ⟨g', cap', cur, hv, hc, hg', hs, _⟩
    · injection hv with e1 e2 e3
      rw [e3] at hg
      cases a <;> simp [vblk] at hg
    · rw [hv] at hg
      simp only [vblk] at hg
      split at hg
      · cases hg
      · injection hg with hg
        subst hg
        exact ⟨hg', hs, hE⟩
  have hcl := hcon w (fun b => S b ∨ vblk (.slice a rows.length cap) = some b) _ (fun b hb => hb.elim (hC.sin b) fun q => ⟨(hlt b q).1, (hlt b q).2.2⟩) (fun b hb => Nat.lt_of_lt_of_le (hC.ein b hb) hC.bsz) hC.g (hrd.rel w S _ hb (hds.append (DsRel.caps hus)))
  unfold gives
  rw [enter_run ho hv hbody]
  exact hcl.mono fun en w' ⟨v, h1, h2, h3, h4⟩ => ⟨v, h1, S, ⟨fun _ h => h, fun _ h => .inl h⟩, hC.later h2 h3 (fun _ h => h) (fun _ h => .inl h), h2, ARel_any hl (ARel_ret h4)⟩
end
section
variable {e : Env} {ds : List (Option Nat)} {K : St → Prop} {n n' : Nat} {os os' : List Oper} {σ : St}
theorem runs_rdB {c : Operand} {args : List Operand} {f : FuncId} {xs data r : List D} {d : Option Nat} {s1 s2 s3 : List (Nat × A)} {m1 m2 : List (Nat × Bk)} {k cap ety sz : Nat} {a : Option Addr} {rows : List (List C)} (h : runOps e.P ds n os σ = .call true c args d n' os' ⟨s1, m1⟩) (h1 : callP true c args ⟨s1, m1⟩ = some (f, xs, ⟨s2, m2⟩)) (hm : gm m2 k = some (.buf (some (a, cap)) ety sz rows))
    (hrd : ReadsB a cap rows xs data) (hc : Con e f data r) (hl : r.all litD = true) (h2 : setA s2 d (retA r) = s3) (hK : Runs e ds n' os' ⟨s3, m2⟩ K) : Runs e ds n os σ K := by
  refine runs_of os n σ ?_
  rw [h]
  intro o ts ho hd
  obtain ⟨caps, ys, hf, hcal, hds, rfl⟩ := callP_spec h1
  unfold frzQ at hf
  split at hf
  · injection hf with hf
    injection hf with e1 e2
    subst e1 e2
    show stepQ e true o _ _
    intro he
    exact ⟨retA r, by rw [hd, h2]; exact hK, fun U base S0 => gives_callB ho hcal hds hm hrd hc hl⟩
  · simp at hf
/-- A call that reads the own slice of the key k, in a place where the order is not fixed. -/
theorem gCB {c : Operand} {args : List Operand} {f : FuncId} {xs data r : List D} {d : Option Nat} {s1 s2 s3 : List (Nat × A)} {m1 m2 : List (Nat × Bk)} {cap ety sz : Nat} {a : Option Addr} {rows : List (List C)} (k : Nat) (hc : Con e f data r) (hK : Runs e ds n' os' ⟨s3, m2⟩ K) (h : runOps e.P ds n os σ = .call true c args d n' os' ⟨s1, m1⟩ := by simp only [pz, ↓reduceIte, Nat.reduceEqDiff, Nat.reduceAdd, Nat.reduceSub, Nat.reduceMul, Nat.reduceLeDiff, Nat.reduceBEq, Bool.false_eq_true, decide_true, decide_false, Int.reduceLE, Int.reduceToNat, Int.reduceLT, Int.reduceEq, eq_self, Nat.reduceShiftRight, Nat.reduceAnd, Nat.reduceBneDiff, F]; exact rfl) (h1 : callP true c args ⟨s1, m1⟩ = some (f, xs, ⟨s2, m2⟩) := by simp only [pz, ↓reduceIte, Nat.reduceEqDiff, Nat.reduceAdd, Nat.reduceSub, Nat.reduceMul, Nat.reduceLeDiff, Nat.reduceBEq, Bool.false_eq_true, decide_true, decide_false, Int.reduceLE, Int.reduceToNat, Int.reduceLT, Int.reduceEq, eq_self, Nat.reduceShiftRight, Nat.reduceAnd, Nat.reduceBneDiff, F]; exact rfl)
    (hm : gm m2 k = some (.buf (some (a, cap)) ety sz rows) := by simp only [pz, ↓reduceIte, Nat.reduceEqDiff, Nat.reduceAdd, Nat.reduceSub, Nat.reduceMul, Nat.reduceLeDiff, Nat.reduceBEq, Bool.false_eq_true, decide_true, decide_false, Int.reduceLE, Int.reduceToNat, Int.reduceLT, Int.reduceEq, eq_self, Nat.reduceShiftRight, Nat.reduceAnd, Nat.reduceBneDiff]; exact rfl) (hrd : ReadsB a cap rows xs data := by simp [ReadsB, F]) (hl : r.all litD = true := by rfl) (h2 : setA s2 d (retA r) = s3 := by simp only [setA, retA]; exact rfl) : Runs e ds n os σ K := runs_rdB h h1 hm hrd hc hl h2 hK
/-- The same where the order is fixed. -/
theorem gCS {c : Operand} {args : List Operand} {f : FuncId} {xs data r : List D} {d : Option Nat} {s1 s2 s3 : List (Nat × A)} {m1 m2 m3 : List (Nat × Bk)} {cap ety sz : Nat} {a : Option Addr} {rows : List (List C)} (k : Nat) (hc : Con e f data r) (hK : Runs e ds n' os' ⟨setA s3 d (retA r), zipM [k] [.buf (some (a, cap)) ety sz rows] ++ m3⟩ K) (h : runOps e.P ds n os σ = .call false c args d n' os' ⟨s1, m1⟩ := by simp only [pz, ↓reduceIte, Nat.reduceEqDiff, Nat.reduceAdd, Nat.reduceSub, Nat.reduceMul, Nat.reduceLeDiff, Nat.reduceBEq, Bool.false_eq_true, decide_true, decide_false, Int.reduceLE, Int.reduceToNat, Int.reduceLT, Int.reduceEq, eq_self, Nat.reduceShiftRight, Nat.reduceAnd, Nat.reduceBneDiff, F]; exact rfl) (h1 : callP false c args ⟨s1, m1⟩ = some (f, xs, ⟨s2, m2⟩) := by simp only [pz, ↓reduceIte, Nat.reduceEqDiff, Nat.reduceAdd, Nat.reduceSub, Nat.reduceMul, Nat.reduceLeDiff, Nat.reduceBEq, Bool.false_eq_true, decide_true, decide_false, Int.reduceLE, Int.reduceToNat, Int.reduceLT, Int.reduceEq, eq_self, Nat.reduceShiftRight, Nat.reduceAnd, Nat.reduceBneDiff, F]; exact rfl)
    (hm : getM m2 [k] = some [.buf (some (a, cap)) ety sz rows] := by simp only [pz, ↓reduceIte, Nat.reduceEqDiff, Nat.reduceAdd, Nat.reduceSub, Nat.reduceMul, Nat.reduceLeDiff, Nat.reduceBEq, Bool.false_eq_true, decide_true, decide_false, Int.reduceLE, Int.reduceToNat, Int.reduceLT, Int.reduceEq, eq_self, Nat.reduceShiftRight, Nat.reduceAnd, Nat.reduceBneDiff]; exact rfl) (hrd : ReadsB a cap rows xs data := by simp [ReadsB, F]) (hl : r.all litD = true := by rfl) (hk : killKs ([k] ++ [k]) s2 = s3 := by simp only [pz, ↓reduceIte, Nat.reduceEqDiff, Nat.reduceAdd, Nat.reduceSub, Nat.reduceMul, Nat.reduceLeDiff, Nat.reduceBEq, Bool.false_eq_true, decide_true, decide_false, Int.reduceLE, Int.reduceToNat, Int.reduceLT, Int.reduceEq, eq_self, Nat.reduceShiftRight, Nat.reduceAnd, Nat.reduceBneDiff]; exact rfl) (hr : remMs ([k] ++ [k]) m2 = m3 := by simp only [pz, ↓reduceIte, Nat.reduceEqDiff, Nat.reduceAdd, Nat.reduceSub, Nat.reduceMul, Nat.reduceLeDiff, Nat.reduceBEq, Bool.false_eq_true, decide_true, decide_false, Int.reduceLE, Int.reduceToNat, Int.reduceLT, Int.reduceEq, eq_self, Nat.reduceShiftRight, Nat.reduceAnd, Nat.reduceBneDiff]; exact rfl) : Runs e ds n os σ K :=
  runs_goP [k] [k] h h1 (con_rdB hc hrd hl) hm rfl (by simp) hk hr fun r' pm' ⟨h2, h3⟩ => by subst h2 h3; exact hK
end
end Go.Proofs.YtpbikjkjfojjiaaGreat
namespace Go.Proofs.YtpbikjkjfojjiaaGreat
open Go.RowKit
theorem con_szSignature {row : List C} (hok : okRow (sigF) row) {left : Int} (h0 : 0 ≤ left) (h1 : left ≤ 1048576) : Con e0 9 [.agg row, .one (.lit (.int .i64 left))] [.one (.lit (.int .i64 (sub left (bulkRow row))))] := by
  refine con_below e0_ok (by kernel_rfl) fun w S vs h => ?_
  match vs, h with
  | [v, u], h =>
    obtain ⟨⟨us, rfl, hu⟩, h2, _⟩ := h
    have h2 : u = .int .i64 left := by simpa [DRel, Rep] using h2
    subst h2
    exact (szSignature_any row S us left w hok hu h0 h1).mono fun e w' ⟨h1, h2⟩ => ⟨_, h1, h2, by simp [retA, ARel, DRel, Rep]⟩
theorem con_toSignature {row : List C} (hok : okRow (sigF) row) (hb : bulkRow row ≤ 1048576) : Con e0 12 [.agg row] [.agg row] := by
  refine con_below e0_ok (by kernel_rfl) fun w S vs h => ?_
  match vs, h with
  | [v], h =>
    obtain ⟨⟨us, rfl, hu⟩, _⟩ := h
    exact (toSignature_any row S us w hok hu hb).mono fun e w' ⟨us', h1, h2, h3⟩ => ⟨_, h1, h3, us', rfl, OwnVals.rep row _ _ us' (fun x hx => .inr hx) h2⟩
theorem con_eqSignature {row : List C} (hok : okRow (sigF) row) : Con e0 15 [.agg row, .agg row] [.one (.lit (.bool true))] := by
  refine con_below e0_ok (by kernel_rfl) fun w S vs h => ?_
  match vs, h with
  | [v, u], h =>
    obtain ⟨⟨us, rfl, hu⟩, ⟨us', rfl, hu'⟩, _⟩ := h
    exact (eqSignature_any row S S us us' w hok hu hu').mono fun e w' ⟨h1, h2⟩ => ⟨_, h1, h2, by simp [retA, ARel, DRel, Rep]⟩
end Go.Proofs.YtpbikjkjfojjiaaGreat
namespace Go.Proofs.YtpbikjkjfojjiaaGreat
open Go.RowKit
theorem con_szAlgebra {row : List C} (hok : okRow (algF) row) {left : Int} (h0 : 0 ≤ left) (h1 : left ≤ 1048576) : Con e0 22 [.agg row, .one (.lit (.int .i64 left))] [.one (.lit (.int .i64 (sub left (bulkRow row))))] := by
  refine con_below e0_ok (by kernel_rfl) fun w S vs h => ?_
  match vs, h with
  | [v, u], h =>
    obtain ⟨⟨us, rfl, hu⟩, h2, _⟩ := h
    have h2 : u = .int .i64 left := by simpa [DRel, Rep] using h2
    subst h2
    exact (szAlgebra_any row S us left w hok hu h0 h1).mono fun e w' ⟨h1, h2⟩ => ⟨_, h1, h2, by simp [retA, ARel, DRel, Rep]⟩
theorem con_toAlgebra {row : List C} (hok : okRow (algF) row) (hb : bulkRow row ≤ 1048576) : Con e0 25 [.agg row] [.agg row] := by
  refine con_below e0_ok (by kernel_rfl) fun w S vs h => ?_
  match vs, h with
  | [v], h =>
    obtain ⟨⟨us, rfl, hu⟩, _⟩ := h
    exact (toAlgebra_any row S us w hok hu hb).mono fun e w' ⟨us', h1, h2, h3⟩ => ⟨_, h1, h3, us', rfl, OwnVals.rep row _ _ us' (fun x hx => .inr hx) h2⟩
theorem con_eqAlgebra {row : List C} (hok : okRow (algF) row) : Con e0 29 [.agg row, .agg row] [.one (.lit (.bool true))] := by
  refine con_below e0_ok (by kernel_rfl) fun w S vs h => ?_
  match vs, h with
  | [v, u], h =>
    obtain ⟨⟨us, rfl, hu⟩, ⟨us', rfl, hu'⟩, _⟩ := h
    exact (eqAlgebra_any row S S us us' w hok hu hu').mono fun e w' ⟨h1, h2⟩ => ⟨_, h1, h2, by simp [retA, ARel, DRel, Rep]⟩
end Go.Proofs.YtpbikjkjfojjiaaGreat
namespace Go.Proofs.YtpbikjkjfojjiaaGreat
open Go.RowKit
theorem con_szTerm {row : List C} (hok : okRow (fieldsOf .term) row) {left : Int} (h0 : 0 ≤ left) (h1 : left ≤ 1048576) : Con e0 23 [.agg row, .one (.lit (.int .i64 left))] [.one (.lit (.int .i64 (sub left (bulkRow row))))] := by
  refine con_below e0_ok (by kernel_rfl) fun w S vs h => ?_
  match vs, h with
  | [v, u], h =>
    obtain ⟨⟨us, rfl, hu⟩, h2, _⟩ := h
    have h2 : u = .int .i64 left := by simpa [DRel, Rep] using h2
    subst h2
    exact (szTerm_any row S us left w hok hu h0 h1).mono fun e w' ⟨h1, h2⟩ => ⟨_, h1, h2, by simp [retA, ARel, DRel, Rep]⟩
theorem con_toTerm {row : List C} (hok : okRow (fieldsOf .term) row) (hb : bulkRow row ≤ 1048576) : Con e0 26 [.agg row] [.agg row] := by
  refine con_below e0_ok (by kernel_rfl) fun w S vs h => ?_
  match vs, h with
  | [v], h =>
    obtain ⟨⟨us, rfl, hu⟩, _⟩ := h
    exact (toTerm_any row S us w hok hu hb).mono fun e w' ⟨us', h1, h2, h3⟩ => ⟨_, h1, h3, us', rfl, OwnVals.rep row _ _ us' (fun x hx => .inr hx) h2⟩
theorem con_eqTerm {row : List C} (hok : okRow (fieldsOf .term) row) : Con e0 30 [.agg row, .agg row] [.one (.lit (.bool true))] := by
  refine con_below e0_ok (by kernel_rfl) fun w S vs h => ?_
  match vs, h with
  | [v, u], h =>
    obtain ⟨⟨us, rfl, hu⟩, ⟨us', rfl, hu'⟩, _⟩ := h
    exact (eqTerm_any row S S us us' w hok hu hu').mono fun e w' ⟨h1, h2⟩ => ⟨_, h1, h2, by simp [retA, ARel, DRel, Rep]⟩
end Go.Proofs.YtpbikjkjfojjiaaGreat
