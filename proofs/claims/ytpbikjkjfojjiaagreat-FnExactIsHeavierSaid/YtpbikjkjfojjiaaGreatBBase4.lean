/-
  Part of a proof: Ti, Tj, Cf, Ow, Sb, Cp, Rg.
-/
import Derived.Test.YtpbikjkjfojjiaaGreatBBase0
import Derived.Test.YtpbikjkjfojjiaaGreatBBase1
import Derived.Test.YtpbikjkjfojjiaaGreatBBase2
import Derived.Test.YtpbikjkjfojjiaaGreatBBase3
set_option linter.unusedSimpArgs false
set_option linter.unusedVariables false
namespace Go.Proofs.YtpbikjkjfojjiaaGreat
open Go.RowKit
mutual
def leftTm : Tm → Int → Int
  | .mk _ _ _ args, l => leftTms args (l - 1)
def leftTms : List Tm → Int → Int
  | [], l => l
  | t :: ts, l => if 0 ≤ l then leftTms ts (leftTm t l) else l
end
theorem leftTms_u : ∀ l, leftTms [] l = l := fun _ => by rw [leftTms]
mutual
theorem leftTm_spec : ∀ (t : Tm) (l : Int), 0 ≤ l → (-1 ≤ leftTm t l ∧ leftTm t l ≤ l ∧ ((sizeTm t : Int) ≤ l → leftTm t l = l - sizeTm t) ∧ (l < sizeTm t → leftTm t l < 0))
  | .mk _ _ _ args, l, hl => by
    have := leftTms_spec args (l - 1) (by omega)
    simp only [leftTm, sizeTm]
    refine ⟨this.1, by omega, fun h => ?_, fun h => ?_⟩
    · have := this.2.2.1 (by omega); omega
    · by_cases h1 : 0 ≤ l - 1
      · exact this.2.2.2 (by omega)
      · have h2 := this.2.1; omega
theorem leftTms_spec : ∀ (ts : List Tm) (l : Int), -1 ≤ l → (-1 ≤ leftTms ts l ∧ leftTms ts l ≤ l ∧ ((sizeTms ts : Int) ≤ l → leftTms ts l = l - sizeTms ts) ∧ (l < sizeTms ts → leftTms ts l < 0))
  | [], l, hl => by simp only [leftTms, sizeTms]; omega
  | t :: ts, l, hl => by
    simp only [leftTms, sizeTms]
    by_cases h0 : 0 ≤ l
    · rw [if_pos h0]
      have h1 := leftTm_spec t l h0
      have h2 := leftTms_spec ts (leftTm t l) h1.1
      refine ⟨h2.1, by omega, fun h => ?_, fun h => ?_⟩
      · have e1 := h1.2.2.1 (by omega)
        have e2 := h2.2.2.1 (by omega)
        omega
      · by_cases h3 : (sizeTm t : Int) ≤ l
        · have e1 := h1.2.2.1 h3
          exact h2.2.2.2 (by omega)
        · have e1 := h1.2.2.2 (by omega)
          omega
    · rw [if_neg h0]
      have := sizeTms_len ts
      refine ⟨hl, Int.le_refl _, fun h => by omega, fun h => by omega⟩
end
theorem leftTms_neg {ts : List Tm} {l : Int} (h : ¬ 0 ≤ l) : leftTms ts l = l := by
  cases ts with
  | nil => rfl
  | cons t ts => simp only [leftTms, if_neg h]
theorem leftTms_app : ∀ (a b : List Tm) (l : Int), leftTms (a ++ b) l = leftTms b (leftTms a l)
  | [], b, l => rfl
  | t :: ts, b, l => by
    simp only [List.cons_append, leftTms]
    by_cases h : 0 ≤ l
    · rw [if_pos h, if_pos h, leftTms_app]
    · rw [if_neg h, if_neg h, leftTms_neg h]
theorem leftTms_snoc {ts : List Tm} {i : Nat} {t : Tm} {l : Int} (h : ts[i]? = some t) (h0 : 0 ≤ leftTms (ts.take i) l) : leftTms (ts.take (i + 1)) l = leftTm t (leftTms (ts.take i) l) := by
  rw [take_snoc h, leftTms_app]
  simp only [leftTms, if_pos h0]
theorem leftTms_stop {ts : List Tm} {i : Nat} {l : Int} (h0 : ¬ 0 ≤ leftTms (ts.take i) l) : leftTms ts l = leftTms (ts.take i) l := by
  conv => lhs; rw [← List.take_append_drop i ts]
  rw [leftTms_app, leftTms_neg h0]
theorem leftTm_eq (t : Tm) (l : Int) : leftTm t l = leftTms t.args (l - 1) := by cases t; simp only [leftTm, Tm.args]
set_option maxHeartbeats 4000000 in
set_option maxRecDepth 100000 in
theorem con_l6Left_all : ∀ (n : Nat) (t : Tm) (l : Int), sizeTm t < n → sizeTm t ≤ big → 0 ≤ l → l ≤ 60 → Con e0 136 [.agg (encTm t), .one (.lit (.int .i64 l))] [.one (.lit (.int .i64 (leftTm t l)))] := by
  intro n
  induction n with
  | zero => intro t l h; omega
  | succ n ih =>
    intro t l hn hb hl0 hl1
    have hsz := sizeTm_eq t
    have hal := sizeTms_len t.args
    unfold big at hb
    have hw : IntKind.i64.wrap (l - 1) = l - 1 := wrapN rfl (by omega) (by omega)
    rw [leftTm_eq]
    refine gI 65591 Tryz.func136 ?_
    (have F := And.intro @tmz @hw; refine gG ?_; clear F)
    (have F := @leftTms_u; refine gL (ι := Nat) [1, 5, 16] [] (fun i => [(5, A.d (.one (.lit (.int .i64 i)))), (1, A.d (.one (.lit (.int .i64 (leftTms (t.args.take i) (l - 1))))))]) (fun i => []) (fun i => i ≤ t.args.length) (fun i => t.args.length - i) (0) (by omega) (fun i hi => ?_); clear F)
    have hsp := leftTms_spec (t.args.take i) (l - 1) (by omega)
    by_cases hl : i < t.args.length
    rotate_left
    · have hl' : ¬ ((i : Int) < (t.args.length : Int)) := by omega
      have e : t.args.take i = t.args := List.take_of_length_le (by omega)
      (have F := And.intro @hl' (And.intro @e @tmz); refine gG ?_; exact gT)
    have hl' : (i : Int) < (t.args.length : Int) := by omega
    by_cases h0 : 0 ≤ leftTms (t.args.take i) (l - 1)
    rotate_left
    · have e := leftTms_stop h0
      (have F := And.intro @hl' (And.intro @h0 (And.intro @e @tmz)); refine gG ?_; exact gT)
    obtain ⟨a, ha⟩ : ∃ a, t.args[i]? = some a := ⟨_, List.getElem?_eq_getElem hl⟩
    have hm := sizeTms_mem (List.mem_of_getElem? ha)
    have hw1 := wrap1 (k := i) (by omega)
    have hs := leftTms_snoc ha h0
    (have F := And.intro @hl' (And.intro @h0 (And.intro @tmz @ha)); refine gG ?_; clear F)
    refine gB ?_
    (have F := And.intro @tmz @ha; refine gC (ih a _ (by omega) (by unfold big; omega) h0 (by omega)) ?_; clear F)
    (have F := @tmz; refine gR ?_; clear F)
    (have F := And.intro @hw1 (And.intro @hs @tmz); refine gG ?_; exact ⟨i + 1, by omega, gw, gw, by omega⟩)
theorem small_iff {t : Tm} : 0 ≤ leftTm t 60 ↔ sizeTm t ≤ 60 := by
  have := leftTm_spec t 60 (by omega)
  by_cases h : sizeTm t ≤ 60
  · have := this.2.2.1 (by omega); omega
  · have := this.2.2.2 (by omega); omega
set_option maxHeartbeats 4000000 in
set_option maxRecDepth 100000 in
theorem con_l6Small {t : Tm} (hb : sizeTm t ≤ big) : Con e0 96 [.agg (encTm t)] [.one (.lit (.bool (decide (sizeTm t ≤ 60 ∧ depthTm t ≤ 20))))] := by
  refine gI 7 Tryz.func96 ?_
  (have F := @tmz; refine gG ?_; clear F)
  refine gB ?_
  (have F := @tmz; refine gC (con_l6Left_all _ t 60 (Nat.lt_succ_self _) hb (by omega) (by omega)) ?_; clear F)
  by_cases h1 : sizeTm t ≤ 60
  rotate_left
  · have h1' : ¬ (0 ≤ leftTm t 60) := fun h => h1 (small_iff.1 h)
    (have F := And.intro @tmz @h1'; refine gR ?_; clear F)
    (have F := @h1; refine gG ?_; exact gT)
  have h1' : (0 ≤ leftTm t 60) := small_iff.2 h1
  (have F := And.intro @tmz @h1'; refine gC (con_specDepth hb) ?_; clear F)
  by_cases h2 : depthTm t ≤ 20
  · have h2' : ((depthTm t : Int) ≤ 20) := by omega
    (have F := And.intro @tmz @h2'; refine gR ?_; clear F)
    (have F := And.intro @h1 @h2; refine gG ?_; exact gT)
  · have h2' : ¬ ((depthTm t : Int) ≤ 20) := by omega
    (have F := And.intro @tmz @h2'; refine gR ?_; clear F)
    (have F := And.intro @h1 @h2; refine gG ?_; exact gT)
section
variable {g : Sgn}
open Classical in
noncomputable def isNode (g : Sgn) (t : Tm) : Bool := decide (NodeOk g t)
theorem isNode_true {t : Tm} (h : NodeOk g t) : isNode g t = true := by simp [isNode, h]
theorem isNode_false {t : Tm} (h : ¬ NodeOk g t) : isNode g t = false := by simp [isNode, h]
theorem isNode_iff {t : Tm} : isNode g t = true ↔ NodeOk g t := by simp [isNode]
set_option maxHeartbeats 4000000 in
set_option maxRecDepth 100000 in
theorem con_l6Node (hg : SgnOk g) {t : Tm} (hok : okTm t) (hb : sizeTm t ≤ big) : Con e0 138 [.agg (encSgn g), .agg (encTm t)] [.one (.lit (.bool (isNode g t)))] := by
  have hno : ¬ NodeOk g t → isNode g t = false := isNode_false
  obtain ⟨k1, k2, k3, k4⟩ := okTm_iff.1 hok
  have hsz := sizeTm_eq t
  have hal := sizeTms_len t.args
  have hn8 := hg.sorts.n8
  have hn1 := hg.sorts.n1
  have hln := hg.len
  unfold big at hb
  have hwn : IntKind.i64.wrap ((g.sorts.names.length : Int) - 1) = (g.sorts.names.length : Int) - 1 := wrapN rfl (by omega) (by omega)
  have hwo : IntKind.i64.wrap ((g.ops.length : Int) - 1) = (g.ops.length : Int) - 1 := wrapN rfl (by omega) (by omega)
  refine gI 9444733036108034605695 Tryz.func138 ?_
  by_cases h1 : t.op = -1
  · have hV : NodeOk g t → VarOk g t := fun h => by
      rcases h with h | ⟨o, d, h⟩
      · exact h
      · exact absurd h1 h.op
    (have F := And.intro @tmz (And.intro @encSgn_u @h1); refine gG ?_; clear F)
    refine gB ?_
    (have F := @tmz; refine gC (con_specName k2) ?_; clear F)
    by_cases h2 : isName t.name = true
    rotate_left
    · have h2' : isName t.name = false := by simpa using h2
      have hf := hno fun h => h2 (hV h).2.1
      (have F := And.intro @tmz @h2'; refine gR ?_; clear F)
      (have F := @hf; refine gG ?_; exact gT)
    (have F := And.intro @tmz (And.intro @h2 @hwn); refine gC (con_l1In _ _ _) ?_; clear F)
    by_cases h3 : 0 ≤ t.sort ∧ t.sort < g.sorts.names.length
    rotate_left
    · have h3' : decide (0 ≤ t.sort ∧ t.sort ≤ (g.sorts.names.length : Int) - 1) = false := by simp only [decide_eq_false_iff_not]; omega
      have hf := hno fun h => h3 ⟨(hV h).2.2.1, (hV h).2.2.2.1⟩
      (have F := And.intro @tmz @h3'; refine gR ?_; clear F)
      (have F := @hf; refine gG ?_; exact gT)
    have h3' : decide (0 ≤ t.sort ∧ t.sort ≤ (g.sorts.names.length : Int) - 1) = true := by simp only [decide_eq_true_eq]; omega
    by_cases h4 : t.args = []
    · have hT := isNode_true (g := g) (.inl ⟨h1, h2, h3.1, h3.2, h4⟩)
      (have F := And.intro @tmz (And.intro @h3' @h4); refine gR ?_; clear F)
      (have F := @hT; refine gG ?_; exact gT)
    · have hf := hno fun h => h4 (hV h).2.2.2.2
      have h4' : ¬ ((t.args.length : Int) = 0) := by
        intro h; apply h4; apply List.eq_nil_of_length_eq_zero; omega
      (have F := And.intro @tmz (And.intro @h3' @h4'); refine gR ?_; clear F)
      (have F := @hf; refine gG ?_; exact gT)
  (have F := And.intro @tmz (And.intro @encSgn_u @h1); refine gG ?_; clear F)
  refine gB ?_
  (have F := And.intro @tmz @hwo; refine gC (con_l1In _ _ _) ?_; clear F)
  by_cases h2 : 0 ≤ t.op ∧ t.op < g.ops.length
  rotate_left
  · have h2' : decide (0 ≤ t.op ∧ t.op ≤ (g.ops.length : Int) - 1) = false := by simp only [decide_eq_false_iff_not]; omega
    have hf := hno fun h => by
      obtain ⟨o, d, h⟩ := h.app h1
      have := (List.getElem?_eq_some_iff.1 h.at').1
      have := h.lo
      omega
    (have F := And.intro @tmz @h2'; refine gR ?_; clear F)
    (have F := @hf; refine gG ?_; exact gT)
  have h2' : decide (0 ≤ t.op ∧ t.op ≤ (g.ops.length : Int) - 1) = true := by simp only [decide_eq_true_eq]; omega
  by_cases h4 : t.name = ByteArray.empty
  rotate_left
  · have hf := hno fun h => by
      obtain ⟨o, d, h⟩ := h.app h1
      exact h4 h.nm
    (have F := And.intro @tmz (And.intro @h2' (And.intro @str_emp @h4)); refine gR ?_; clear F)
    (have F := @hf; refine gG ?_; exact gT)
  by_cases h5 : t.sort = 0
  rotate_left
  · have hf := hno fun h => by
      obtain ⟨o, d, h⟩ := h.app h1
      exact h5 h.so
    (have F := And.intro @tmz (And.intro @h2' (And.intro @str_emp (And.intro @h4 @h5))); refine gR ?_; clear F)
    (have F := @hf; refine gG ?_; exact gT)
  have h0 := h2.1
  obtain ⟨o, ho⟩ : ∃ o, g.ops[t.op.toNat]? = some o := ⟨_, List.getElem?_eq_getElem (by omega)⟩
  obtain ⟨d, hd, hr0, hr1, hargs⟩ := hg.first ho
  have hgt : NodeOk g t → AppOk g t o d := fun h => by
    obtain ⟨o', d', h⟩ := h.app h1
    have e1 := h.at'
    rw [ho] at e1
    injection e1 with e1
    subst e1
    have e2 := h.fst
    rw [hd] at e2
    injection e2 with e2
    subst e2
    exact h
  have cA := con_l4Arity hd
  rw [encOpr] at cA
  (have F := And.intro @tmz (And.intro @h2' (And.intro @str_emp (And.intro @h4 @h5))); refine gR ?_; clear F)
  (have F := And.intro @tmz (And.intro @h0 (And.intro @ho @encOpr_u)); refine gG ?_; clear F)
  cases ha : o.assoc with
  | false =>
    rw [ha] at cA
    refine gB ?_
    (have F := And.intro @tmz @ha; refine gC (cA) ?_; clear F)
    by_cases c : t.args.length = d.args.length
    · have hT := isNode_true (g := g) (.inr ⟨o, d, h0, ho, hd, h4, h5, fun h => (by rw [ha] at h; cases h), fun _ => c⟩)
      have c' : ((t.args.length : Int) = (d.args.length : Int)) := by omega
      (have F := And.intro @tmz (And.intro @c' @ha); refine gR ?_; clear F)
      (have F := @hT; refine gG ?_; exact gT)
    · have hf := hno fun h => c ((hgt h).nas ha)
      have c' : ¬ ((t.args.length : Int) = (d.args.length : Int)) := by omega
      (have F := And.intro @tmz (And.intro @c' @ha); refine gR ?_; clear F)
      (have F := @hf; refine gG ?_; exact gT)
  | true =>
    refine gB ?_
    (have F := And.intro @tmz @ha; refine gC (con_l1In _ _ _) ?_; clear F)
    by_cases c : 2 ≤ t.args.length ∧ t.args.length ≤ 7
    · have hT := isNode_true (g := g) (.inr ⟨o, d, h0, ho, hd, h4, h5, fun _ => c, fun h => (by rw [ha] at h; cases h)⟩)
      have c' : decide ((2 : Int) ≤ (t.args.length : Int) ∧ (t.args.length : Int) ≤ 7) = true := by simp only [decide_eq_true_eq]; omega
      (have F := And.intro @tmz (And.intro @c' @ha); refine gR ?_; clear F)
      (have F := @hT; refine gG ?_; exact gT)
    · have hf := hno fun h => c ((hgt h).asc ha)
      have c' : decide ((2 : Int) ≤ (t.args.length : Int) ∧ (t.args.length : Int) ≤ 7) = false := by simp only [decide_eq_false_iff_not]; omega
      (have F := And.intro @tmz (And.intro @c' @ha); refine gR ?_; clear F)
      (have F := @hf; refine gG ?_; exact gT)
end
end Go.Proofs.YtpbikjkjfojjiaaGreat
namespace Go.Proofs.YtpbikjkjfojjiaaGreat
open Go.RowKit
section
variable {g : Sgn}
open Classical in
noncomputable def isRight (g : Sgn) (op : Int) (args : List Tm) : Bool := decide (RightOk g op args)
theorem unit_form (hg : SgnOk g) {op : Int} {o : Opr} (ho : g.ops[op.toNat]? = some o) (hu : o.unit ≠ 0) {a : Tm} (ha : FormOk g a) (hop : a.op = o.unit - 1) : a = unitTm o := by
  have hax := hg.axs o (List.mem_of_getElem? ho)
  have hlo := hax.lo
  obtain ⟨p, u, h⟩ := ha.node.app (by omega)
  obtain ⟨d, hd, _⟩ := hg.first ho
  have e : a.op.toNat = o.unit.toNat - 1 := by omega
  have hz : u.args.length = 0 := by
    have h2 := hax.two (.inr (.inr hu)) d hd
    obtain ⟨d0, hd0⟩ : ∃ x, d.args[0]? = some x := ⟨_, List.getElem?_eq_getElem (by omega)⟩
    obtain ⟨d1, hd1⟩ : ∃ x, d.args[1]? = some x := ⟨_, List.getElem?_eq_getElem (by omega)⟩
    exact ((h2.2 d0 d1 hd0 hd1).2.2 hu p u (by rw [← e]; exact h.at') h.fst).1
  have has : p.assoc = false := by
    cases hp : p.assoc with
    | false => rfl
    | true =>
      have := ((hg.axs p (List.mem_of_getElem? h.at')).two (.inl hp) u h.fst).1
      omega
  have hl := h.nas has
  have hnil : a.args = [] := List.eq_nil_of_length_eq_zero (by omega)
  have hnm := h.nm
  have hso := h.so
  cases a with
  | mk x n s l =>
    simp only [Tm.args, Tm.name, Tm.sort, Tm.op] at *
    subst hnil hnm hso hop
    simp only [unitTm, if_neg hu]
theorem okTm_unit {o : Opr} (h0 : 0 ≤ o.unit) (h1 : o.unit ≤ 14) : okTm (unitTm o) := by
  rw [okTm_iff]
  simp only [unitTm, Tm.op, Tm.name, Tm.sort, Tm.args, okTms, and_true]
  refine ⟨?_, by simp [maxLen], ?_⟩
  · unfold I64; split <;> omega
  · unfold I64; omega
set_option maxHeartbeats 40000000 in
set_option maxRecDepth 100000 in
theorem con_l6Right (hokg : okSgn g) (hg : SgnOk g) {t : Tm} {o : Opr} {d : Dcl} (hA : AppOk g t o d) (hF : ∀ a ∈ t.args, FormOk g a) (hok : okTm t) (hb : sizeTm t ≤ big) : Con e0 139 [.agg (encSgn g), .agg (encTm t)] [.one (.lit (.bool (isRight g t.op t.args)))] := by
  have hno : ¬ RightOk g t.op t.args → isRight g t.op t.args = false := fun h => by simp [isRight, h]
  obtain ⟨k1, k2, k3, k4⟩ := okTm_iff.1 hok
  have hsz := sizeTm_eq t
  have hal := sizeTms_len t.args
  unfold big at hb
  have h0 := hA.lo
  have ho := hA.at'
  have hd := hA.fst
  obtain ⟨d', hd', hr0, hr1, hargs⟩ := hg.first ho
  rw [hd] at hd'
  injection hd' with hd'
  subst hd'
  have hax := hg.axs o (List.mem_of_getElem? ho)
  have hlo := hax.lo
  have hhi := hax.hi
  have hln := hg.len
  have cK := con_l3Kinds hokg.1 hg.sorts
  rw [encSrt] at cK
  have cUn := con_l6Unit hg h0 ho
  rw [encSgn] at cUn
  have hnoA : ∀ (i : Nat) a, t.args[i]? = some a → ¬ ArgOk g t.op o d t.args i a → isRight g t.op t.args = false := fun i a ha h => hno fun hR => h (hR o d ho hd i a ha)
  refine gI 9903595872146772515857895423 Tryz.func139 ?_
  (have F := And.intro @tmz (And.intro @encSgn_u (And.intro @h0 (And.intro @ho @encOpr_u))); refine gG ?_; clear F)
  refine gB ?_
  (have F := @tmz; refine gC (cK) ?_; clear F)
  (have F := @tmz; refine gR ?_; clear F)
  (have F := @tmz; refine gG ?_; clear F)
  refine gB ?_
  (have F := @tmz; refine gC (cUn) ?_; clear F)
  (have F := @tmz; refine gR ?_; clear F)
  (have F := @tmz; refine gG ?_; clear F)
  (have F := @e0P; refine gL (ι := Nat) [4, 9, 10, 11, 32, 42, 76, 93] [] (fun i => [(9, A.d (.one (.lit (.int .i64 i))))]) (fun i => []) (fun i => i ≤ t.args.length ∧ ∀ (j : Nat) a, j < i → t.args[j]? = some a → ArgOk g t.op o d t.args j a) (fun i => t.args.length - i) (0) (⟨by omega, fun j a h => absurd h (by omega)⟩) (fun i hi => ?_); clear F)
  obtain ⟨hil, hall⟩ := hi
  by_cases hl : i < t.args.length
  rotate_left
  · have hl' : ¬ ((i : Int) < (t.args.length : Int)) := by omega
    have hT : isRight g t.op t.args = true := by
      simp only [isRight, decide_eq_true_eq]
      intro o' d' ho' hd' j a hj
      rw [ho] at ho'
      injection ho' with ho'
      subst ho'
      rw [hd] at hd'
      injection hd' with hd'
      subst hd'
      exact hall j a (by have := (List.getElem?_eq_some_iff.1 hj).1; omega) hj
    (have F := And.intro @tmz (And.intro @hl' @hT); refine gG ?_; exact gT)
  have hl' : (i : Int) < (t.args.length : Int) := by omega
  obtain ⟨a, ha⟩ : ∃ a, t.args[i]? = some a := ⟨_, List.getElem?_eq_getElem hl⟩
  have hm := List.mem_of_getElem? ha
  have hFa := hF a hm
  have hw1 := wrap1 (k := i) (by omega)
  obtain ⟨k, hk⟩ := argAt_get hg ho hd hA.nas hl
  obtain ⟨hk0, hk1⟩ := hargs k (List.mem_of_getElem? hk)
  have hkd := kd_get hg.sorts hk0 hk1
  have cKa := con_l6Kind hokg hg hFa.node
  rw [encSgn] at cKa
  have cU := con_l5Same (k4.mem hm) (okTm_unit (o := o) hlo (by omega))
  have hUiff : o.unit ≠ 0 → (cmpTm a (unitTm o) = 0 ↔ a.op = o.unit - 1) := fun hu => by
    rw [cmpTm_iff]
    constructor
    · rintro h; rw [h]; simp [unitTm, Tm.op, hu]
    · exact unit_form hg ho hu hFa
  generalize hU : decide (cmpTm a (unitTm o) = 0) = U at cU
  have hnext : kindTm g a = ((kd g.sorts k : Nat) : Int) → (o.assoc = true → ¬ a.op = t.op) → (o.unit ≠ 0 → U = false) → (o.comm = true → ∀ (j : Nat) p, i = j + 1 → t.args[j]? = some p → cmpTm p a ≤ 0) → i + 1 ≤ t.args.length ∧ ∀ (j : Nat) a, j < i + 1 → t.args[j]? = some a → ArgOk g t.op o d t.args j a := fun hkk hne hU' hc => ⟨by omega, fun j a' hj ha' => by
    by_cases e : j = i
    · subst e
      rw [ha] at ha'
      injection ha' with ha'
      subst ha'
      refine ⟨fun k' hk' => ?_, hne, fun h1 h2 => ?_, hc⟩
      · rw [hk] at hk'
        injection hk' with hk'
        subst hk'
        exact hkk
      · have := hU' h1
        rw [this] at hU
        simp only [decide_eq_false_iff_not] at hU
        exact hU ((hUiff h1).2 h2)
    · exact hall j a' (by omega) ha'⟩
  have hkN : d.args[(argAt o i : Nat)]? = some k := hk
  (have F := And.intro @tmz (And.intro @hl' @ha); refine gG ?_; clear F)
  refine gM (ι := Unit) [11] [] (fun u => [(11, A.d (.one (.lit (.int .i64 (argAt o i : Nat)))))]) (fun u => []) (fun u => True) ?_ (fun u hu => Exists.intro _ (And.intro (Wk.refl _) ?_))
  · rcases Bool.eq_false_or_eq_true o.assoc with hac | hac
    · (have F := And.intro @encOpr_u (And.intro @hac @argAt_u); refine gG ?_; exact ⟨(), trivial, gw, gw⟩)
    · (have F := And.intro @encOpr_u (And.intro @hac (And.intro @argAt_u @if_false.{1})); refine gG ?_; exact ⟨(), trivial, gw, gw⟩)
  (have F := @tmz; refine gG ?_; clear F)
  refine gM (ι := Bool) [76] [] (fun x => [(76, A.d (.one (.lit (.bool x))))]) (fun x => []) (fun x => (x = true → isRight g t.op t.args = false) ∧ (x = false → kindTm g a = ((kd g.sorts k : Nat) : Int) ∧ (o.assoc = true → ¬ a.op = t.op) ∧ (o.unit ≠ 0 → U = false))) ?_ (fun x hx => Exists.intro _ (And.intro (Wk.refl _) ?_))
  · refine gB ?_
    (have F := @tmz; refine gC (cKa) ?_; clear F)
    by_cases hkk : kindTm g a = ((kd g.sorts k : Nat) : Int)
    rotate_left
    · have hf := hnoA i a ha fun h => hkk (h.kind k hk)
      (have F := And.intro @tmz (And.intro @encOpr_u (And.intro @hd (And.intro @encDcl_u (And.intro @hkN (And.intro @hk0 (And.intro @hkd (And.intro @encInt_u @hkk))))))); refine gR ?_; clear F)
      (have F := @tmz; refine gG ?_; exact ⟨true, ⟨fun _ => hf, fun h => by cases h⟩, gw, gw⟩)
    by_cases hN : o.assoc = true ∧ a.op = t.op
    · have hf := hnoA i a ha fun h => h.nest hN.1 hN.2
      obtain ⟨hN1, hN2⟩ := hN
      (have F := And.intro @tmz (And.intro @encOpr_u (And.intro @hd (And.intro @encDcl_u (And.intro @hkN (And.intro @hk0 (And.intro @hkd (And.intro @encInt_u (And.intro @hkk (And.intro @hN1 @hN2))))))))); refine gR ?_; clear F)
      (have F := And.intro @tmz @hN1; refine gG ?_; exact ⟨true, ⟨fun _ => hf, fun h => by cases h⟩, gw, gw⟩)
    have hne : o.assoc = true → ¬ a.op = t.op := fun h1 h2 => hN ⟨h1, h2⟩
    rcases Bool.eq_false_or_eq_true o.assoc with hac | hac
    all_goals (
      by_cases hu : o.unit = 0
      · (have F := And.intro @tmz (And.intro @encOpr_u (And.intro @hd (And.intro @encDcl_u (And.intro @hkN (And.intro @hk0 (And.intro @hkd (And.intro @encInt_u (And.intro @hkk (And.intro @hac (And.intro @hne @hu)))))))))); refine gR ?_; clear F)
        (have F := And.intro @tmz (And.intro @hac @hu); refine gG ?_; exact ⟨false, ⟨fun h => (by cases h), fun _ => ⟨hkk, hne, fun h => absurd hu h⟩⟩, gw, gw⟩)
      (have F := And.intro @tmz (And.intro @encOpr_u (And.intro @hd (And.intro @encDcl_u (And.intro @hkN (And.intro @hk0 (And.intro @hkd (And.intro @encInt_u (And.intro @hkk (And.intro @hac (And.intro @hne @hu)))))))))); refine gC (cU) ?_; clear F)
      rcases Bool.eq_false_or_eq_true U with hub | hub
      · have hf := hnoA i a ha fun h => by
          rw [hub] at hU
          simp only [decide_eq_true_eq] at hU
          exact h.unit hu ((hUiff hu).1 hU)
        (have F := And.intro @tmz @hub; refine gR ?_; clear F)
        (have F := And.intro @tmz (And.intro @hac @hu); refine gG ?_; exact ⟨true, ⟨fun _ => hf, fun h => by cases h⟩, gw, gw⟩)
      · (have F := And.intro @tmz @hub; refine gR ?_; clear F)
        (have F := And.intro @tmz (And.intro @hac @hu); refine gG ?_; exact ⟨false, ⟨fun h => (by cases h), fun _ => ⟨hkk, hne, fun _ => hub⟩⟩, gw, gw⟩))
  cases x with
  | true =>
    have hf := hx.1 rfl
    (have F := @hf; refine gG ?_; exact gT)
  | false =>
    obtain ⟨hkk, hne, hub⟩ := hx.2 rfl
    (have F := @tmz; refine gG ?_; clear F)
    rcases Bool.eq_false_or_eq_true o.comm with hcm | hcm
    rotate_left
    · have hq := hnext hkk hne hub (fun h => by rw [hcm] at h; cases h)
      (have F := And.intro @hw1 (And.intro @tmz (And.intro @encOpr_u @hcm)); refine gG ?_; exact ⟨i + 1, hq, gw, gw, by omega⟩)
    rcases Nat.eq_zero_or_pos i with hi0 | hi0
    · have hq := hnext hkk hne hub (fun _ j p h => by omega)
      have hi0' : ¬ ((0 : Int) < (i : Int)) := by omega
      (have F := And.intro @hw1 (And.intro @tmz (And.intro @encOpr_u (And.intro @hcm @hi0'))); refine gG ?_; exact ⟨i + 1, hq, gw, gw, by omega⟩)
    obtain ⟨j, hj⟩ : ∃ j, i = j + 1 := ⟨i - 1, by omega⟩
    obtain ⟨p, hp⟩ : ∃ p, t.args[j]? = some p := ⟨_, List.getElem?_eq_getElem (by omega)⟩
    have cC := con_specCmp (k4.mem (List.mem_of_getElem? hp)) (k4.mem hm)
    have hgt0 : (0 : Int) < (i : Int) := by omega
    have hsub : IntKind.i64.wrap ((i : Int) - 1) = (j : Int) := wrapN (by omega) (by omega) (by omega)
    refine gB ?_
    (have F := And.intro @tmz (And.intro @encOpr_u (And.intro @hcm (And.intro @hgt0 (And.intro @hsub @hp)))); refine gC (cC) ?_; clear F)
    by_cases hc : 0 < cmpTm p a
    · have hf := hnoA i a ha fun h => by have := h.ord hcm j p hj hp; omega
      (have F := And.intro @tmz @hc; refine gR ?_; clear F)
      (have F := @hf; refine gG ?_; exact gT)
    · have hq := hnext hkk hne hub (fun _ j' p' h hp' => by
        have : j' = j := by omega
        subst this
        rw [hp] at hp'
        injection hp' with hp'
        subst hp'
        omega)
      (have F := And.intro @tmz @hc; refine gR ?_; clear F)
      (have F := And.intro @hw1 (And.intro @tmz (And.intro @encOpr_u @hcm)); refine gG ?_; exact ⟨i + 1, hq, gw, gw, by omega⟩)
set_option maxHeartbeats 40000000 in
set_option maxRecDepth 100000 in
theorem con_l6Form_all (hokg : okSgn g) (hg : SgnOk g) : ∀ (n : Nat) (t : Tm), sizeTm t < n → okTm t → sizeTm t ≤ big → Con e0 97 [.agg (encSgn g), .agg (encTm t)] [.one (.lit (.bool (isForm g t)))] := by
  intro n
  induction n with
  | zero => intro t h; omega
  | succ n ih =>
    intro t hn hok hb
    have hno : ¬ FormOk g t → isForm g t = false := isForm_false
    obtain ⟨k1, k2, k3, k4⟩ := okTm_iff.1 hok
    have hsz := sizeTm_eq t
    have hal := sizeTms_len t.args
    have cN := con_l6Node hg hok hb
    have hb' := hb
    unfold big at hb'
    rw [encSgn] at cN
    have ih' := fun a h1 h2 h3 => ih a h1 h2 h3
    simp only [encSgn] at ih'
    refine gI 16794175 Tryz.func97 ?_
    (have F := And.intro @tmz @encSgn_u; refine gG ?_; clear F)
    refine gB ?_
    (have F := @tmz; refine gC (cN) ?_; clear F)
    by_cases hN : isNode g t = true
    rotate_left
    · have hf := hno fun h => hN (isNode_true h.node)
      have hN' : isNode g t = false := by simpa using hN
      (have F := And.intro @tmz @hN'; refine gR ?_; clear F)
      (have F := @hf; refine gG ?_; exact gT)
    have hNd := isNode_iff.1 hN
    (have F := And.intro @tmz @hN; refine gR ?_; clear F)
    (have F := @tmz; refine gG ?_; clear F)
    (have F := @e0P; refine gL (ι := Nat) [4, 5, 14, 24] [] (fun i => [(5, A.d (.one (.lit (.int .i64 i))))]) (fun i => []) (fun i => i ≤ t.args.length ∧ ∀ (j : Nat) a, j < i → t.args[j]? = some a → FormOk g a) (fun i => t.args.length - i) (0) (⟨by omega, fun j a h => absurd h (by omega)⟩) (fun i hi => ?_); clear F)
    obtain ⟨hil, hall⟩ := hi
    by_cases hl : i < t.args.length
    rotate_left
    · have hl' : ¬ ((i : Int) < (t.args.length : Int)) := by omega
      have hF : ∀ a ∈ t.args, FormOk g a := fun a ha => by
        obtain ⟨j, hj⟩ := List.getElem?_of_mem ha
        exact hall j a (by have := (List.getElem?_eq_some_iff.1 hj).1; omega) hj
      by_cases h1 : t.op = -1
      · have hT := isForm_true (g := g) (t := t) (FormOk_iff.2 ⟨hNd, hF, .inl h1⟩)
        (have F := And.intro @tmz (And.intro @hl' (And.intro @h1 @hT)); refine gG ?_; exact gT)
      obtain ⟨o, d, hA⟩ := hNd.app h1
      have cR := con_l6Right hokg hg hA hF hok hb
      rw [encSgn] at cR
      have e : isRight g t.op t.args = isForm g t := by
        unfold isRight isForm
        congr 1
        rw [FormOk_iff]
        exact propext ⟨fun h => ⟨hNd, hF, .inr h⟩, fun h => h.2.2.resolve_left h1⟩
      (have F := And.intro @tmz (And.intro @hl' @h1); refine gG ?_; clear F)
      refine gB ?_
      (have F := And.intro @tmz @h1; refine gC (cR) ?_; clear F)
      (have F := @tmz; refine gR ?_; clear F)
      (have F := @e; refine gG ?_; exact gT)
    have hl' : (i : Int) < (t.args.length : Int) := by omega
    obtain ⟨a, ha⟩ : ∃ a, t.args[i]? = some a := ⟨_, List.getElem?_eq_getElem hl⟩
    have hm := List.mem_of_getElem? ha
    have hsa := sizeTms_mem hm
    have hw1 := wrap1 (k := i) (by omega)
    (have F := And.intro @tmz (And.intro @hl' @ha); refine gG ?_; clear F)
    refine gB ?_
    (have F := And.intro @tmz @ha; refine gC (ih' a (by omega) (k4.mem hm) (by unfold big; omega)) ?_; clear F)
    by_cases hfa : isForm g a = true
    rotate_left
    · have hf := hno fun h => hfa (isForm_true ((FormOk_iff.1 h).2.1 a hm))
      have hfa' : isForm g a = false := by simpa using hfa
      (have F := And.intro @tmz @hfa'; refine gR ?_; clear F)
      (have F := @hf; refine gG ?_; exact gT)
    have hq : i + 1 ≤ t.args.length ∧ ∀ (j : Nat) a, j < i + 1 → t.args[j]? = some a → FormOk g a := ⟨by omega, fun j a' hj ha' => by
      by_cases e : j = i
      · subst e
        rw [ha] at ha'
        injection ha' with ha'
        subst ha'
        exact isForm_iff.1 hfa
      · exact hall j a' (by omega) ha'⟩
    (have F := And.intro @tmz @hfa; refine gR ?_; clear F)
    (have F := And.intro @hw1 @tmz; refine gG ?_; exact ⟨i + 1, hq, gw, gw, by omega⟩)
theorem con_l6Form (hokg : okSgn g) (hg : SgnOk g) {t : Tm} (hok : okTm t) (hb : sizeTm t ≤ big) : Con e0 97 [.agg (encSgn g), .agg (encTm t)] [.one (.lit (.bool (isForm g t)))] := con_l6Form_all hokg hg _ t (Nat.lt_succ_self _) hok hb
set_option maxHeartbeats 4000000 in
set_option maxRecDepth 100000 in
theorem con_specIsTerm (hokg : okSgn g) {t : Tm} (hok : okTm t) (hb : sizeTm t ≤ big) : Con e0 63 [.agg (encSgn g), .agg (encTm t)] [.one (.lit (.bool (isSgn g && isTerm g t)))] := by
  have cS := con_specSgn hokg
  rw [encSgn] at cS
  refine gI 31 Tryz.func63 ?_
  (have F := And.intro @tmz @encSgn_u; refine gG ?_; clear F)
  refine gB ?_
  (have F := @tmz; refine gC (cS) ?_; clear F)
  by_cases hs : isSgn g = true
  rotate_left
  · have hs' : isSgn g = false := by simpa using hs
    (have F := And.intro @tmz @hs'; refine gR ?_; clear F)
    (have F := @hs'; refine gG ?_; exact gT)
  have hg := isSgn_iff.1 hs
  have cF := con_l6Form hokg hg hok hb
  rw [encSgn] at cF
  (have F := And.intro @tmz @hs; refine gC (con_l6Small hb) ?_; clear F)
  by_cases h1 : sizeTm t ≤ 60 ∧ depthTm t ≤ 20
  rotate_left
  · have hf : isTerm g t = false := isTerm_false fun h => h1 ⟨h.size, h.depth⟩
    have h1' : decide (sizeTm t ≤ 60 ∧ depthTm t ≤ 20) = false := by simp only [decide_eq_false_iff_not]; exact h1
    (have F := And.intro @tmz (And.intro @h1' @hs); refine gR ?_; clear F)
    (have F := And.intro @hs @hf; refine gG ?_; exact gT)
  have h1' : decide (sizeTm t ≤ 60 ∧ depthTm t ≤ 20) = true := by simp only [decide_eq_true_eq]; exact h1
  have e := isTerm_form (g := g) h1.1 h1.2
  (have F := And.intro @tmz (And.intro @h1' @hs); refine gC (cF) ?_; clear F)
  (have F := And.intro @tmz (And.intro @h1' @hs); refine gR ?_; clear F)
  (have F := And.intro @hs @e; refine gG ?_; exact gT)
end
end Go.Proofs.YtpbikjkjfojjiaaGreat
namespace Go.Proofs.YtpbikjkjfojjiaaGreat
open Go.RowKit
theorem Con.weaken {e : Env} {f : FuncId} {args args' r : List D} (h : Con e f args' r) (ha : ∀ (w : World) (S : Nat → Prop) (vs : List Value), DsRel w S args vs → DsRel w S args' vs) : Con e f args r :=
  ⟨h.1, fun w S vs h1 h2 h3 h4 => h.2 w S vs h1 h2 h3 (ha w S vs h4)⟩
theorem least {P : Nat → Prop} (h : ∃ n, P n) : ∃ n, P n ∧ ∀ m, m < n → ¬ P m := by
  obtain ⟨n, hn⟩ := h
  induction n using Nat.strongRecOn with
  | _ n ih =>
    by_cases hx : ∃ m, m < n ∧ P m
    · obtain ⟨m, hm, hp⟩ := hx; exact ih m hm hp
    · exact ⟨n, hn, fun m hm hp => hx ⟨m, hm, hp⟩⟩
/-! What the test says, by what it says of the parts. -/
set_option maxHeartbeats 4000000 in
set_option maxRecDepth 100000 in
theorem con_indexFunc {ts : List Tm} {f : FuncId} {caps : List C} {P : Tm → Bool} (hl : ts.length ≤ big) (h : ∀ a ∈ ts, Con e0 f (.agg (encTm a) :: caps.map .one) [.one (.lit (.bool (P a)))]) :
    ∃ r : Int, (0 ≤ r ↔ ts.any P = true) ∧ Con e0 118 [.one (.sl (encTms ts)), .one (.fn f caps)] [.one (.lit (.int .i64 r))] := by
  unfold big at hl
  by_cases hA : ts.any P = true
  · obtain ⟨k, hk, hbef⟩ : ∃ k : Nat, (∃ a, ts[k]? = some a ∧ P a = true) ∧ ∀ (j : Nat) a, j < k → ts[j]? = some a → P a = false := by
      have hex : ∃ k : Nat, ∃ a, ts[k]? = some a ∧ P a = true := by
        obtain ⟨a, ha, hp⟩ := List.any_eq_true.1 hA
        obtain ⟨k, hk⟩ := List.getElem?_of_mem ha
        exact ⟨k, a, hk, hp⟩
      obtain ⟨k, hk, hmin⟩ := least hex
      refine ⟨k, hk, fun j a hj ha => ?_⟩
      cases hp : P a with
      | false => rfl
      | true => exact absurd ⟨a, ha, hp⟩ (hmin j hj)
    obtain ⟨a0, ha0, hp0⟩ := hk
    have hkl := (List.getElem?_eq_some_iff.1 ha0).1
    refine ⟨(k : Int), ⟨fun _ => hA, fun _ => by omega⟩, ?_⟩
    refine gI 66483 Tryz.func118 ?_
    (have F := @tmz; refine gG ?_; clear F)
    (have F := @e0P; refine gL (ι := Nat) [4, 5, 8, 9, 16] [] (fun i => [(8, A.d (.one (.lit (.int .i64 i))))]) (fun i => []) (fun i => i ≤ k) (fun i => k + 1 - i) (0) (by omega) (fun i hi => ?_); clear F)
    have hl' : (i : Int) < (ts.length : Int) := by omega
    obtain ⟨a, ha⟩ : ∃ a, ts[i]? = some a := ⟨_, List.getElem?_eq_getElem (by omega)⟩
    have hw1 := wrap1 (k := i) (by omega)
    (have F := And.intro @tmz @hl'; refine gG ?_; clear F)
    refine gB ?_
    (have F := And.intro @tmz @ha; refine gC (h a (List.mem_of_getElem? ha)) ?_; clear F)
    by_cases hik : i = k
    · subst hik
      rw [ha] at ha0
      injection ha0 with ha0
      subst ha0
      (have F := And.intro @tmz @hp0; refine gR ?_; clear F)
      (have F := @tmz; refine gG ?_; exact gT)
    · have hpf := hbef i a (by omega) ha
      (have F := And.intro @tmz @hpf; refine gR ?_; clear F)
      (have F := And.intro @hw1 @tmz; refine gG ?_; exact ⟨i + 1, by omega, gw, gw, by omega⟩)
  · have hbef : ∀ (j : Nat) a, ts[j]? = some a → P a = false := fun j a ha => by
      cases hp : P a with
      | false => rfl
      | true => exact absurd (List.any_eq_true.2 ⟨a, List.mem_of_getElem? ha, hp⟩) hA
    refine ⟨-1, ⟨fun h => by omega, fun h => absurd h hA⟩, ?_⟩
    refine gI 66483 Tryz.func118 ?_
    (have F := @tmz; refine gG ?_; clear F)
    (have F := @e0P; refine gL (ι := Nat) [4, 5, 8, 9, 16] [] (fun i => [(8, A.d (.one (.lit (.int .i64 i))))]) (fun i => []) (fun i => i ≤ ts.length) (fun i => ts.length - i) (0) (by omega) (fun i hi => ?_); clear F)
    by_cases hi' : i < ts.length
    rotate_left
    · have hl' : ¬ ((i : Int) < (ts.length : Int)) := by omega
      (have F := And.intro @tmz @hl'; refine gG ?_; exact gT)
    have hl' : (i : Int) < (ts.length : Int) := by omega
    obtain ⟨a, ha⟩ : ∃ a, ts[i]? = some a := ⟨_, List.getElem?_eq_getElem (by omega)⟩
    have hw1 := wrap1 (k := i) (by omega)
    have hpf := hbef i a ha
    (have F := And.intro @tmz @hl'; refine gG ?_; clear F)
    refine gB ?_
    (have F := And.intro @tmz @ha; refine gC (h a (List.mem_of_getElem? ha)) ?_; clear F)
    (have F := And.intro @tmz @hpf; refine gR ?_; clear F)
    (have F := And.intro @hw1 @tmz; refine gG ?_; exact ⟨i + 1, by omega, gw, gw, by omega⟩)
set_option maxHeartbeats 4000000 in
set_option maxRecDepth 100000 in
theorem con_containsFunc {ts : List Tm} {f : FuncId} {caps : List C} {P : Tm → Bool} (hl : ts.length ≤ big) (h : ∀ a ∈ ts, Con e0 f (.agg (encTm a) :: caps.map .one) [.one (.lit (.bool (P a)))]) :
    Con e0 128 [.one (.sl (encTms ts)), .one (.fn f caps)] [.one (.lit (.bool (ts.any P)))] := by
  obtain ⟨r, hr, c⟩ := con_indexFunc hl h
  refine gI 19 Tryz.func128 ?_
  (have F := @tmz; refine gG ?_; clear F)
  refine gB ?_
  (have F := @tmz; refine gC (c) ?_; clear F)
  have e : decide (0 ≤ r) = ts.any P := by
    rw [Bool.eq_iff_iff, decide_eq_true_iff]; exact hr
  (have F := @tmz; refine gR ?_; clear F)
  (have F := @e; refine gG ?_; exact gT)
mutual
theorem bulk_size : ∀ t : Tm, sizeTm t ≤ bulkRow (encTm t) + 1
  | .mk _ _ _ args => by
    have := bulk_sizes args
    simp only [sizeTm, encTm, bulkRow, bulkC]
    omega
theorem bulk_sizes : ∀ ts : List Tm, sizeTms ts ≤ (encTms ts).length + bulkRows (encTms ts)
  | [] => by simp [sizeTms]
  | t :: ts => by
    have h1 := bulk_size t
    have h2 := bulk_sizes ts
    simp only [sizeTms, encTms, List.length_cons, bulkRows]
    omega
end
theorem big_of_bulk {t : Tm} (h : bulkRow (encTm t) ≤ 1048576) : sizeTm t ≤ big := by
  have := bulk_size t
  unfold big
  omega
end Go.Proofs.YtpbikjkjfojjiaaGreat
namespace Go.Proofs.YtpbikjkjfojjiaaGreat
open Go.RowKit
/-- Rows of values stand for rows of data, all in memory of their own. -/
def OwnVs (w : World) : List (List C) → (Nat → Prop) → List (List Value) → Prop
  | [], _, [] => True
  | r :: rs, S, us :: uss => ∃ S1 S2 : Nat → Prop, (∀ x, S1 x → S x) ∧ (∀ x, S2 x → S x) ∧ (∀ x, S1 x → S2 x → False) ∧ OwnVals w r S1 us ∧ OwnVs w rs S2 uss
  | _, _, _ => False
def litRow (us : List Value) : List C := us.map .lit
section
variable {w w' : World}
theorem OwnVs.keep (hz : w.heap.size ≤ w'.heap.size) : ∀ (rows : List (List C)) (S S' : Nat → Prop) (uss : List (List Value)), (∀ b, S b → w'.heap[b]? = w.heap[b]?) → (∀ b, S b → S' b) → OwnVs w rows S uss → OwnVs w' rows S' uss
  | [], _, _, [], _, _, _ => trivial
  | r :: rs, S, S', us :: uss, hk, hS, h => by
    obtain ⟨S1, S2, h1, h2, hd, hr, hrs⟩ := h
    exact ⟨S1, S2, fun x hx => hS x (h1 x hx), fun x hx => hS x (h2 x hx), hd, OwnVals.keep hz r S1 S1 us (fun x hx => hk x (h1 x hx)) (fun _ h => h) hr, OwnVs.keep hz rs S2 S2 uss (fun x hx => hk x (h2 x hx)) (fun _ h => h) hrs⟩
  | [], _, _, _ :: _, _, _, h => h.elim
  | _ :: _, _, _, [], _, _, h => h.elim
theorem OwnVs.len : ∀ {rows : List (List C)} {S : Nat → Prop} {uss : List (List Value)}, OwnVs w rows S uss → uss.length = rows.length
  | [], _, [], _ => rfl
  | r :: rs, S, us :: uss, ⟨S1, S2, _, _, _, _, h⟩ => by simp [OwnVs.len h]
theorem OwnVs.snoc : ∀ {rows : List (List C)} {r : List C} {S S1 S2 : Nat → Prop} {uss : List (List Value)} {us : List Value}, OwnVs w rows S1 uss → OwnVals w r S2 us → (∀ x, S1 x → S x) → (∀ x, S2 x → S x) → (∀ x, S1 x → S2 x → False) → OwnVs w (rows ++ [r]) S (uss ++ [us])
  | [], r, S, S1, S2, [], us, _, h2, i1, i2, hd => ⟨S2, fun _ => False, i2, fun _ h => h.elim, fun _ _ h => h, h2, trivial⟩
  | q :: qs, r, S, S1, S2, vs :: vss, us, ⟨T1, T2, a1, a2, a3, a4, a5⟩, h2, i1, i2, hd =>
    ⟨T1, fun x => T2 x ∨ S2 x, fun x hx => i1 x (a1 x hx), fun x hx => hx.elim (fun h => i1 x (a2 x h)) (i2 x), fun x hx hy => hy.elim (a3 x hx) (hd x (a1 x hx)), a4,
      OwnVs.snoc a5 h2 (fun _ h => .inl h) (fun _ h => .inr h) (fun x hx hy => hd x (a2 x hx) hy)⟩
  | [], _, _, _, _, _ :: _, _, h, _, _, _, _ => h.elim
  | _ :: _, _, _, _, _, [], _, h, _, _, _, _ => h.elim
theorem OwnVs.get : ∀ {rows : List (List C)} {S : Nat → Prop} {uss : List (List Value)} {i : Nat} {r : List C} {us : List Value}, OwnVs w rows S uss → rows[i]? = some r → uss[i]? = some us → OwnVals w r S us
  | r :: rs, S, us :: uss, 0, r', us', ⟨S1, S2, h1, _, _, h, _⟩, hr, hu => by
    simp at hr hu; subst hr hu
    exact OwnVals.keep (Nat.le_refl _) r S1 S us (fun _ _ => rfl) h1 h
  | r :: rs, S, us :: uss, i + 1, r', us', ⟨S1, S2, _, h2, _, _, h⟩, hr, hu =>
    OwnVals.keep (Nat.le_refl _) r' S2 S us' (fun _ _ => rfl) h2 (OwnVs.get h (by simpa using hr) (by simpa using hu))
  | [], _, _, _, _, _, _, hr, _ => by simp at hr
  | _ :: _, _, [], _, _, _, h, _, _ => h.elim
theorem OwnRow.open {b : Nat} : ∀ {cs : List C} {S : Nat → Prop} {off : Nat}, OwnRow w b cs S off → ∃ us, OwnVals w cs S us ∧ ∀ j u, us[j]? = some u → w.cell? ⟨b, off + j, none⟩ = some u
  | [], S, off, _ => ⟨[], OwnVals.nil, fun j u h => by simp at h⟩
  | c :: cs, S, off, h => by
    simp only [OwnRow] at h
    obtain ⟨S1, S2, u, h1, h2, hd, hu, hc, hcs⟩ := h
    obtain ⟨us, k1, k2⟩ := OwnRow.open hcs
    refine ⟨u :: us, OwnVals.cons S1 S2 hc k1 h1 h2 hd, fun j v hj => ?_⟩
    cases j with
    | zero => simp at hj; subst hj; exact hu
    | succ j => have := k2 j v (by simpa using hj); rw [← this]; congr 2; omega
theorem OwnRows.open {b : Nat} : ∀ {rows : List (List C)} {S : Nat → Prop} {off : Nat}, OwnRows w b rows S off → ∃ uss, OwnVs w rows S uss ∧ ∀ T : Nat → Prop, RepRows w T b off (uss.map litRow)
  | [], S, off, _ => ⟨[], trivial, fun T => by simp [RepRows]⟩
  | r :: rs, S, off, h => by
    simp only [OwnRows] at h
    obtain ⟨S1, S2, h1, h2, hd, hr, hrs⟩ := h
    obtain ⟨us, k1, k2⟩ := OwnRow.open hr
    obtain ⟨uss, k3, k4⟩ := OwnRows.open hrs
    refine ⟨us :: uss, ⟨S1, S2, h1, h2, hd, k1, k3⟩, fun T => ?_⟩
    simp only [List.map_cons, RepRows]
    refine ⟨RepRow.of_vals _ us off (RepVals_lits us) k2, ?_⟩
    rw [show (litRow us).length = r.length by simp [litRow, k1.len]]
    exact k4 T
theorem OwnVals.cells : ∀ {cs : List C} {S : Nat → Prop} {us : List Value}, OwnVals w cs S us → cs.all okCell = true → (litRow us).all okCell = true
  | [], _, [], _, _ => rfl
  | c :: cs, S, u :: us, h, hc => by
    simp only [OwnVals] at h
    obtain ⟨S1, S2, _, _, _, h1, h2⟩ := h
    simp only [List.all_cons, Bool.and_eq_true] at hc
    simp only [litRow, List.map_cons, List.all_cons, Bool.and_eq_true]
    exact ⟨okCell_one (c := c) hc.1 (Own.rep c S1 u h1), OwnVals.cells h2 hc.2⟩
  | [], _, _ :: _, h, _ => by simp [OwnVals] at h
  | _ :: _, _, [], h, _ => by simp [OwnVals] at h
/-- A tree opened: its rows, as values, and what they own. -/
theorem Own.open {T : Nat → Prop} {rows : List (List C)} {E : Nat → Prop} {a : Option Addr} {n cap sz : Nat} (hT : ∀ b, E b → ¬ T b) (hne : rows ≠ []) (hrl : rowsLen sz rows) (h : Own w (.sl rows) E (.slice a n cap)) :
    ∃ uss ety E', n = uss.length ∧ BufRel w T ety sz (uss.map litRow) (.slice a uss.length cap) ∧ OwnVs w rows E' uss ∧ (∀ b, E' b → E b ∧ vblk (.slice a uss.length cap) ≠ some b) ∧ ∀ b, vblk (.slice a uss.length cap) = some b → E b := by
  simp only [Own] at h
  obtain ⟨A, n', cap', hv, hn, hle, hmx, hb⟩ := h
  injection hv with e1 e2 e3
  subst e1 e2 e3
  have h0 : 0 < rows.length := List.length_pos_iff.2 hne
  obtain ⟨b, off, S', rfl, hEb, hbl, ⟨hfr, rfl, cur, ety, sz', hh, hcs, hz, hrs⟩, hS', hrows⟩ := hb (by omega)
  obtain ⟨uss, k1, k2⟩ := OwnRows.open hrows
  have hl := k1.len
  have hsz : sz' = sz := by
    obtain ⟨r, hr⟩ := List.exists_mem_of_ne_nil _ hne
    rw [← hrs r hr, (hrl r hr).1]
  subst hsz
  have hvb : vblk (.slice (some ⟨b, 0, none⟩) uss.length cap) = some b := by simp only [vblk]; rw [if_neg (by omega)]
  have hrow : rowsLen sz' (uss.map litRow) := fun x hx => by
    obtain ⟨us, hus, rfl⟩ := List.mem_map.1 hx
    obtain ⟨i, hi⟩ := List.getElem?_of_mem hus
    have hil := (List.getElem?_eq_some_iff.1 hi).1
    obtain ⟨r, hr⟩ : ∃ r, rows[i]? = some r := ⟨_, List.getElem?_eq_getElem (by omega)⟩
    have hov := k1.get hr hi
    have hrm := hrl r (List.mem_of_getElem? hr)
    exact ⟨by simp only [litRow, List.length_map]; rw [hov.len]; exact hrm.1, hov.cells hrm.2⟩
  refine ⟨uss, ety, S', by omega, ⟨hz, hrow, .inr ⟨b, cap, cur, by simp, by omega, hbl, hT b hEb, hh, by simp only [List.length_map]; omega, hmx, hcs, k2 T⟩⟩, k1, fun x hx => ⟨(hS' x hx).1, fun e => ?_⟩, fun x hx => ?_⟩
  · rw [hvb] at e; injection e with e; exact (hS' x hx).2 e.symm
  · rw [hvb] at hx; injection hx with hx; rw [← hx]; exact hEb
end
theorem apart_1 (x : Bk) : Apart [x] := ⟨by simp, trivial⟩
/-- A struct in memory of its own; rows in memory of their own. -/
def RTree (row : List C) (r : List D) (pm : List Bk) : Prop := ∃ us E, r = [.agg (litRow us)] ∧ us.length = row.length ∧ (litRow us).all okCell = true ∧ pm = [.set E (fun w => OwnVals w row E us)]
def RTrees (ety sz : Nat) (rows : List (List C)) (r : List D) (pm : List Bk) : Prop := ∃ a cap uss E, r = [.one (.lit (.slice a uss.length cap))] ∧ uss.length = rows.length ∧ pm = [.buf (some (a, cap)) ety sz (uss.map litRow), .set E (fun w => OwnVs w rows E uss)]
theorem RTree.mk {row : List C} {us : List Value} {E : Nat → Prop} (h : us.length = row.length) (hok : (litRow us).all okCell = true) : RTree row [.agg (litRow us)] [.set E (fun w => OwnVals w row E us)] := ⟨us, E, rfl, h, hok, rfl⟩
theorem RTrees.mk {ety sz : Nat} {rows : List (List C)} {a : Option Addr} {cap : Nat} {uss : List (List Value)} {E : Nat → Prop} (h : uss.length = rows.length) : RTrees ety sz rows [.one (.lit (.slice a uss.length cap))] [.buf (some (a, cap)) ety sz (uss.map litRow), .set E (fun w => OwnVs w rows E uss)] := ⟨a, cap, uss, E, rfl, h, rfl⟩
end Go.Proofs.YtpbikjkjfojjiaaGreat
namespace Go.Proofs.YtpbikjkjfojjiaaGreat
open Go.RowKit
theorem flat_take {n : Nat} : ∀ {rows : List (List C)} (l : Nat), rowsLen n rows → (rows.take l).flatten = rows.flatten.take (l * n)
  | [], l, _ => by simp
  | r :: rs, 0, _ => by simp
  | r :: rs, l + 1, h => by
    have h1 := (h r List.mem_cons_self).1
    have h2 := flat_take (n := n) l (fun x hx => h x (List.mem_cons_of_mem _ hx) : rowsLen n rs)
    simp only [List.take_succ_cons, List.flatten_cons, h2]
    rw [show (l + 1) * n = r.length + l * n by rw [h1, Nat.succ_mul, Nat.add_comm], List.take_length_add_append]
theorem flat_drop {n : Nat} : ∀ {rows : List (List C)} (l : Nat), rowsLen n rows → (rows.drop l).flatten = rows.flatten.drop (l * n)
  | [], l, _ => by simp
  | r :: rs, 0, _ => by simp
  | r :: rs, l + 1, h => by
    have h1 := (h r List.mem_cons_self).1
    have h2 := flat_drop (n := n) l (fun x hx => h x (List.mem_cons_of_mem _ hx) : rowsLen n rs)
    simp only [List.drop_succ_cons, List.flatten_cons, h2]
    rw [show (l + 1) * n = r.length + l * n by rw [h1, Nat.succ_mul, Nat.add_comm], List.drop_length_add_append]
section
variable {e : Env} {U : Nat → Prop} {w0 : World} {S0 : Nat → Prop} {nt : Nat} {σ : St} {a : Act} {w : World} {S : Nat → Prop} {L : Lay}
/-- A store of whole rows into a slice of the call's own. -/
theorem Sim.storeRows (h : Sim e U w0 S0 nt σ a w S L) (he : e.Ok) {o : Option (Option Addr × Nat)} {k l g ety sz : Nat} {rows news : List (List C)} {vs : List Value} (hm : gm σ.m k = some (.buf o ety sz rows)) (hg : vblk (L.v k) = some g) (hl : l + news.length ≤ rows.length) (hn : rowsLen sz news) (hu : RepVals w S news.flatten vs) :
    ∃ w', (storeCells ⟨g, l * sz, none⟩ vs).run e.P w = .ok () w' ∧ SimE e U w0 S0 nt ⟨σ.s, (k, .buf o ety sz (rows.take l ++ news ++ rows.drop (l + news.length))) :: remM k σ.m⟩ a w' := by
  obtain ⟨hb0, hs0, hrl, h3⟩ := h.cls.own k _ hm
  have hvl := hu.len
  have h1 := flat_ok hn
  rw [flat_len hn] at hvl
  rcases h3 with ⟨h3, p, h4⟩ | ⟨g', cap, cur, hv, hcp, hg1, hg2, hheap0, hlen, hcap, hcs, hrows⟩
  · rw [h4] at hg; cases p <;> simp [vblk] at hg
  · have hgg : g' = g := by rw [hv] at hg; simp only [vblk] at hg; rw [if_neg (by omega)] at hg; injection hg
    subst hgg
    have hfl := flat_len hrl
    have hin : l * sz + vs.length ≤ rows.length * sz := by
      have := Nat.mul_le_mul_right sz hl
      rw [Nat.add_mul] at this
      omega
    have hin2 : rows.length * sz ≤ cap * sz := Nat.mul_le_mul_right sz hlen
    have hst := run_storeCells_at e.P g' (l * sz) ety vs 0 cur w hheap0 (by rw [hcs]; omega) (okCell_all h1 hu)
    simp only [Nat.add_zero] at hst
    have hput := put_setRow w g' (l * sz) ety vs cur hheap0 (by rw [hcs]; omega)
    refine ⟨_, hst, ?_⟩
    have hheap := setRow_heap w g' cur (cur.toList.take (l * sz) ++ vs ++ cur.toList.drop (l * sz + vs.length)).toArray ety _ hheap0
    have hdr : (w.setRow g' (cur.toList.take (l * sz) ++ vs ++ cur.toList.drop (l * sz + vs.length)).toArray).drawn = w.drawn := setRow_drawn _ _ _
    generalize hW : w.setRow g' (cur.toList.take (l * sz) ++ vs ++ cur.toList.drop (l * sz + vs.length)).toArray = W at hput hheap hdr ⊢
    have hsz : W.heap.size = w.heap.size := hput.size
    have hkc : ∀ b o, S b → W.cell? ⟨b, o, none⟩ = w.cell? ⟨b, o, none⟩ := fun b o hs => cell_of_heap (hput.other b (fun e => hg2 (e ▸ hs))) o
    have hbk : blkOf L k (.buf o ety sz rows) g' := hg
    have hln : (rows.take l ++ news ++ rows.drop (l + news.length)).length = rows.length := by simp; omega
    have hown : Own1 W S L k (.buf o ety sz (rows.take l ++ news ++ rows.drop (l + news.length))) := by
      simp only [Own1]
      refine ⟨fun a ha => by rw [hb0 a ha, hln], hs0, fun x hx => ?_, .inr ⟨g', cap, _, by rw [hv, hln], hcp, by omega, hg2, hheap, by rw [hln]; exact hlen, hcap, by simp; omega, ?_⟩⟩
      · rcases List.mem_append.1 hx with hx | hx
        · rcases List.mem_append.1 hx with hx | hx
          · exact hrl x (List.mem_of_mem_take hx)
          · exact hn x hx
        · exact hrl x (List.mem_of_mem_drop hx)
      · apply RepRows.of_flat
        rw [List.flatten_append, List.flatten_append, flat_take l hrl, flat_drop _ hrl]
        have hz : w.heap.size ≤ W.heap.size := by omega
        have hf := hrows.flat
        have r1 := RepRow.keepAt (S' := S) hz hkc (fun _ h => h) g' 0 (rows.flatten.take (l * sz)) (fun i hi => hput.old _ (.inl (by simp at hi; omega))) (hf.take (l * sz))
        have r3 : RepRow W S g' (l * sz) news.flatten := RepRow.of_vals _ vs _ (RepVals.keep2 hz hkc (fun _ h => h) hu) hput.new
        have r5 := RepRow.keepAt (S' := S) hz hkc (fun _ h => h) g' _ (rows.flatten.drop ((l + news.length) * sz)) (fun i hi => hput.old _ (.inr (by rw [hvl]; rw [Nat.add_mul]; omega))) (hf.drop ((l + news.length) * sz))
        have l1 : (rows.flatten.take (l * sz)).length = l * sz := by rw [List.length_take, hfl]; omega
        refine RepRow.append _ _ 0 (RepRow.append _ _ 0 r1 ?_) ?_
        · rw [l1, Nat.zero_add]; exact r3
        · rw [List.length_append, l1, flat_len hn, ← Nat.add_mul]
          exact r5
    obtain ⟨t1, t2, t3⟩ := h.touch he (d := k) (bk := .buf o ety sz (rows.take l ++ news ++ rows.drop (l + news.length))) (m' := (k, .buf o ety sz (rows.take l ++ news ++ rows.drop (l + news.length))) :: remM k σ.m) (w' := W) (L' := L) (τ := some g') (fun _ h => h) (fun _ h => .inl h)
      (fun k' x hkd hx => by simp only [gm, hkd, if_false, gm_remM] at hx; exact hx) (by simp [gm]) (fun _ _ => ⟨rfl, rfl⟩)
      (fun q hq => by injection hq with hq; subst hq; exact ⟨hg2, h.cls.notE hm hbk, h.cls.mine k _ _ hm hbk⟩)
      (fun k' x q hkd hx hq hb => by
        injection hq with hq; subst hq
        simp only [gm, hkd, if_false, gm_remM] at hx
        exact hkd (h.cls.inj k' k x _ _ hx hm hb hbk))
      ⟨hput.os, hput.tape, hput.output, fun _ => Nat.le_of_eq hdr.symm, by omega, fun b hb hE => hput.other b (fun eq => hE (by rw [eq]))⟩ hown (fun q hq => .inl (by rw [← hq]; exact hg.symm))
    exact ⟨S, L, t1, fun t => t3 _ _ (fun _ => ⟨rfl, rfl⟩) (h.rel t), h.size, h.defers, t2⟩
end
section
variable {e : Env} {σ : St} {o : Oper} {K : St → Prop}
/-- A part of an own slice, told by its place. -/
theorem step_sub {t : TypeId} {x : Operand} {lo hi : Option Operand} (ho : o.op = .slice t x lo hi none) {k cap ety sz : Nat} {a : Option Addr} {rows : List (List C)} {l h : Int} (hx : nrm σ.m (evA σ.s x) = .buf k) (hm : gm σ.m k = some (.buf (some (a, cap)) ety sz rows)) (ht : elemT e.P t = some sz)
    (hlo : loA (lo.map (evA σ.s)) = some l) (hhi : hiA rows.length (hi.map (evA σ.s)) = some h) (hb : 0 ≤ l ∧ l ≤ h ∧ h ≤ rows.length) (hK : K ⟨setA σ.s o.dst (.d (.one (.lit (sliced a l.toNat h.toNat cap sz)))), σ.m⟩) : StepOk e o σ K := by
  intro he U w0 S0 nt ac w Q hd ⟨S, L, h1⟩
  refine Oper.wp_mono (fun a' w' hs => ⟨_, hK, hs⟩) (gives_then h1 hd (givesA_pure fun w S L ρv hC hr => ?_))
  have hx' := nrm_rel hC (hr x (by simp [ho, Op.operands]))
  rw [hx] at hx'
  have hx' : ρv x = L.v k := hx'
  obtain ⟨hpl, _, _, hbuf⟩ := hC.own k _ hm
  have hv : L.v k = .slice a rows.length cap := hpl (a, cap) rfl
  have hcap : rows.length ≤ cap := by
    rcases hbuf with ⟨h4, _⟩ | ⟨g, cap', cur, h4, _, _, _, _, h5, _⟩
    · rw [h4]; exact Nat.zero_le _
    · rw [hv] at h4; injection h4 with _ _ h4; rw [h4]; exact h5
  have hel : ∃ ety i, e.P.underlying t = some (.slice ety) ∧ e.P.info? ety = some i ∧ i.size = sz := by
    unfold elemT at ht
    split at ht
    · rename_i ety hu
      simp only [Option.map_eq_some_iff] at ht
      obtain ⟨i, hi, hs⟩ := ht
      exact ⟨ety, i, hu, hi, hs⟩
    · cases ht
  obtain ⟨el, i, hu, hi', hsz⟩ := hel
  have hlo := loA_spec (w := w) (S := S) (L := L) (ρv := ρv) hlo (fun y hy => hr y (by simp [ho, Op.operands, hy]))
  have hhi := hiA_spec (w := w) (S := S) (L := L) (ρv := ρv) hhi (fun y hy => hr y (by simp [ho, Op.operands, hy]))
  refine ⟨sliced a l.toNat h.toNat cap sz, ?_, by simp [ARel, DRel, Rep]⟩
  have hbnd : (Instr.sliceBounds true rows.length cap (lo.map ρv) (hi.map ρv) none).run e.P w = .ok (l.toNat, h.toNat, cap) w := by
    have eh : (h.toNat : Int) = h := Int.toNat_of_nonneg (by omega)
    have b1 : 0 ≤ h := by omega
    have b2 : h ≤ (cap : Int) := by omega
    have b3 : 0 ≤ l := hb.1
    have b4 : l ≤ h := hb.2.1
    rcases hlo with ⟨rfl, rfl⟩ | e1 <;> rcases hhi with ⟨rfl, e2⟩ | e2
    · simp [Instr.sliceBounds, e2, Result.andThen]
    · simp [Instr.sliceBounds, e2, Result.andThen, run_sliceBound, b1, b2]
    · have b5 : l ≤ (rows.length : Int) := by omega
      simp [Instr.sliceBounds, e1, e2, Result.andThen, run_sliceBound, b3, b5]
    · simp [Instr.sliceBounds, e1, e2, Result.andThen, run_sliceBound, b1, b2, b3, b4, eh]
  simp only [execOp, ho, Sem.run_bind, hx', hv, Instr.sliceAt, Instr.slice, underlying, run_program, Result.andThen_ok, hu, Sem.run_pure, Option.map_none, hbnd, sizeOf, typeInfo, hi', hsz, sliced]
/-- An element of a part. -/
theorem gives_subAddr {U : Nat → Prop} {base : Nat} {S0 : Nat → Prop} {t : TypeId} {x i : Operand} (ho : o.op = .indexAddr t x i) {k cap ety sz l h : Nat} {a : Option Addr} {rows : List (List C)} {j : Int} (hx : evA σ.s x = .d (.one (.lit (sliced a l h cap sz)))) (hi : evA σ.s i = .d (.one (.lit (.int .i64 j)))) (hm : gm σ.m k = some (.buf (some (a, cap)) ety sz rows)) (ht : elemT e.P t = some sz)
    (hb : 0 ≤ j ∧ l + j < h ∧ h ≤ rows.length) : GivesA e U base S0 σ.m o (evA σ.s) (.row k (l + j.toNat) sz 0) := by
  refine givesA_pure fun w S L ρv hC hr => ?_
  have hx' := hr x (by simp [ho, Op.operands])
  have hi' := hr i (by simp [ho, Op.operands])
  rw [hx] at hx'
  rw [hi] at hi'
  have hx' := lit_val hx'
  have hi' := lit_val hi'
  obtain ⟨hpl, _, _, hbuf⟩ := hC.own k _ hm
  have hv : L.v k = .slice a rows.length cap := hpl (a, cap) rfl
  rcases hbuf with ⟨h4, _⟩ | ⟨g, cap', cur, h4, h6, _, _, _, h5, _⟩
  · rw [h4] at hb; simp at hb; omega
  · rw [hv] at h4
    injection h4 with h7 _ h8
    subst h7 h8
    have hlc : ¬ cap = l := by omega
    have hval : sliced (some ⟨g, 0, none⟩) l h cap sz = .slice (some ⟨g, l * sz, none⟩) (h - l) (cap - l) := by
      simp only [sliced, hlc, if_false, Option.map_some, Addr.add_at, Nat.zero_add]
    refine ⟨.pointer (some ⟨g, (l + j.toNat) * sz + 0, none⟩), ?_, g, ?_, rfl⟩
    · unfold elemT at ht
      split at ht
      · rename_i el hu
        simp only [Option.map_eq_some_iff] at ht
        obtain ⟨ii, hii, hn⟩ := ht
        have hlt : j < ((h - l : Nat) : Int) := by omega
        have hj := hb.1
        have e2 : l * sz + j.toNat * sz = (l + j.toNat) * sz + 0 := by rw [Nat.add_mul]; rfl
        simp [execOp, ho, hi', hx', hval, Instr.indexAt, asIntOf, underlying, hu, sizeOf, typeInfo, hii, hn, Addr.add_at, hj, hlt, Result.andThen, e2]
      · cases ht
    · rw [hv]; simp only [vblk]; rw [if_neg (by omega)]
theorem step_subAddr {t : TypeId} {x i : Operand} (ho : o.op = .indexAddr t x i) {k cap ety sz l h : Nat} {a : Option Addr} {rows : List (List C)} {j : Int} (hx : evA σ.s x = .d (.one (.lit (sliced a l h cap sz)))) (hi : evA σ.s i = .d (.one (.lit (.int .i64 j)))) (hm : gm σ.m k = some (.buf (some (a, cap)) ety sz rows)) (ht : elemT e.P t = some sz)
    (hb : 0 ≤ j ∧ l + j < h ∧ h ≤ rows.length) (hK : K ⟨setA σ.s o.dst (.row k (l + j.toNat) sz 0), σ.m⟩) : StepOk e o σ K := by
  intro he U w0 S0 nt ac w Q hd ⟨S, L, h1⟩
  exact Oper.wp_mono (fun a' w' hs => ⟨_, hK, hs⟩) (gives_then h1 hd (gives_subAddr ho hx hi hm ht hb))
/-- The same in a place where the order is not fixed. -/
theorem quiet_subAddr {t : TypeId} {x i : Operand} (ho : o.op = .indexAddr t x i) {k cap ety sz l h : Nat} {a : Option Addr} {rows : List (List C)} {j : Int} (hx : evA σ.s x = .d (.one (.lit (sliced a l h cap sz)))) (hi : evA σ.s i = .d (.one (.lit (.int .i64 j)))) (hm : gm σ.m k = some (.buf (some (a, cap)) ety sz rows)) (ht : elemT e.P t = some sz)
    (hb : 0 ≤ j ∧ l + j < h ∧ h ≤ rows.length) (hK : K ⟨setA σ.s o.dst (.row k (l + j.toNat) sz 0), σ.m⟩) : QuietOk e o σ K := fun he => ⟨_, hK, fun U base S0 => gives_subAddr ho hx hi hm ht hb⟩
/-- clear(s[l:]). -/
theorem step_clear {x : Operand} {t : TypeId} (ho : o.op = .call ⟨.builtin .clear, #[x], #[t]⟩) {k cap ety sz by' l : Nat} {a : Option Addr} {rows : List (List C)} {z : List C} (hx : evA σ.s x = .d (.one (.lit (sliced a l rows.length cap sz)))) (hm : gm σ.m k = some (.buf (some (a, cap)) ety sz rows)) (ht : bytesT e.P t = some (ety, sz, by')) (hz : zeroT e.P ety = some z) (hzok : z.all okCell = true) (hl : l < rows.length)
    (hK : K ⟨setA σ.s o.dst (.tup []), (k, .buf (some (a, cap)) ety sz (rows.take l ++ List.replicate (rows.length - l) z)) :: remM k σ.m⟩) : StepOk e o σ K := by
  intro he U w0 S0 nt ac w Q hd ⟨S, L, h1⟩
  have hx' := h1.eval x
  rw [hx] at hx'
  have hx' := lit_val hx'
  obtain ⟨hpl, hs0, _, hbuf⟩ := h1.cls.own k _ hm
  have hv : L.v k = .slice a rows.length cap := hpl (a, cap) rfl
  obtain ⟨i, zv, hu, hi, hzz, hsz, hby, hzs, hs0, hb4⟩ := bytesT_spec ht
  have hzc : z = zv.cells.toList.map toC := by
    unfold zeroT at hz
    simp only [hi, Option.bind_some, hzz, Option.map_some, Option.some.injEq] at hz
    exact hz.symm
  rcases hbuf with ⟨h4, _⟩ | ⟨g, cap', cur, h4, h6, _, _, _, h5, _⟩
  · rw [h4] at hl; simp at hl
  · rw [hv] at h4
    injection h4 with h7 _ h8
    subst h7 h8
    have hlc : ¬ cap = l := by omega
    have hval : sliced (some ⟨g, 0, none⟩) l rows.length cap sz = .slice (some ⟨g, l * sz, none⟩) (rows.length - l) (cap - l) := by
      simp only [sliced, hlc, if_false, Option.map_some, Addr.add_at, Nat.zero_add]
    have hn : rowsLen sz (List.replicate (rows.length - l) z) := fun r hr => by
      rw [List.eq_of_mem_replicate hr]
      exact ⟨by rw [hzc]; simp [hzs], hzok⟩
    have hu' : RepVals w S (List.replicate (rows.length - l) z).flatten ((List.replicate (rows.length - l) zv).flatMap fun v => v.cells.toList) := by rw [hzc]; exact rep_zeros _
    obtain ⟨w', hst, hsim⟩ := h1.storeRows he (l := l) (g := g) hm (by rw [hv]; simp only [vblk]; rw [if_neg (by omega)]) (by simp; omega) hn hu'
    rw [List.length_replicate, show l + (rows.length - l) = rows.length by omega, List.drop_length, List.append_nil] at hsim
    obtain ⟨S', L', hsim⟩ := hsim
    have hzc2 : (Builtin.zeroCells zv.cells (rows.length - l)).toList = (List.replicate (rows.length - l) zv).flatMap fun v => v.cells.toList := by
      have := made_cells zv sz hs0 hzs (rows.length - l)
      rw [← this]
      simp [Builtin.zeroCells, madeCells, hzs]
    have hrun : (execOp ac.eval o).run e.P w = .ok (.value (.tuple #[])) w' := by
      have hne : ¬ (rows.length - l = 0) := by omega
      obtain ⟨q, hq⟩ : ∃ q, rows.length - l = q + 1 := ⟨rows.length - l - 1, by omega⟩
      rw [hq] at hst hzc2
      simp [execOp, ho, resolve, invoke, builtin, Builtin.clear_, hx', hval, hq, underlying, hu, zeroValue, hi, hzz, typeInfo, Result.andThen, hzc2, hst]
    unfold Oper.wp
    rw [hrun, Oper.upon_value]
    refine ⟨_, hK, S', L', hsim.put (α := .tup []) (v := .tuple #[]) ⟨[], rfl, trivial⟩ hd⟩
end
/-- The rows behind the m-th are left. -/
theorem re_cut {a : Option Addr} {cap ety sz : Nat} {rows : List (List C)} (m : Nat) (hm : m ≤ rows.length) : Retold [.buf (some (a, cap)) ety sz rows] [.buf (some (a, cap)) ety sz (rows.take m)] := fun w S h ha => by
  have hl : (rows.take m).length = m := by rw [List.length_take]; omega
  obtain ⟨h0, hrl, hc⟩ : BufRel w S ety sz rows (.slice a rows.length cap) := h (.buf (some (a, cap)) ety sz rows) (by simp)
  have hb : ∀ b, vblk (.slice a m cap) = some b ↔ vblk (.slice a rows.length cap) = some b := fun b => by cases a <;> simp [vblk]
  refine ⟨fun x hx => ?_, apart_1 _, fun g ⟨x, hx, hg⟩ => ?_⟩
  · simp only [List.mem_cons, List.not_mem_nil, or_false] at hx
    subst hx
    show BufRel w S ety sz (rows.take m) (.slice a (rows.take m).length cap)
    rw [hl]
    refine ⟨h0, fun r hr => hrl r (List.mem_of_mem_take hr), ?_⟩
    rcases hc with ⟨h4, p, h5⟩ | ⟨g, cap', cur, h4, h5, h6, h7, h8, h9, h10, h11, h12⟩
    · subst h4
      simp only [List.length_nil, Nat.le_zero_eq] at hm
      subst hm
      exact .inl ⟨by simp, p, by simpa using h5⟩
    · injection h4 with e1 e2 e3
      subst e1 e3
      refine .inr ⟨g, cap, cur, by rw [hl], h5, h6, h7, h8, by rw [hl]; omega, h10, h11, ?_⟩
      have := RepRows.sub hrl h12 0 m
      simpa using this
  · simp only [List.mem_cons, List.not_mem_nil, or_false] at hx
    subst hx
    refine ⟨.buf (some (a, cap)) ety sz rows, by simp, ?_⟩
    simp only [pblk, hl] at hg ⊢
    exact (hb g).1 hg
theorem gSub {e : Env} {K : St → Prop} {ds : List (Option Nat)} {os : List Oper} {d t ty cap ety sz : Nat} {p : String} {ed : Array Edge} {x : Operand} {lo hi : Option Operand} {s : List (Nat × A)} {m : List (Nat × Bk)} {a : Option Addr} {rows : List (List C)} (k l h : Nat) (hb : l ≤ h ∧ h ≤ rows.length) (hK : Runs e ds 0 os ⟨(d, .d (.one (.lit (sliced a l h cap sz)))) :: s, m⟩ K)
    (hx : nrm m (evA s x) = .buf k := by first | (simp only [pz, ↓reduceIte, Nat.reduceEqDiff, Nat.reduceAdd, Nat.reduceSub, Nat.reduceMul, Nat.reduceLeDiff, Nat.reduceBEq, Bool.false_eq_true, decide_true, decide_false, Int.reduceLE, Int.reduceToNat, Int.reduceLT, Int.reduceEq, eq_self, Nat.reduceShiftRight, Nat.reduceAnd, Nat.reduceBneDiff, F]; done) | (simp only [pz, ↓reduceIte, Nat.reduceEqDiff, Nat.reduceAdd, Nat.reduceSub, Nat.reduceMul, Nat.reduceLeDiff, Nat.reduceBEq, Bool.false_eq_true, decide_true, decide_false, Int.reduceLE, Int.reduceToNat, Int.reduceLT, Int.reduceEq, eq_self, Nat.reduceShiftRight, Nat.reduceAnd, Nat.reduceBneDiff, F]; exact rfl)) (hm : gm m k = some (.buf (some (a, cap)) ety sz rows) := by simp only [pz, ↓reduceIte, Nat.reduceEqDiff, Nat.reduceAdd, Nat.reduceSub, Nat.reduceMul, Nat.reduceLeDiff, Nat.reduceBEq, Bool.false_eq_true, decide_true, decide_false, Int.reduceLE, Int.reduceToNat, Int.reduceLT, Int.reduceEq, eq_self, Nat.reduceShiftRight, Nat.reduceAnd, Nat.reduceBneDiff]; exact rfl) (ht : elemT e.P t = some sz := by first | (simp only [pz, ↓reduceIte, Nat.reduceEqDiff, Nat.reduceAdd, Nat.reduceSub, Nat.reduceMul, Nat.reduceLeDiff, Nat.reduceBEq, Bool.false_eq_true, decide_true, decide_false, Int.reduceLE, Int.reduceToNat, Int.reduceLT, Int.reduceEq, eq_self, Nat.reduceShiftRight, Nat.reduceAnd, Nat.reduceBneDiff]; done) | (simp only [pz, ↓reduceIte, Nat.reduceEqDiff, Nat.reduceAdd, Nat.reduceSub, Nat.reduceMul, Nat.reduceLeDiff, Nat.reduceBEq, Bool.false_eq_true, decide_true, decide_false, Int.reduceLE, Int.reduceToNat, Int.reduceLT, Int.reduceEq, eq_self, Nat.reduceShiftRight, Nat.reduceAnd, Nat.reduceBneDiff]; exact rfl))
    (hlo : loA (lo.map (evA s)) = some (l : Int) := by first | (simp only [pz, ↓reduceIte, Nat.reduceEqDiff, Nat.reduceAdd, Nat.reduceSub, Nat.reduceMul, Nat.reduceLeDiff, Nat.reduceBEq, Bool.false_eq_true, decide_true, decide_false, Int.reduceLE, Int.reduceToNat, Int.reduceLT, Int.reduceEq, eq_self, Nat.reduceShiftRight, Nat.reduceAnd, Nat.reduceBneDiff, F]; done) | (simp only [pz, ↓reduceIte, Nat.reduceEqDiff, Nat.reduceAdd, Nat.reduceSub, Nat.reduceMul, Nat.reduceLeDiff, Nat.reduceBEq, Bool.false_eq_true, decide_true, decide_false, Int.reduceLE, Int.reduceToNat, Int.reduceLT, Int.reduceEq, eq_self, Nat.reduceShiftRight, Nat.reduceAnd, Nat.reduceBneDiff, F]; exact rfl)) (hhi : hiA rows.length (hi.map (evA s)) = some (h : Int) := by first | (simp only [pz, ↓reduceIte, Nat.reduceEqDiff, Nat.reduceAdd, Nat.reduceSub, Nat.reduceMul, Nat.reduceLeDiff, Nat.reduceBEq, Bool.false_eq_true, decide_true, decide_false, Int.reduceLE, Int.reduceToNat, Int.reduceLT, Int.reduceEq, eq_self, Nat.reduceShiftRight, Nat.reduceAnd, Nat.reduceBneDiff, F]; done) | (simp only [pz, ↓reduceIte, Nat.reduceEqDiff, Nat.reduceAdd, Nat.reduceSub, Nat.reduceMul, Nat.reduceLeDiff, Nat.reduceBEq, Bool.false_eq_true, decide_true, decide_false, Int.reduceLE, Int.reduceToNat, Int.reduceLT, Int.reduceEq, eq_self, Nat.reduceShiftRight, Nat.reduceAnd, Nat.reduceBneDiff, F]; exact rfl)) : Runs e ds 0 (⟨some d, .slice t x lo hi none, ty, p, ed, none⟩ :: os) ⟨s, m⟩ K := by
  simp only [Runs] at hK ⊢
  exact runsS_step rfl (step_sub (o := ⟨some d, .slice t x lo hi none, ty, p, ed, none⟩) rfl hx hm ht hlo hhi ⟨by omega, by omega, by omega⟩ (by simpa only [Int.toNat_natCast, setA] using hK))
theorem gSubA {e : Env} {K : St → Prop} {ds : List (Option Nat)} {os : List Oper} {d t ty cap ety sz l h : Nat} {p : String} {ed : Array Edge} {x i : Operand} {s : List (Nat × A)} {m : List (Nat × Bk)} {a : Option Addr} {rows : List (List C)} (k j : Nat) (hb : l + j < h ∧ h ≤ rows.length) (hK : Runs e ds 0 os ⟨(d, .row k (l + j) sz 0) :: s, m⟩ K)
    (hx : evA s x = .d (.one (.lit (sliced a l h cap sz))) := by first | (simp only [pz, ↓reduceIte, Nat.reduceEqDiff, Nat.reduceAdd, Nat.reduceSub, Nat.reduceMul, Nat.reduceLeDiff, Nat.reduceBEq, Bool.false_eq_true, decide_true, decide_false, Int.reduceLE, Int.reduceToNat, Int.reduceLT, Int.reduceEq, eq_self, Nat.reduceShiftRight, Nat.reduceAnd, Nat.reduceBneDiff]; done) | (simp only [pz, ↓reduceIte, Nat.reduceEqDiff, Nat.reduceAdd, Nat.reduceSub, Nat.reduceMul, Nat.reduceLeDiff, Nat.reduceBEq, Bool.false_eq_true, decide_true, decide_false, Int.reduceLE, Int.reduceToNat, Int.reduceLT, Int.reduceEq, eq_self, Nat.reduceShiftRight, Nat.reduceAnd, Nat.reduceBneDiff]; exact rfl)) (hi : evA s i = .d (.one (.lit (.int .i64 (j : Int)))) := by first | (simp only [pz, ↓reduceIte, Nat.reduceEqDiff, Nat.reduceAdd, Nat.reduceSub, Nat.reduceMul, Nat.reduceLeDiff, Nat.reduceBEq, Bool.false_eq_true, decide_true, decide_false, Int.reduceLE, Int.reduceToNat, Int.reduceLT, Int.reduceEq, eq_self, Nat.reduceShiftRight, Nat.reduceAnd, Nat.reduceBneDiff, F]; done) | (simp only [pz, ↓reduceIte, Nat.reduceEqDiff, Nat.reduceAdd, Nat.reduceSub, Nat.reduceMul, Nat.reduceLeDiff, Nat.reduceBEq, Bool.false_eq_true, decide_true, decide_false, Int.reduceLE, Int.reduceToNat, Int.reduceLT, Int.reduceEq, eq_self, Nat.reduceShiftRight, Nat.reduceAnd, Nat.reduceBneDiff, F]; exact rfl)) (hm : gm m k = some (.buf (some (a, cap)) ety sz rows) := by simp only [pz, ↓reduceIte, Nat.reduceEqDiff, Nat.reduceAdd, Nat.reduceSub, Nat.reduceMul, Nat.reduceLeDiff, Nat.reduceBEq, Bool.false_eq_true, decide_true, decide_false, Int.reduceLE, Int.reduceToNat, Int.reduceLT, Int.reduceEq, eq_self, Nat.reduceShiftRight, Nat.reduceAnd, Nat.reduceBneDiff]; exact rfl) (ht : elemT e.P t = some sz := by first | (simp only [pz, ↓reduceIte, Nat.reduceEqDiff, Nat.reduceAdd, Nat.reduceSub, Nat.reduceMul, Nat.reduceLeDiff, Nat.reduceBEq, Bool.false_eq_true, decide_true, decide_false, Int.reduceLE, Int.reduceToNat, Int.reduceLT, Int.reduceEq, eq_self, Nat.reduceShiftRight, Nat.reduceAnd, Nat.reduceBneDiff]; done) | (simp only [pz, ↓reduceIte, Nat.reduceEqDiff, Nat.reduceAdd, Nat.reduceSub, Nat.reduceMul, Nat.reduceLeDiff, Nat.reduceBEq, Bool.false_eq_true, decide_true, decide_false, Int.reduceLE, Int.reduceToNat, Int.reduceLT, Int.reduceEq, eq_self, Nat.reduceShiftRight, Nat.reduceAnd, Nat.reduceBneDiff]; exact rfl)) : Runs e ds 0 (⟨some d, .indexAddr t x i, ty, p, ed, none⟩ :: os) ⟨s, m⟩ K := by
  simp only [Runs] at hK ⊢
  exact runsS_step rfl (step_subAddr (o := ⟨some d, .indexAddr t x i, ty, p, ed, none⟩) rfl hx hi hm ht ⟨by omega, by omega, by omega⟩ (by simpa only [Int.toNat_natCast, setA] using hK))
theorem runs_quiet {e : Env} {ds : List (Option Nat)} {K : St → Prop} {n : Nat} {os : List Oper} {o : Oper} {σ : St} (hg : o.guard = none) (hal : isAl o = false) (h : QuietOk e o σ (fun σ' => Runs e ds n os σ' K)) : Runs e ds (n + 1) (o :: os) σ K := by
  simp only [Runs, hg]
  rw [if_neg (by simp [hal])]
  exact h
theorem gSubAq {e : Env} {K : St → Prop} {ds : List (Option Nat)} {os : List Oper} {n d t ty cap ety sz l h : Nat} {p : String} {ed : Array Edge} {x i : Operand} {s : List (Nat × A)} {m : List (Nat × Bk)} {a : Option Addr} {rows : List (List C)} (k j : Nat) (hb : l + j < h ∧ h ≤ rows.length) (hK : Runs e ds n os ⟨(d, .row k (l + j) sz 0) :: s, m⟩ K)
    (hx : evA s x = .d (.one (.lit (sliced a l h cap sz))) := by first | (simp only [pz, ↓reduceIte, Nat.reduceEqDiff, Nat.reduceAdd, Nat.reduceSub, Nat.reduceMul, Nat.reduceLeDiff, Nat.reduceBEq, Bool.false_eq_true, decide_true, decide_false, Int.reduceLE, Int.reduceToNat, Int.reduceLT, Int.reduceEq, eq_self, Nat.reduceShiftRight, Nat.reduceAnd, Nat.reduceBneDiff]; done) | (simp only [pz, ↓reduceIte, Nat.reduceEqDiff, Nat.reduceAdd, Nat.reduceSub, Nat.reduceMul, Nat.reduceLeDiff, Nat.reduceBEq, Bool.false_eq_true, decide_true, decide_false, Int.reduceLE, Int.reduceToNat, Int.reduceLT, Int.reduceEq, eq_self, Nat.reduceShiftRight, Nat.reduceAnd, Nat.reduceBneDiff]; exact rfl)) (hi : evA s i = .d (.one (.lit (.int .i64 (j : Int)))) := by first | (simp only [pz, ↓reduceIte, Nat.reduceEqDiff, Nat.reduceAdd, Nat.reduceSub, Nat.reduceMul, Nat.reduceLeDiff, Nat.reduceBEq, Bool.false_eq_true, decide_true, decide_false, Int.reduceLE, Int.reduceToNat, Int.reduceLT, Int.reduceEq, eq_self, Nat.reduceShiftRight, Nat.reduceAnd, Nat.reduceBneDiff, F]; done) | (simp only [pz, ↓reduceIte, Nat.reduceEqDiff, Nat.reduceAdd, Nat.reduceSub, Nat.reduceMul, Nat.reduceLeDiff, Nat.reduceBEq, Bool.false_eq_true, decide_true, decide_false, Int.reduceLE, Int.reduceToNat, Int.reduceLT, Int.reduceEq, eq_self, Nat.reduceShiftRight, Nat.reduceAnd, Nat.reduceBneDiff, F]; exact rfl)) (hm : gm m k = some (.buf (some (a, cap)) ety sz rows) := by simp only [pz, ↓reduceIte, Nat.reduceEqDiff, Nat.reduceAdd, Nat.reduceSub, Nat.reduceMul, Nat.reduceLeDiff, Nat.reduceBEq, Bool.false_eq_true, decide_true, decide_false, Int.reduceLE, Int.reduceToNat, Int.reduceLT, Int.reduceEq, eq_self, Nat.reduceShiftRight, Nat.reduceAnd, Nat.reduceBneDiff]; exact rfl) (ht : elemT e.P t = some sz := by first | (simp only [pz, ↓reduceIte, Nat.reduceEqDiff, Nat.reduceAdd, Nat.reduceSub, Nat.reduceMul, Nat.reduceLeDiff, Nat.reduceBEq, Bool.false_eq_true, decide_true, decide_false, Int.reduceLE, Int.reduceToNat, Int.reduceLT, Int.reduceEq, eq_self, Nat.reduceShiftRight, Nat.reduceAnd, Nat.reduceBneDiff]; done) | (simp only [pz, ↓reduceIte, Nat.reduceEqDiff, Nat.reduceAdd, Nat.reduceSub, Nat.reduceMul, Nat.reduceLeDiff, Nat.reduceBEq, Bool.false_eq_true, decide_true, decide_false, Int.reduceLE, Int.reduceToNat, Int.reduceLT, Int.reduceEq, eq_self, Nat.reduceShiftRight, Nat.reduceAnd, Nat.reduceBneDiff]; exact rfl)) : Runs e ds (n + 1) (⟨some d, .indexAddr t x i, ty, p, ed, none⟩ :: os) ⟨s, m⟩ K :=
  runs_quiet rfl rfl (quiet_subAddr (o := ⟨some d, .indexAddr t x i, ty, p, ed, none⟩) rfl hx hi hm ht ⟨by omega, by omega, by omega⟩ (by simpa only [Int.toNat_natCast, setA] using hK))
theorem gClear {e : Env} {K : St → Prop} {ds : List (Option Nat)} {os : List Oper} {t ty cap ety sz by' l : Nat} {dd : Option Nat} {p : String} {ed : Array Edge} {x : Operand} {s s' : List (Nat × A)} {m m' : List (Nat × Bk)} {a : Option Addr} {rows : List (List C)} {z : List C} (k : Nat) (hl : l < rows.length) (hK : Runs e ds 0 os ⟨s', (k, .buf (some (a, cap)) ety sz (rows.take l ++ List.replicate (rows.length - l) z)) :: m'⟩ K)
    (hx : evA s x = .d (.one (.lit (sliced a l rows.length cap sz))) := by simp only [pz, ↓reduceIte, Nat.reduceEqDiff, Nat.reduceAdd, Nat.reduceSub, Nat.reduceMul, Nat.reduceLeDiff, Nat.reduceBEq, Bool.false_eq_true, decide_true, decide_false, Int.reduceLE, Int.reduceToNat, Int.reduceLT, Int.reduceEq, eq_self, Nat.reduceShiftRight, Nat.reduceAnd, Nat.reduceBneDiff]; exact rfl) (hm : gm m k = some (.buf (some (a, cap)) ety sz rows) := by simp only [pz, ↓reduceIte, Nat.reduceEqDiff, Nat.reduceAdd, Nat.reduceSub, Nat.reduceMul, Nat.reduceLeDiff, Nat.reduceBEq, Bool.false_eq_true, decide_true, decide_false, Int.reduceLE, Int.reduceToNat, Int.reduceLT, Int.reduceEq, eq_self, Nat.reduceShiftRight, Nat.reduceAnd, Nat.reduceBneDiff]; exact rfl) (ht : bytesT e.P t = some (ety, sz, by') := by first | (simp only [pz, ↓reduceIte, Nat.reduceEqDiff, Nat.reduceAdd, Nat.reduceSub, Nat.reduceMul, Nat.reduceLeDiff, Nat.reduceBEq, Bool.false_eq_true, decide_true, decide_false, Int.reduceLE, Int.reduceToNat, Int.reduceLT, Int.reduceEq, eq_self, Nat.reduceShiftRight, Nat.reduceAnd, Nat.reduceBneDiff]; done) | (simp only [pz, ↓reduceIte, Nat.reduceEqDiff, Nat.reduceAdd, Nat.reduceSub, Nat.reduceMul, Nat.reduceLeDiff, Nat.reduceBEq, Bool.false_eq_true, decide_true, decide_false, Int.reduceLE, Int.reduceToNat, Int.reduceLT, Int.reduceEq, eq_self, Nat.reduceShiftRight, Nat.reduceAnd, Nat.reduceBneDiff]; exact rfl)) (hz : zeroT e.P ety = some z := by first | (simp only [pz, ↓reduceIte, Nat.reduceEqDiff, Nat.reduceAdd, Nat.reduceSub, Nat.reduceMul, Nat.reduceLeDiff, Nat.reduceBEq, Bool.false_eq_true, decide_true, decide_false, Int.reduceLE, Int.reduceToNat, Int.reduceLT, Int.reduceEq, eq_self, Nat.reduceShiftRight, Nat.reduceAnd, Nat.reduceBneDiff]; done) | (simp only [pz, ↓reduceIte, Nat.reduceEqDiff, Nat.reduceAdd, Nat.reduceSub, Nat.reduceMul, Nat.reduceLeDiff, Nat.reduceBEq, Bool.false_eq_true, decide_true, decide_false, Int.reduceLE, Int.reduceToNat, Int.reduceLT, Int.reduceEq, eq_self, Nat.reduceShiftRight, Nat.reduceAnd, Nat.reduceBneDiff]; exact rfl)) (hzok : z.all okCell = true := by first | rfl | simp only [pz, ↓reduceIte, Nat.reduceEqDiff, Nat.reduceAdd, Nat.reduceSub, Nat.reduceMul, Nat.reduceLeDiff, Nat.reduceBEq, Bool.false_eq_true, decide_true, decide_false, Int.reduceLE, Int.reduceToNat, Int.reduceLT, Int.reduceEq, eq_self, Nat.reduceShiftRight, Nat.reduceAnd, Nat.reduceBneDiff])
    (hs : setA s dd (.tup []) = s' := by simp only [setA]; exact rfl) (hr : remM k m = m' := by simp only [pz, ↓reduceIte, Nat.reduceEqDiff, Nat.reduceAdd, Nat.reduceSub, Nat.reduceMul, Nat.reduceLeDiff, Nat.reduceBEq, Bool.false_eq_true, decide_true, decide_false, Int.reduceLE, Int.reduceToNat, Int.reduceLT, Int.reduceEq, eq_self, Nat.reduceShiftRight, Nat.reduceAnd, Nat.reduceBneDiff]; exact rfl) : Runs e ds 0 (⟨dd, .call ⟨.builtin .clear, #[x], #[t]⟩, ty, p, ed, none⟩ :: os) ⟨s, m⟩ K := by
  subst hs hr
  simp only [Runs] at hK ⊢
  exact runsS_step rfl (step_clear (o := ⟨dd, .call ⟨.builtin .clear, #[x], #[t]⟩, ty, p, ed, none⟩) rfl hx hm ht hz hzok hl hK)
end Go.Proofs.YtpbikjkjfojjiaaGreat
namespace Go.Proofs.YtpbikjkjfojjiaaGreat
open Go.RowKit
theorem con_same {e : Env} {f : FuncId} {args : List D} {x : Value} (hb : hasBody e.P f = true) (h : ∀ (w : World) (S : Nat → Prop) (vs : List Value), DsRel w S args vs → Calls e.P f vs.toArray w fun en w' => en = .returned x ∧ w = w') : Con e f args [.one (.lit x)] :=
  ⟨hb, fun w S vs _ _ hG hv => (h w S vs hv).mono fun en w' ⟨h1, h2⟩ => by subst h2; exact ⟨x, h1, Kept.refl .., hG, by simp [retA, ARel, DRel, Rep]⟩⟩
theorem con_when {e : Env} {f : FuncId} {args r : List D} {φ : Prop} (hb : hasBody e.P f = true) (hφ : ∀ (w : World) (S : Nat → Prop) (vs : List Value), DsRel w S args vs → φ) (h : φ → Con e f args r) : Con e f args r :=
  ⟨hb, fun w S vs h1 h2 h3 h4 => (h (hφ w S vs h4)).2 w S vs h1 h2 h3 h4⟩
theorem con_cmpI1 (a b : Int) : Con e1 158 [.one (.lit (.int .i64 a)), .one (.lit (.int .i64 b))] [.one (.lit (.int .i64 (cmpInt a b)))] := by
  refine con_same (by kernel_rfl) fun w S vs h => ?_
  match vs, h with
  | [x, y], h =>
    obtain ⟨hx, hy, _⟩ := h
    have hx : x = .int .i64 a := hx
    have hy : y = .int .i64 b := hy
    subst hx hy
    exact cmpCompare a b w
theorem con_cmpS1 (a b : ByteArray) : Con e1 159 [.one (.lit (.string a)), .one (.lit (.string b))] [.one (.lit (.int .i64 (cmpStr a b)))] := by
  refine con_same (by kernel_rfl) fun w S vs h => ?_
  match vs, h with
  | [x, y], h =>
    obtain ⟨hx, hy, _⟩ := h
    have hx : x = .string a := hx
    have hy : y = .string b := hy
    subst hx hy
    exact stringsCompare a b w
set_option maxHeartbeats 4000000 in
theorem con_cmpOr1 (l : List Int) (hl : l.length ≤ 1048576) : Con e1 157 [.clip (l.map fun n => [.lit (.int .i64 n)])] [.one (.lit (.int .i64 (firstNZ l)))] := by
  have rb : rowsB 1 (l.map fun n => [C.lit (.int .i64 n)]) = true := rowsB_map (e := fun n => [C.lit (.int .i64 n)]) (n := 1) (fun _ => rfl) l
  refine gI (ts := [.slot 2]) 17389 Tryz.func157 ?_
  (have F := @rb; refine gG ?_; clear F)
  (have F := @rb; refine gL (ι := Nat) [2, 5, 8, 9, 14] [] (fun x => [(8, .d (.one (.lit (.int .i64 (x : Int)))))]) (fun x => []) (fun x => x ≤ l.length ∧ firstNZ l = firstNZ (l.drop x)) (fun x => l.length - x) (0) (⟨Nat.zero_le _, rfl⟩) (fun x hx => ?_); clear F)
  obtain ⟨hi, hf⟩ := hx
  rw [hf]
  clear hf
  by_cases hlt : x < l.length
  · obtain ⟨n, hn⟩ : ∃ n, l[x]? = some n := ⟨_, List.getElem?_eq_getElem hlt⟩
    have q1 : ((x : Int) < (l.length : Int)) = True := eq_true (by omega)
    have q4 : IntKind.i64.wrap ((x : Int) + 1) = (x : Int) + 1 := IntWalk.i64_in _ (by omega)
    rw [firstNZ_drop hn]
    by_cases h0 : n = 0
    · subst h0
      rw [if_pos rfl]
      (have F := And.intro @q1 (And.intro @rb @hn); refine gG ?_; clear F)
      (have F := @q4; refine gG ?_; exact ⟨x + 1, ⟨hlt, rfl⟩, gw, gw, by omega⟩)
    · have q2 : (n = 0) = False := eq_false h0
      rw [if_neg h0]
      (have F := And.intro @q1 (And.intro @rb (And.intro @hn @q2)); refine gG ?_; exact gTd)
  · obtain rfl : x = l.length := by omega
    have q1 : ((l.length : Int) < (l.length : Int)) = False := eq_false (by omega)
    rw [List.drop_length]
    simp only [firstNZ]
    (have F := @q1; refine gG ?_; exact gTd)
theorem cmpTms_nilL {b : List Tm} {k : Nat} {xs : List Tm} (h : xs.length ≤ k) : cmpTms (xs.drop k) b = if b = [] then 0 else -1 := by
  rw [List.drop_eq_nil_of_le h]
  cases b with
  | nil => simp [cmpTms]
  | cons x xs => simp [cmpTms]
theorem cmpTms_nilR {a : Tm} {k : Nat} {xs bs : List Tm} (ha : xs[k]? = some a) (h : bs.length ≤ k) : cmpTms (xs.drop k) (bs.drop k) = 1 := by
  obtain ⟨hl, hx⟩ := List.getElem?_eq_some_iff.1 ha
  rw [List.drop_eq_nil_of_le h, List.drop_eq_getElem_cons hl]
  simp [cmpTms]
set_option maxHeartbeats 4000000 in
theorem con_cmpFunc1_of (xs bs : List Tm) (hla : xs.length ≤ maxLen) (hlb : bs.length ≤ maxLen) (h : ∀ a ∈ xs, ∀ b ∈ bs, Con e1 123 [.agg (encTm a), .agg (encTm b)] [.one (.lit (.int .i64 (cmpTm a b)))]) : Con e1 160 [.one (.sl (encTms xs)), .one (.sl (encTms bs)), .one (.fn 123 [])] [.one (.lit (.int .i64 (cmpTms xs bs)))] := by
  unfold maxLen at hla hlb
  refine gI (ts := [.slot 6]) 277027520455 Tryz.func160 ?_
  (have F := @tmz; refine gG ?_; clear F)
  (have F := @tmz; refine gL (ι := Nat) [6, 7, 8, 9, 10, 13, 14, 21, 31] [] (fun x => [(13, .d (.one (.lit (.int .i64 (x : Int)))))]) (fun x => []) (fun x => x ≤ xs.length ∧ x ≤ bs.length ∧ cmpTms xs bs = cmpTms (xs.drop x) (bs.drop x)) (fun x => xs.length - x) (0) (⟨Nat.zero_le _, Nat.zero_le _, rfl⟩) (fun x hx => ?_); clear F)
  obtain ⟨hi, hj, hf⟩ := hx
  rw [hf]
  clear hf
  by_cases hlt : x < xs.length
  · obtain ⟨a, ha⟩ : ∃ n, xs[x]? = some n := ⟨_, List.getElem?_eq_getElem hlt⟩
    have q1 : ((x : Int) < (xs.length : Int)) = True := eq_true (by omega)
    by_cases hlt2 : x < bs.length
    · obtain ⟨b, hb⟩ : ∃ n, bs[x]? = some n := ⟨_, List.getElem?_eq_getElem hlt2⟩
      have q2 : ((x : Int) ≥ (bs.length : Int)) = False := eq_false (by omega)
      have q4 : IntKind.i64.wrap ((x : Int) + 1) = (x : Int) + 1 := IntWalk.i64_in _ (by omega)
      rw [cmpTms_step ha hb]
      simp only [firstNZ]
      (have F := And.intro @q1 (And.intro @q2 (And.intro @tmz (And.intro @ha @hb))); refine gG ?_; clear F)
      refine gB ?_
      (have F := @tmz; refine gC (h a (List.mem_of_getElem? ha) b (List.mem_of_getElem? hb)) ?_; clear F)
      (have F := @tmz; refine gR ?_; clear F)
      by_cases h0 : cmpTm a b = 0
      · have q3 : (cmpTm a b = 0) = True := eq_true h0
        rw [if_pos h0, show (if cmpTms (xs.drop (x + 1)) (bs.drop (x + 1)) = 0 then (0 : Int) else cmpTms (xs.drop (x + 1)) (bs.drop (x + 1))) = cmpTms (xs.drop (x + 1)) (bs.drop (x + 1)) by split <;> simp_all]
        (have F := And.intro @tmz @q3; refine gG ?_; clear F)
        (have F := @q4; refine gG ?_; exact ⟨x + 1, ⟨hlt, hlt2, rfl⟩, gw, gw, by omega⟩)
      · have q3 : (cmpTm a b = 0) = False := eq_false h0
        rw [if_neg h0]
        (have F := And.intro @tmz @q3; refine gG ?_; exact gTd)
    · have q2 : ((x : Int) ≥ (bs.length : Int)) = True := eq_true (by omega)
      rw [cmpTms_nilR ha (by omega)]
      (have F := And.intro @q1 (And.intro @q2 (And.intro @tmz @ha)); refine gG ?_; exact gTd)
  · have q1 : ((x : Int) < (xs.length : Int)) = False := eq_false (by omega)
    rw [cmpTms_nilL (by omega)]
    by_cases h2 : xs.length < bs.length
    · have q2 : ((xs.length : Int) < (bs.length : Int)) = True := eq_true (by omega)
      rw [if_neg (by intro e; have := congrArg List.length e; simp at this; omega)]
      (have F := And.intro @q1 (And.intro @q2 @tmz); refine gG ?_; exact gTd)
    · have q2 : ((xs.length : Int) < (bs.length : Int)) = False := eq_false (by omega)
      rw [if_pos (by apply List.drop_eq_nil_of_le; omega)]
      (have F := And.intro @q1 (And.intro @q2 @tmz); refine gG ?_; exact gTd)
theorem rel_len {w : World} {S : Nat → Prop} {rows : List (List C)} {v : Value} (h : Rep w S (.sl rows) v) : rows.length ≤ maxLen := by
  simp only [Rep] at h
  obtain ⟨A, n, cap, _, h1, h2, h3, _⟩ := h
  omega
theorem con_cmpFunc1 (xs bs : List Tm) (h : ∀ a ∈ xs, ∀ b ∈ bs, Con e1 123 [.agg (encTm a), .agg (encTm b)] [.one (.lit (.int .i64 (cmpTm a b)))]) : Con e1 160 [.one (.sl (encTms xs)), .one (.sl (encTms bs)), .one (.fn 123 [])] [.one (.lit (.int .i64 (cmpTms xs bs)))] := by
  refine con_when (φ := xs.length ≤ maxLen ∧ bs.length ≤ maxLen) (by kernel_rfl) (fun w S vs hv => ?_) fun hφ => con_cmpFunc1_of xs bs hφ.1 hφ.2 h
  match vs, hv with
  | [x, y, z], hv =>
    have h1 := rel_len hv.1
    have h2 := rel_len hv.2.1
    rw [encTms_len] at h1 h2
    exact ⟨h1, h2⟩
set_option maxHeartbeats 4000000 in
theorem con_cmp1_of (a b : Tm) (h : ∀ x ∈ a.args, ∀ y ∈ b.args, Con e1 123 [.agg (encTm x), .agg (encTm y)] [.one (.lit (.int .i64 (cmpTm x y)))]) : Con e1 123 [.agg (encTm a), .agg (encTm b)] [.one (.lit (.int .i64 (cmpTm a b)))] := by
  obtain ⟨o, n, s, xs⟩ := a
  obtain ⟨o', n', s', bs⟩ := b
  simp only [Tm.args] at h
  have c1 : encTm (.mk o n s xs) = [.lit (.int .i64 o), .lit (.string n), .lit (.int .i64 s), .sl (encTms xs)] := by simp only [encTm]
  have c2 : encTm (.mk o' n' s' bs) = [.lit (.int .i64 o'), .lit (.string n'), .lit (.int .i64 s'), .sl (encTms bs)] := by simp only [encTm]
  have e3 : cmpTm (.mk o n s xs) (.mk o' n' s' bs) = if firstNZ [cmpInt o o', cmpStr n n', cmpInt s s'] = 0 then cmpTms xs bs else firstNZ [cmpInt o o', cmpStr n n', cmpInt s s'] := by
    simp only [cmpTm, firstNZ]
    by_cases h1 : cmpInt o o' = 0
    · by_cases h2 : cmpStr n n' = 0
      · by_cases h3 : cmpInt s s' = 0
        · simp only [h1, h2, h3, if_true]
          split <;> simp_all
        · simp only [h1, h2, h3, if_true, if_false]
      · simp only [h1, h2, if_true, if_false]
    · simp only [h1, if_false]
  have hor := con_cmpOr1 [cmpInt o o', cmpStr n n', cmpInt s s'] (by simp)
  simp only [List.map_cons, List.map_nil] at hor
  rw [e3]
  refine gI (ts := [.slot 4]) 16777279 Tryz.func123 ?_
  (have F := And.intro @c1 @c2; refine gG ?_; clear F)
  refine gB ?_
  (have F := And.intro @c1 @c2; refine gC (con_cmpI1 o o') ?_; clear F)
  (have F := And.intro @c1 @c2; refine gC (con_cmpS1 n n') ?_; clear F)
  (have F := And.intro @c1 @c2; refine gC (con_cmpI1 s s') ?_; clear F)
  (have F := And.intro @c1 @c2; refine gC (hor) ?_; clear F)
  (have F := And.intro @c1 @c2; refine gR ?_; clear F)
  by_cases h0 : firstNZ [cmpInt o o', cmpStr n n', cmpInt s s'] = 0
  · have q3 : (firstNZ [cmpInt o o', cmpStr n n', cmpInt s s'] = 0) = True := eq_true h0
    rw [if_pos h0]
    (have F := And.intro @q3 (And.intro @c1 @c2); refine gG ?_; clear F)
    refine gB ?_
    (have F := And.intro @c1 @c2; refine gC (con_cmpFunc1 xs bs h) ?_; clear F)
    (have F := And.intro @c1 @c2; refine gR ?_; clear F)
    (have F := And.intro @c1 @c2; refine gG ?_; exact gTd)
  · have q3 : (firstNZ [cmpInt o o', cmpStr n n', cmpInt s s'] = 0) = False := eq_false h0
    rw [if_neg h0]
    (have F := And.intro @q3 (And.intro @c1 @c2); refine gG ?_; exact gTd)
theorem con_cmp1_n (n : Nat) : ∀ a b : Tm, nodesRow (encTm a) < n → Con e1 123 [.agg (encTm a), .agg (encTm b)] [.one (.lit (.int .i64 (cmpTm a b)))] := by
  induction n with
  | zero => exact fun _ _ h => by omega
  | succ n ih =>
    intro a b hn
    refine con_cmp1_of a b fun x hx y hy => ih x y ?_
    obtain ⟨op, nm, so, args⟩ := a
    simp only [encTm, nodesRow, nodesC] at hn
    simp only [Tm.args] at hx
    obtain ⟨i, hi⟩ := List.getElem?_of_mem hx
    have hi' : (encTms args)[i]? = some (encTm x) := by rw [encTms_get, hi]; rfl
    have h1 := nodes_get hi'
    omega
theorem con_cmp1 (a b : Tm) : Con e1 123 [.agg (encTm a), .agg (encTm b)] [.one (.lit (.int .i64 (cmpTm a b)))] := con_cmp1_n _ a b (Nat.lt_succ_self _)
end Go.Proofs.YtpbikjkjfojjiaaGreat
namespace Go.Proofs.YtpbikjkjfojjiaaGreat
open Go.RowKit
section
variable {e : Env} {U : Nat → Prop} {w0 : World} {S0 : Nat → Prop} {nt : Nat} {ops : Array Oper} {n : Nat} {m : List (Nat × Bk)} {s : List (Nat × A)} {αs : List A} {L : Lay}
theorem wpAny_headT {J : Array Bool → Act → World → (Nat → Prop) → Prop} (he : e.Ok) (hH : headB ops n = true) (hn : n ≤ ops.size) (hs : ∀ i, n ≤ i → i < ops.size → ∀ j, j < n → Region.waitsFor .any ops i j = true)
    (hsz : ∀ (i : Nat) (o : Oper) (d : Nat), i < n → ops[i]? = some o → o.dst = some d → d < nt) (hal : αs.length = n) (hch : Chain e U w0.heap.size S0 m ops.toList (ops.toList.take n) s αs) {Q : Exit → Act → World → Prop} (hgo : GoStep e U w0 S0 nt m ops n s αs L J Q)
    (hsk : ∀ (listed : Array Bool) (a : Act) (w : World) (S : Nat → Prop) (i : Nat) (o : Oper) (d : Nat), J listed a w S → InvA e U w0 S0 nt m ops n s αs L listed a w S → HeadAt ops n i o d → i < n → i ∈ Region.ready .any ops listed → d < nt → o.guard ≠ none → J (listed.setIfInBounds i true) (a.put o.dst undef) w S)
    (hend : ∀ listed a w S, InvA e U w0 S0 nt m ops n s αs L listed a w S → J listed a w S → (∀ i, i < n → listed.getD i false = true) → wpAny e.P .any ops Q (ops.size - n) (headArr ops.size n) a w) :
    ∀ (k : Nat) (listed : Array Bool) (a : Act) (w : World) (S : Nat → Prop), InvA e U w0 S0 nt m ops n s αs L listed a w S → J listed a w S → (List.range n).countP (fun i => !listed.getD i true) = k → wpAny e.P .any ops Q (k + (ops.size - n)) listed a w
  | 0, listed, a, w, S, hI, hJ, hc => by
    have hall : ∀ i, i < n → listed.getD i true = true := fun i hi => by
      have := List.countP_eq_zero.1 hc i (List.mem_range.2 hi)
      simpa using this
    have heq := listed_eq hI.head hn hall
    have hE := hend listed a w S hI hJ (fun i hi => by
      have hl : i < listed.size := by rw [hI.head.size]; omega
      rw [← getD_ftt hl]; exact hall i hi)
    rw [Nat.zero_add, heq]
    exact hE
  | k + 1, listed, a, w, S, hI, hJ, hc => by
    obtain ⟨i0, hi0, hu0⟩ : ∃ i, i < n ∧ listed.getD i true = false := by
      have : 0 < (List.range n).countP (fun i => !listed.getD i true) := by omega
      obtain ⟨i, hi, hp⟩ := List.countP_pos_iff.1 this
      exact ⟨i, List.mem_range.1 hi, by simpa using hp⟩
    rw [show k + 1 + (ops.size - n) = (k + (ops.size - n)) + 1 by omega]
    refine ⟨fun h0 => absurd h0 (first_readyA hH hI.head hi0 hu0), fun i hr => ?_⟩
    obtain ⟨hun, oi, hoi, hall⟩ := mem_ready.1 hr
    have hin : i < n := by
      rcases Nat.lt_or_ge i n with h | h
      · exact h
      · have hns : n < ops.size := Nat.lt_of_le_of_lt h (Array.getElem?_eq_some_iff.1 hoi).1
        obtain ⟨oj, hoj, e1, he1, hb1, hon1⟩ := Region.waitsFor_spec (hs i h (Array.getElem?_eq_some_iff.1 hoi).1 i0 hi0)
        rw [hoi] at hoj
        injection hoj with hoj
        subst hoj
        have h2 := hall e1 he1 hb1
        rw [hon1] at h2
        have h3 : i0 < listed.size := by rw [hI.head.size]; omega
        rw [getD_ftt h3] at hu0
        rw [h2] at hu0
        cases hu0
    obtain ⟨o, d, hA⟩ := headB.get hH hin
    have hoo : oi = o := by have := hA.op; rw [hoi] at this; injection this
    subst hoo
    have hls : i < listed.size := by rw [hI.head.size]; exact (Array.getElem?_eq_some_iff.1 hoi).1
    obtain ⟨α, hα, hst⟩ := hch.get i oi (by rw [List.getElem?_take, if_pos hin]; simpa using hoi)
    have htk : (ops.toList.take n).take i = ops.toList.take i := by rw [List.take_take, Nat.min_eq_left (by omega)]
    rw [htk] at hst
    have hdn := hsz i oi d hin hoi hA.dst
    have hcount : (List.range n).countP (fun j => !(listed.setIfInBounds i true).getD j true) = k := by
      have h1 : (List.range n).countP (fun j => !(listed.setIfInBounds i true).getD j true) + 1 = (List.range n).countP (fun j => !listed.getD j true) := by
        have hperm := List.perm_cons_erase (List.mem_range.2 hin)
        rw [hperm.countP_eq, hperm.countP_eq, List.countP_cons, List.countP_cons]
        have hcong : ((List.range n).erase i).countP (fun j => !(listed.setIfInBounds i true).getD j true) = ((List.range n).erase i).countP (fun j => !listed.getD j true) := by
          refine List.countP_congr fun j hj => ?_
          have hne : j ≠ i := fun e => by
            subst e
            exact List.Nodup.not_mem_erase (List.nodup_range) hj
          rw [getD_set_ne true (Ne.symm hne)]
        rw [hcong, hun]
        simp [hls]
      omega
    have hop : ∀ x ∈ oi.op.operands, ARel w S L (evA (after s (ops.toList.take i) (αs.take i)) x) (a.eval x) := fun x hx => by
      cases x with
      | tmp t =>
        exact hI.operand hH hn hal hA hin hall (fun j p hj hp hpt => (hA.dep j p hj hp).2 t (List.mem_filterMap.2 ⟨.tmp t, by simpa using hx, rfl⟩) hpt)
      | const v =>
        simp only [evA, Act.eval]
        unfold constA
        split
        · simp only [ARel, DRel, Rep]
          exact ⟨⟨none, 0, 0, rfl, rfl, Nat.le_refl _, by decide, fun h => absurd h (by decide)⟩, none, 0, rfl⟩
        · rename_i vs; exact ⟨vs.toList, rfl, RepVals_zero _⟩
        · simp [ARel, DRel, Rep]
      | func f =>
        simp only [evA, Act.eval, ARel, DRel, Rep]
        exact ⟨[], rfl, by simp [RepVals]⟩
      | global g => trivial
    have go : GivesA e U w0.heap.size S0 m oi (evA (after s (ops.toList.take i) (αs.take i))) α → oi.wp e.P a w (wpAny e.P .any ops Q (k + (ops.size - n)) (listed.setIfInBounds i true)) Q := fun hG =>
      Oper.wp_mono (fun a' w' ⟨S', hI', hJ'⟩ => wpAny_headT he hH hn hs hsz hal hch hgo hsk hend k _ _ _ S' hI' hJ' hcount) (hgo listed a w S i oi d α hI hJ hA hin hr hdn hα hop hG)
    unfold wpOp
    simp only [hoi]
    unfold StepA at hst
    cases hg : oi.guard with
    | none =>
      rw [hg] at hst
      have hwt : Region.wanted oi (yielded ops a.tmps) = true := by simp [Region.wanted, hg]
      rw [if_pos hwt]
      exact .inl (go hst)
    | some jw =>
      obtain ⟨j, want⟩ := jw
      rw [hg] at hst
      obtain ⟨hjn, hjw⟩ := hA.guard j want hg
      have hrelD : ∀ dj, ((ops[j]?).bind (·.dst)) = some dj → ARel w S L (gs (after s (ops.toList.take i) (αs.take i)) dj) (a.tmps.getD dj undef) := fun dj hdj => hI.operand hH hn hal hA hin hall (t := dj) (fun j' p hj' hp hpt => by
        obtain ⟨p0, d0, hP0⟩ := headB.get hH hjn
        have hd0 : d0 = dj := by have := hdj; rw [hP0.op] at this; simp [hP0.dst] at this; exact this
        by_cases hjj : j' = j
        · rw [hjj]; exact hjw
        · exact absurd (by rw [hpt, hd0]) ((hP0.dep j' p hj' hp).1 hjj))
      rcases hst with ⟨b, hb1, hb2⟩ | ⟨hb1, hb2⟩
      rotate_left
      · simp only [Option.map_eq_some_iff] at hb1
        obtain ⟨dj, hd1, hd2⟩ := hb1
        have hdj : ((ops[j]?).bind (·.dst)) = some dj := by simpa using join_bind hd1
        have hrel := hrelD dj hdj
        rw [hd2] at hrel
        rw [wanted_no hg hdj hrel]
        subst hb2
        simp only [Bool.false_eq_true, if_false]
        exact wpAny_headT he hH hn hs hsz hal hch hgo hsk hend k _ _ _ S (hI.put hH hA hin hr hdn hα (fun _ h => h) hI.cls (Kept.refl _ _ _ _) rfl) (hsk listed a w S i oi d hJ hI hA hin hr hdn (by rw [hg]; simp)) hcount
      simp only [Option.map_eq_some_iff] at hb1
      obtain ⟨dj, hd1, hd2⟩ := hb1
      have hdj : ((ops[j]?).bind (·.dst)) = some dj := by simpa using join_bind hd1
      have hrel := hrelD dj hdj
      rw [hd2] at hrel
      have h4 := getD_bool hrel.bool
      have hwt : Region.wanted oi (yielded ops a.tmps) = decide (b = want) := by
        have h6 : yielded ops a.tmps j = some b := by unfold yielded; rw [hdj]; simp only [Option.bind_some, h4]
        simp only [Region.wanted, hg, h6]
        cases b <;> cases want <;> rfl
      rw [hwt]
      by_cases hbw : b = want
      · rw [if_pos hbw] at hb2
        simp only [hbw, decide_true, if_true]
        exact .inl (go hb2)
      · rw [if_neg hbw] at hb2
        subst hb2
        simp only [hbw, decide_false, Bool.false_eq_true, if_false]
        exact wpAny_headT he hH hn hs hsz hal hch hgo hsk hend k _ _ _ S (hI.put hH hA hin hr hdn hα (fun _ h => h) hI.cls (Kept.refl _ _ _ _) rfl) (hsk listed a w S i oi d hJ hI hA hin hr hdn (by rw [hg]; simp)) hcount
theorem simAfter {σ : St} (hH : headB ops n = true) (hn : n ≤ ops.size) (hal : αs.length = n) {listed : Array Bool} {a' : Act} {w' : World} {S' : Nat → Prop} (hI : InvA e U w0 S0 nt σ.m ops n σ.s αs L listed a' w' S') (hall : ∀ i, i < n → listed.getD i false = true) : Sim e U w0 S0 nt ⟨after σ.s (ops.toList.take n) αs, σ.m⟩ a' w' S' L := by
  refine ⟨hI.cls, fun t => ?_, hI.size, hI.defers, hI.kept⟩
  by_cases hex : ∃ (j : Nat) (p : Oper), j < n ∧ ops[j]? = some p ∧ p.dst = some t
  · obtain ⟨j, p, hj, hp, hpt⟩ := hex
    obtain ⟨p', d', hP⟩ := headB.get hH hj
    have hpp : p' = p := by have := hP.op; rw [hp] at this; injection this with this; exact this.symm
    subst hpp
    have hdt : d' = t := by have := hP.dst; rw [hpt] at this; injection this with this; exact this.symm
    subst hdt
    obtain ⟨α, hα⟩ : ∃ α, αs[j]? = some α := ⟨αs[j], List.getElem?_eq_getElem (by omega)⟩
    show ARel w' S' L (gs (after σ.s (ops.toList.take n) αs) d') _
    rw [gs_after_in (ops.toList.take n) αs σ.s j p' α (by rw [List.getElem?_take, if_pos hj]; simpa using hp) hα hpt (fun k q hk hq => by
      rw [List.getElem?_take] at hq
      split at hq
      · exact (hP.dep k q (by omega) (by simpa using hq)).1 hk
      · cases hq)]
    exact hI.done j p' d' α hj (hall j hj) hp hpt hα
  · have hno : ∀ (j : Nat) (p : Oper), j < n → ops[j]? = some p → p.dst ≠ some t := fun j p hj hp hd => hex ⟨j, p, hj, hp, hd⟩
    show ARel w' S' L (gs (after σ.s (ops.toList.take n) αs) t) _
    rw [gs_after_out _ _ _ (fun p hp => by
      obtain ⟨j, hj⟩ := List.mem_iff_getElem?.1 hp
      rw [List.getElem?_take] at hj
      split at hj
      · exact hno j p (by omega) (by simpa using hj)
      · cases hj)]
    exact hI.out t hno
end
/-- What follows the head, in whatever order. -/
def RunsT (e : Env) (ds : List (Option Nat)) (ops : Array Oper) (K : St → Prop) : Nat → Array Bool → St → Prop
  | 0, listed, σ => Region.ready .any ops listed = [] ∧ K σ
  | f + 1, listed, σ => (Region.ready .any ops listed = [] → K σ) ∧ ∀ i ∈ Region.ready .any ops listed, ∃ o, ops[i]? = some o ∧ o.guard = none ∧ StepOk e o σ (fun σ' => Runs e ds 0 [] σ' (RunsT e ds ops K f (listed.setIfInBounds i true)))
section
variable {e : Env} {U : Nat → Prop} {w0 : World} {S0 : Nat → Prop} {nt : Nat}
theorem RunsT_wp (he : e.Ok) {ops : Array Oper} {K : St → Prop} {Q : Exit → Act → World → Prop} (hQ : ∀ a w σ', K σ' → SimE e U w0 S0 nt σ' a w → Q .normal a w) (hd : ∀ o ∈ ops.toList, ∀ d, o.dst = some d → d < nt) :
    ∀ (f : Nat) (listed : Array Bool) (σ : St) (a : Act) (w : World), SimE e U w0 S0 nt σ a w → RunsT e (ops.toList.map (·.dst)) ops K f listed σ → wpAny e.P .any ops Q f listed a w
  | 0, listed, σ, a, w, hs, h => ⟨h.1, hQ a w σ h.2 hs⟩
  | f + 1, listed, σ, a, w, hs, h => by
    refine ⟨fun h0 => hQ a w σ (h.1 h0) hs, fun i hi => ?_⟩
    obtain ⟨o, ho, hg, hst⟩ := h.2 i hi
    unfold wpOp
    simp only [ho]
    have hw : Region.wanted o (yielded ops a.tmps) = true := by simp [Region.wanted, hg]
    rw [if_pos hw]
    have hmem : o ∈ ops.toList := List.mem_of_getElem? (by simpa using ho)
    refine .inl (Oper.wp_mono (fun a' w' ⟨σ', hr, hs'⟩ => ?_) (hst he U w0 S0 nt a w Q (hd o hmem) hs))
    exact hr he U w0 S0 nt a' w' ops.toList (fun _ a w => wpAny e.P .any ops Q f (listed.setIfInBounds i true) a w) rfl (fun o ho => by simp at ho) (fun a w σ'' hK hs'' => RunsT_wp he hQ hd f _ σ'' a w hs'' hK) hs'
/-- All that follows the first n waits for them. -/
def tailB (ops : Array Oper) (n : Nat) : Bool := (List.range ops.size).all fun i => decide (i < n) || (List.range n).all fun j => Region.waitsFor .any ops i j
def regT (ops : Array Oper) (n : Nat) : Bool := headB ops n && decide (n ≤ ops.size) && tailB ops n
theorem region_T (he : e.Ok) {id : Nat} {ops : Array Oper} {n : Nat} (hB : regT ops n = true) {K : St → Prop} {Q : Exit → Act → World → Prop} (hQ : ∀ a w σ', K σ' → SimE e U w0 S0 nt σ' a w → Q .normal a w) {σ : St} {a : Act} {w : World}
    (hd : ∀ o ∈ ops.toList, ∀ d, o.dst = some d → d < nt) (h : SimE e U w0 S0 nt σ a w) (hp : Runs e (ops.toList.map (·.dst)) (n + 1) (ops.toList.take n) σ (RunsT e (ops.toList.map (·.dst)) ops K (ops.size - n) (headArr ops.size n))) : (Code.region id ops true).wp e.P Q a w := by
  simp only [regT, Bool.and_eq_true, decide_eq_true_eq] at hB
  obtain ⟨⟨hH, hn⟩, hs0⟩ := hB
  have hs : ∀ i, n ≤ i → i < ops.size → ∀ j, j < n → Region.waitsFor .any ops i j = true := fun i h1 h2 j h3 => by
    have k1 := List.all_eq_true.1 hs0 i (List.mem_range.2 h2)
    simp only [Bool.or_eq_true, decide_eq_true_eq] at k1
    rcases k1 with k1 | k1
    · omega
    · exact List.all_eq_true.1 k1 j (List.mem_range.2 h3)
  obtain ⟨S, L, h1⟩ := h.drew he
  refine wp_region_any he.mixed ?_
  have hlen : (ops.toList.take n).length = n := by simp; omega
  have hp' : Runs e (ops.toList.map (·.dst)) ((ops.toList.take n).length + 1) (ops.toList.take n ++ []) σ (RunsT e (ops.toList.map (·.dst)) ops K (ops.size - n) (headArr ops.size n)) := by rw [List.append_nil, hlen]; exact hp
  obtain ⟨αs, hal, hch, hrest⟩ := runs_chain (U := U) he w0.heap.size S0 ops.toList [] 1 (ops.toList.take n) σ (fun h => absurd h (by decide)) hp'
  rw [hlen] at hal
  simp only [Runs] at hrest
  have inv0 : InvA e U w0 S0 nt σ.m ops n σ.s αs L (Array.replicate ops.size false) a { w with drawn := w.drawn + 1 } S :=
    ⟨⟨by simp, fun j oj _ hl => (by rw [getD_replicate_false] at hl; cases hl), fun t _ ht => getD_in (by simpa using ht) (getD_replicate_false _ _)⟩, h1.size, h1.defers, h1.cls, h1.kept, fun t _ => h1.rel t, fun i o d α _ hl => (by rw [getD_replicate_false] at hl; cases hl)⟩
  have H := wpAny_headT (e := e) (L := L) (Q := Q) he hH hn hs (fun i o d hi ho hdd => hd o (List.mem_iff_getElem?.2 ⟨i, by simpa using ho⟩) d hdd) hal hch (goStep_true hH Q) (fun _ _ _ _ _ _ _ _ _ _ _ _ _ _ => trivial) (fun listed a' w' S' hI _ hall => ?_) n _ a _ S inv0 trivial ?_
  · rw [show n + (ops.size - n) = ops.size by omega] at H
    exact H
  · exact RunsT_wp he hQ hd _ _ _ a' w' ⟨S', L, simAfter hH hn hal hI hall⟩ hrest
  · rw [List.countP_eq_length.2]
    · simp
    · intro i hi
      have hi' := List.mem_range.1 hi
      have hsz : i < (Array.replicate ops.size false).size := by simp; omega
      rw [getD_ftt hsz, getD_replicate_false]
      rfl
end
/-! Something is appended to a slice without room, among operations whose order is not fixed. -/
section
variable {e : Env} {U : Nat → Prop} {w0 : World} {S0 : Nat → Prop} {nt : Nat}
/-- An operation that appends to a slice without room. -/
structure AppAt (P : Program) (σ : St) (o : Oper) (d ety sz : Nat) (rows : List (List C)) : Prop where
  at' : ∃ (x y : Operand) (args : Array Operand) (ts : Array TypeId) (t by' : Nat) (r1 ys : List (List C)), o.op = .call ⟨.builtin .append, args, ts⟩ ∧ args.toList = [x, y] ∧ evA σ.s x = .d (.clip r1) ∧ slA [] (evA σ.s y) = some ys ∧ ts[0]? = some t ∧ ts[1]? = some t ∧ bytesT P t = some (ety, sz, by') ∧
    rowsB sz r1 = true ∧ rowsB sz ys = true ∧ r1.length + ys.length ≤ maxApp ∧ (r1 = [] ∨ ys ≠ []) ∧ rows = r1 ++ ys
  dst : o.dst = some d
  guard : o.guard = none
theorem slA_data {m : List (Nat × Bk)} {y : A} {ys : List (List C)} (h : slA [] y = some ys) : slA m y = some ys := by
  unfold slA at h ⊢
  split at h <;> simp_all [gm, bufA]
theorem AppAt.run (he : e.Ok) {σ : St} {o : Oper} {d ety sz : Nat} {rows : List (List C)} (hA : AppAt e.P σ o d ety sz rows) {m : List (Nat × Bk)} {w : World} {S : Nat → Prop} {L : Lay} {ρv : Operand → Value} (hC : Cls e U w0.heap.size S0 m w S L) (hr : ∀ x, x ∈ o.op.operands → ARel w S L (evA σ.s x) (ρv x)) :
    ∃ v' w', (execOp ρv o).run e.P w = .ok (.value v') w' ∧ BufRel w' S ety sz rows v' ∧ Kept e.D (fun _ => False) w.heap.size w w' ∧ ∀ g, vblk v' = some g → w.heap.size ≤ g := by
  obtain ⟨x, y, args, ts, t, by', r1, ys, ho, hargs, hx, hy, h0, h1, hb, hr1, hys, hle, hne, rfl⟩ := hA.at'
  have hx' := hr x (by rw [ho]; simp [Op.operands, Call.operands, hargs, ← Array.mem_toList_iff])
  have hy' := hr y (by rw [ho]; simp [Op.operands, Call.operands, hargs, ← Array.mem_toList_iff])
  rw [hx] at hx'
  have hx' : DRel w S (.clip r1) (ρv x) := hx'
  have hyl := rowsB_iff.1 hys
  have hyf := slA_first (σ := ⟨[], m⟩) hC (slA_data hy) hy' hyl
  obtain ⟨v', w', hrun, hbuf, τ, hk, hτ, hg⟩ := append_own (σ := ⟨[], m⟩) (ty := o.type) he hC h0 h1 hb (.inr ⟨hx', hne⟩) (rowsB_iff.1 hr1) hyl hle hyf
  have hτn : ∀ g, τ ≠ some g := fun g e1 => by
    obtain ⟨h2, h3⟩ := hτ g e1
    obtain ⟨h4, a, n, h5⟩ := hx'
    rw [h5] at h2 h3 h4
    simp only [Rep] at h4
    obtain ⟨A, n', cap, h6, h7, _, _, h8⟩ := h4
    injection h6 with h6 h9 h10
    subst h6 h9
    cases a with
    | none => simp [vblk] at h2
    | some q =>
      simp only [vblk] at h2
      split at h2
      · cases h2
      · rename_i hn0
        injection h2 with h2
        obtain ⟨b, off, h11, hS, _⟩ := h8 (by omega)
        injection h11 with h11
        obtain ⟨_, _, h12⟩ := h3
        rcases h12 with ⟨h12, _⟩ | ⟨g', cap', cur, h13, _, _, h14, _⟩
        · rw [h12] at h7; simp at h7; omega
        · injection h13 with h13 _ _
          injection h13 with h13
          rw [h13] at h11
          injection h11 with h11
          exact h14 (h11 ▸ hS)
  refine ⟨v', w', ?_, hbuf, ⟨hk.os, hk.tape, hk.output, hk.drawn, hk.size, fun k hk' hn => hk.block k hk' (fun e1 => hτn k e1)⟩, fun g hg' => ?_⟩
  · have ha : args.map ρv = #[ρv x, ρv y] := by apply Array.toList_inj.1; simp [hargs]
    simp [execOp, ho, resolve, invoke, builtin, ha, hrun, Result.andThen]
  · rcases hg g hg' with e1 | e1
    · exact (hτn g e1).elim
    · exact e1
theorem AppAt.gives (he : e.Ok) {σ : St} {o : Oper} {d ety sz : Nat} {rows : List (List C)} (hA : AppAt e.P σ o d ety sz rows) {m : List (Nat × Bk)} : GivesA e U w0.heap.size S0 m o (evA σ.s) .undef := by
  intro w S L ρv hC hr
  obtain ⟨v', w', h1, _, h3, _⟩ := hA.run he hC hr
  have hk : Kept e.D e.E w.heap.size w w' := ⟨h3.os, h3.tape, h3.output, h3.drawn, h3.size, fun k hk hn => h3.block k hk id⟩
  unfold Go.Proofs.YtpbikjkjfojjiaaGreat.gives
  rw [h1]
  exact ⟨S, ⟨fun _ h => h, fun _ h => .inl h⟩, hC.later hk (he.keep _ _ h3.size (fun b hE => h3.block b (Nat.lt_of_lt_of_le (hC.ein b hE) hC.bsz) id) hC.g) (fun _ h => h) (fun _ h => .inl h), hk, trivial⟩
/-- What is known of the slice that the operation p of the head has made. -/
def BornA (base p d ety sz : Nat) (rows : List (List C)) (m : List (Nat × Bk)) (L : Lay) (listed : Array Bool) (a : Act) (w : World) (S : Nat → Prop) : Prop :=
  listed.getD p false = true → (∀ g, vblk (a.tmps.getD d undef) = some g → base ≤ g ∧ g < w.heap.size ∧ ¬ S g ∧ ∀ k bk, gm m k = some bk → ¬ blkOf L k bk g) ∧ BufRel w S ety sz rows (a.tmps.getD d undef)
theorem chain_app {m : List (Nat × Bk)} {base : Nat} {l : List Oper} : ∀ (xs ys : List Oper) (s : List (Nat × A)) (us bs : List A), us.length = xs.length → Chain e U base S0 m l xs s us → Chain e U base S0 m l ys (after s xs us) bs → Chain e U base S0 m l (xs ++ ys) s (us ++ bs)
  | [], ys, s, [], bs, _, _, h2 => h2
  | x :: xs, ys, s, a :: us, bs, hl, h1, h2 => ⟨h1.1, chain_app xs ys _ us bs (by simpa using hl) h1.2 h2⟩
  | [], _, _, _ :: _, _, hl, _, _ => by simp at hl
  | _ :: _, _, _, [], _, hl, _, _ => by simp at hl
theorem after_app : ∀ (xs ys : List Oper) (s : List (Nat × A)) (us bs : List A), us.length = xs.length → after s (xs ++ ys) (us ++ bs) = after (after s xs us) ys bs
  | [], ys, s, [], bs, _ => rfl
  | x :: xs, ys, s, a :: us, bs, hl => after_app xs ys _ us bs (by simpa using hl)
  | [], _, _, _ :: _, _, hl => by simp at hl
  | _ :: _, _, _, [], _, hl => by simp at hl
theorem runs_chain1 (he : e.Ok) (base : Nat) (S0 : Nat → Prop) (l : List Oper) {K : St → Prop} {k : Nat} {os : List Oper} {σ : St} (hk : k = os.length + 1) (h : Runs e (l.map (·.dst)) k os σ K) : ∃ αs, αs.length = os.length ∧ Chain e U base S0 σ.m l os σ.s αs ∧ K ⟨after σ.s os αs, σ.m⟩ := by
  subst hk
  have h' : Runs e (l.map (·.dst)) (os.length + 1) (os ++ []) σ K := by rw [List.append_nil]; exact h
  obtain ⟨αs, h1, h2, h3⟩ := runs_chain (U := U) he base S0 l [] 1 os σ (fun h => absurd h (by decide)) h'
  simp only [Runs] at h3
  exact ⟨αs, h1, h2, h3⟩
set_option maxHeartbeats 2000000 in
theorem region_A (he : e.Ok) {id : Nat} {ops : Array Oper} {n p d ety sz : Nat} {rows : List (List C)} {o0 : Oper} (hop : ops[p]? = some o0) (hpn : p < n) (hB : regB ops n = true) {K : St → Prop} {Q : Exit → Act → World → Prop} (hQ : ∀ a w σ', K σ' → SimE e U w0 S0 nt σ' a w → Q .normal a w) {σ : St} {a : Act} {w : World}
    (hd : ∀ o ∈ ops.toList, ∀ d, o.dst = some d → d < nt) (h : SimE e U w0 S0 nt σ a w)
    (hp : Runs e (ops.toList.map (·.dst)) (p + 1) (ops.toList.take p) σ (fun σ1 => AppAt e.P σ1 o0 d ety sz rows ∧ Runs e (ops.toList.map (·.dst)) (n - p) ((ops.toList.take n).drop (p + 1)) ⟨(d, .undef) :: σ1.s, σ1.m⟩ (fun σ2 => Runs e (ops.toList.map (·.dst)) 0 (ops.toList.drop n) ⟨(d, .buf d) :: killK d σ2.s, (d, .buf none ety sz rows) :: remM d σ2.m⟩ K))) : (Code.region id ops true).wp e.P Q a w := by
  simp only [regB, Bool.and_eq_true, Bool.or_eq_true, decide_eq_true_eq] at hB
  obtain ⟨⟨⟨hH, hn⟩, hs⟩, hsq⟩ := hB
  obtain ⟨S, L, h1⟩ := h.drew he
  refine wp_region_any he.mixed ?_
  have hlen : (ops.toList.take p).length = p := by simp; omega
  have hlen2 : ((ops.toList.take n).drop (p + 1)).length = n - p - 1 := by simp; omega
  obtain ⟨αs0, hal0, hch0, hrest0⟩ := runs_chain1 (U := U) he w0.heap.size S0 ops.toList (by rw [hlen]) hp
  rw [hlen] at hal0
  obtain ⟨hApp, hrest1⟩ := hrest0
  obtain ⟨αs1, hal1, hch1, hrest2⟩ := runs_chain1 (U := U) he w0.heap.size S0 ops.toList (by rw [hlen2]; omega) hrest1
  rw [hlen2] at hal1
  have hpl : ops.toList[p]? = some o0 := by simpa using hop
  have htake : ops.toList.take n = ops.toList.take p ++ (o0 :: (ops.toList.take n).drop (p + 1)) := by
    have e1 : (ops.toList.take n)[p]? = some o0 := by rw [List.getElem?_take, if_pos hpn]; exact hpl
    have e2 : (ops.toList.take n).drop p = o0 :: (ops.toList.take n).drop (p + 1) := by
      rw [List.drop_eq_getElem_cons (List.getElem?_eq_some_iff.1 e1).1, (List.getElem?_eq_some_iff.1 e1).2]
    have e3 : (ops.toList.take n).take p = ops.toList.take p := by rw [List.take_take, Nat.min_eq_left (by omega)]
    rw [← e2, ← e3, List.take_append_drop]
  have hal : (αs0 ++ (A.undef :: αs1)).length = n := by simp [hal0, hal1]; omega
  have hset : setA (after σ.s (ops.toList.take p) αs0) o0.dst A.undef = (d, A.undef) :: after σ.s (ops.toList.take p) αs0 := by rw [hApp.dst]; rfl
  have hch : Chain e U w0.heap.size S0 σ.m ops.toList (ops.toList.take n) σ.s (αs0 ++ (A.undef :: αs1)) := by
    rw [htake]
    refine chain_app _ _ _ _ _ (by rw [hal0, hlen]) hch0 ⟨?_, ?_⟩
    · unfold StepA
      rw [hApp.guard]
      exact hApp.gives he
    · rw [hset]; exact hch1
  have haf : after σ.s (ops.toList.take n) (αs0 ++ (A.undef :: αs1)) = after ((d, A.undef) :: after σ.s (ops.toList.take p) αs0) ((ops.toList.take n).drop (p + 1)) αs1 := by
    conv => lhs; rw [htake]
    rw [after_app _ _ _ _ _ (by rw [hal0, hlen])]
    simp only [after, hset]
  have inv0 : InvA e U w0 S0 nt σ.m ops n σ.s (αs0 ++ (A.undef :: αs1)) L (Array.replicate ops.size false) a { w with drawn := w.drawn + 1 } S :=
    ⟨⟨by simp, fun j oj _ hl => (by rw [getD_replicate_false] at hl; cases hl), fun t _ ht => getD_in (by simpa using ht) (getD_replicate_false _ _)⟩, h1.size, h1.defers, h1.cls, h1.kept, fun t _ => h1.rel t, fun i o d α _ hl => (by rw [getD_replicate_false] at hl; cases hl)⟩
  have hJ0 : BornA w0.heap.size p d ety sz rows σ.m L (Array.replicate ops.size false) a { w with drawn := w.drawn + 1 } S := fun hl => by rw [getD_replicate_false] at hl; cases hl
  have hA0 : ∀ {i' : Nat} {o' : Oper} {d' : Nat}, HeadAt ops n i' o' d' → i' ≠ p → d' ≠ d := fun hA hne e' => by
    have := (hA.dep p _ hpn hop).1 (Ne.symm hne)
    exact this (by rw [hApp.dst, e'])
  have hgo : GoStep e U w0 S0 nt σ.m ops n σ.s (αs0 ++ (A.undef :: αs1)) L (BornA w0.heap.size p d ety sz rows σ.m L) Q := by
    intro listed a w S i' o' d' α hI hJ hA hin hr hdn hα hopd hG'
    by_cases hip : i' = p
    · subst hip
      have ho' : o' = o0 := by have := hA.op; rw [hop] at this; injection this with this; exact this.symm
      subst ho'
      have hdd : d' = d := by have := hA.dst; rw [hApp.dst] at this; injection this with this; exact this.symm
      subst hdd
      have hau : α = A.undef := by rw [List.getElem?_append_right (by omega), hal0] at hα; simpa using hα.symm
      subst hau
      have hC := hI.cls
      have htk : (αs0 ++ (A.undef :: αs1)).take i' = αs0 := by rw [← hal0]; exact List.take_left
      rw [htk] at hopd
      obtain ⟨v', w', q1, q2, q3, q4⟩ := hApp.run he hC hopd
      have hk : Kept e.D e.E w.heap.size w w' := ⟨q3.os, q3.tape, q3.output, q3.drawn, q3.size, fun k hk hn => q3.block k hk (fun h => h)⟩
      have hC' : Cls e U w0.heap.size S0 σ.m w' S L := hC.later hk (he.keep _ _ q3.size (fun b hE => q3.block b (Nat.lt_of_lt_of_le (hC.ein b hE) hC.bsz) (fun h => h)) hC.g) (fun _ h => h) (fun _ h => .inl h)
      unfold Oper.wp
      rw [q1, Oper.upon_value]
      have hput : (a.put o'.dst v').tmps.getD d' undef = v' := by
        rw [hA.dst, getD_put (by rw [hI.size]; exact hdn)]
        simp
      refine ⟨S, hI.put hH hA hin hr hdn hα (fun _ h => h) hC' hk trivial, fun _ => ?_⟩
      rw [hput]
      refine ⟨fun g hg => ?_, q2⟩
      have hge := q4 g hg
      refine ⟨Nat.le_trans hC.bsz hge, ?_, fun hs => by have := (hC.sin _ hs).1; omega, fun k bk hk hg => by have := hC.blk_lt hk hg; omega⟩
      exact (Own1.lt (L := ⟨fun _ => 0, fun _ => v'⟩) (k := 0) (bk := .buf none ety sz rows) ⟨by simp, q2⟩ hg).1
    · refine gives_wp (hG' w S L a.eval hI.cls hopd) fun v' w' ⟨S', hS, hC, hk, hv'⟩ => ⟨S', hI.put hH hA hin hr hdn hα hS.1 hC hk hv', fun hl => ?_⟩
      rw [getD_set_ne false hip] at hl
      obtain ⟨q1, q2⟩ := hJ hl
      have hput : (a.put o'.dst v').tmps.getD d undef = a.tmps.getD d undef := by
        rw [hA.dst, getD_put (by rw [hI.size]; exact hdn), if_neg (Ne.symm (hA0 hA hip))]
      rw [hput]
      have hnS : ∀ g, vblk (a.tmps.getD d undef) = some g → ¬ S' g := fun g hg hs => by
        obtain ⟨_, k2, k3, _⟩ := q1 g hg
        rcases hS.2 g hs with hs | hs
        · exact k3 hs
        · omega
      refine ⟨fun g hg => ⟨(q1 g hg).1, Nat.lt_of_lt_of_le (q1 g hg).2.1 hk.size, hnS g hg, (q1 g hg).2.2.2⟩, q2.keep hk.size (hI.cls.cell hk) hS.1 fun g hg => ⟨hk.block g (q1 g hg).2.1 (fun hE => by have := hI.cls.ein g hE; have := (q1 g hg).1; omega), hnS g hg⟩⟩
  have hskp : ∀ (listed : Array Bool) (a : Act) (w : World) (S : Nat → Prop) (i' : Nat) (o' : Oper) (d' : Nat), BornA w0.heap.size p d ety sz rows σ.m L listed a w S → InvA e U w0 S0 nt σ.m ops n σ.s (αs0 ++ (A.undef :: αs1)) L listed a w S → HeadAt ops n i' o' d' → i' < n → i' ∈ Region.ready .any ops listed → d' < nt → o'.guard ≠ none → BornA w0.heap.size p d ety sz rows σ.m L (listed.setIfInBounds i' true) (a.put o'.dst undef) w S := by
    intro listed a w S i' o' d' hJ hI hA hin hr hdn hg hl
    have hip : i' ≠ p := fun e' => by
      subst e'
      have := hA.op
      rw [hop] at this
      injection this with this
      rw [← this] at hg
      exact hg hApp.guard
    rw [getD_set_ne false hip] at hl
    have hput : (a.put o'.dst undef).tmps.getD d undef = a.tmps.getD d undef := by
      rw [hA.dst, getD_put (by rw [hI.size]; exact hdn), if_neg (Ne.symm (hA0 hA hip))]
    rw [hput]
    exact hJ hl
  have H := wpAny_headA (e := e) (L := L) (Q := Q) he hH hn (fun hlt => by
      rcases hs with hs | hs
      · omega
      · exact hs) hsq (fun i o d hi ho hdd => hd o (List.mem_iff_getElem?.2 ⟨i, by simpa using ho⟩) d hdd) hal hch hgo hskp (fun listed a' w' S' hI hJ hall => ?_) n _ a _ S inv0 hJ0 ?_
  · rw [show n + (ops.size - n) = ops.size by omega] at H
    exact H
  · have hsim := simAfter hH hn hal hI hall
    rw [haf] at hsim
    obtain ⟨q1, q2⟩ := hJ (hall p hpn)
    have hdn : d < nt := hd _ (List.mem_iff_getElem?.2 ⟨p, hpl⟩) d hApp.dst
    have hsimB := hsim.bornE (bk := .buf none ety sz rows) (w' := w') (b' := 0) (v' := a'.tmps.getD d undef) (u := a'.tmps.getD d undef) (τ := vblk (a'.tmps.getD d undef)) (s1 := after ((d, A.undef) :: after σ.s (ops.toList.take p) αs0) ((ops.toList.take n).drop (p + 1)) αs1) (m1 := σ.m) (α := .buf d) (S' := S') hdn (fun _ h => h) (fun _ h => .inl h) (fun t => .inl rfl) (fun k x h => h)
      (fun g hg => ⟨(q1 g hg).2.2.1, fun hE => by have := hI.cls.ein _ hE; have := (q1 g hg).1; omega, .inl (q1 g hg).1⟩) (fun k x g hkd hx hg hb => (q1 g hg).2.2.2 k x hx hb)
      (Kept.refl _ _ _ _) hI.cls.g (by
        simp only [Own1, if_true]
        exact ⟨by simp, q2⟩)
      (fun g hg => by simp only [blkOf, if_true] at hg; exact .inl hg) (by simp [ARel])
    have hsimD : SimE e U w0 S0 nt ⟨(d, .buf d) :: killK d (after ((d, A.undef) :: after σ.s (ops.toList.take p) αs0) ((ops.toList.take n).drop (p + 1)) αs1), (d, .buf none ety sz rows) :: remM d σ.m⟩ a' w' := by
      obtain ⟨S2, L2, k1, k2, k3, k4, k5⟩ := hsimB
      refine ⟨S2, L2, k1, fun t => ?_, hI.size, hI.defers, k5⟩
      have := k2 t
      rw [getD_put (by rw [hI.size]; exact hdn)] at this
      by_cases ht : t = d
      · rw [if_pos ht] at this; rw [ht]; rw [ht] at this; exact this
      · rw [if_neg ht] at this; exact this
    have := hrest2 he U w0 S0 nt a' w' ops.toList Q rfl (fun o ho => hd o (List.mem_of_mem_drop ho)) hQ hsimD
    simpa using this
  · rw [List.countP_eq_length.2]
    · simp
    · intro i hi
      have hi' := List.mem_range.1 hi
      have hsz : i < (Array.replicate ops.size false).size := by simp; omega
      rw [getD_ftt hsz, getD_replicate_false]
      rfl
end
section
variable {e : Env} {mask : Nat} {Q : PX → St → Prop} {ds : List (Option Nat)}
theorem okDst {nt : Nat} {id : Nat} {ops : Array Oper} {fl : Bool} (hok : okCode nt (.region id ops fl) = true) : ∀ o ∈ ops.toList, ∀ d, o.dst = some d → d < nt := fun o ho d hd => by
  simp only [okCode] at hok
  have := List.all_eq_true.1 hok o ho
  rw [hd] at this
  simpa using this
theorem pwp_regT {id : Nat} {ops : Array Oper} {σ : St} (n : Nat) (hn : regT ops n = true) (hp : Runs e (ops.toList.map (·.dst)) (n + 1) (ops.toList.take n) σ (RunsT e (ops.toList.map (·.dst)) ops (TrimK mask Q) (ops.size - n) (headArr ops.size n))) : pwp e mask (.region id ops true) σ Q := fun he U w0 S0 nt a w hok hs =>
  region_T he hn (fun a w σ' h1 h2 => ⟨_, h1, h2.weak (fun t => gs_trimS mask t σ'.s) (fun _ _ h => h)⟩) (okDst hok) hs hp
theorem pwp_regA {id : Nat} {ops : Array Oper} {σ : St} {n p d ety sz : Nat} {rows : List (List C)} {o0 : Oper} (hop : ops[p]? = some o0) (hpn : p < n) (hn : regB ops n = true) (hp : Runs e (ops.toList.map (·.dst)) (p + 1) (ops.toList.take p) σ (fun σ1 => AppAt e.P σ1 o0 d ety sz rows ∧ Runs e (ops.toList.map (·.dst)) (n - p) ((ops.toList.take n).drop (p + 1)) ⟨(d, .undef) :: σ1.s, σ1.m⟩ (fun σ2 => Runs e (ops.toList.map (·.dst)) 0 (ops.toList.drop n) ⟨(d, .buf d) :: killK d σ2.s, (d, .buf none ety sz rows) :: remM d σ2.m⟩ (TrimK mask Q)))) : pwp e mask (.region id ops true) σ Q := fun he U w0 S0 nt a w hok hs =>
  region_A he hop hpn hn (fun a w σ' h1 h2 => ⟨_, h1, h2.weak (fun t => gs_trimS mask t σ'.s) (fun _ _ h => h)⟩) (okDst hok) hs hp
/-- A region in which something is appended to a slice without room: by the operation p, among the first n. -/
theorem gA {id : Nat} {l l1 l2 l3 : List Oper} {s s1 s2 s3 : List (Nat × A)} {m m1 m2 m3 : List (Nat × Bk)} {x y : Operand} {t ty d ety sz by' : Nat} {pos : String} {aft : Array Edge} {r1 ys : List (List C)} (n p : Nat) (hle : r1.length + ys.length ≤ maxApp) (hne : r1 = [] ∨ ys ≠ []) (hK : Runs e ds 0 l3 ⟨(d, .buf d) :: s3, (d, .buf none ety sz (r1 ++ ys)) :: m3⟩ (TrimK mask Q))
    (hop : l[p]? = some ⟨some d, .call ⟨.builtin .append, #[x, y], #[t, t]⟩, ty, pos, aft, none⟩ := by exact rfl) (hB : regB l.toArray n = true := by decide +kernel) (hpn : p < n := by decide) (hds : l.map (·.dst) = ds := by exact rfl) (h1l : l.take p = l1 := by exact rfl) (h2l : (l.take n).drop (p + 1) = l2 := by exact rfl) (h3l : l.drop n = l3 := by exact rfl)
    (h1 : runOps e.P ds (p + 1) l1 ⟨s, m⟩ = .done ⟨s1, m1⟩ := by simp only [pz, ↓reduceIte, Nat.reduceEqDiff, Nat.reduceAdd, Nat.reduceSub, Nat.reduceMul, Nat.reduceLeDiff, Nat.reduceBEq, Bool.false_eq_true, decide_true, decide_false, Int.reduceLE, Int.reduceToNat, Int.reduceLT, Int.reduceEq, eq_self, Nat.reduceShiftRight, Nat.reduceAnd, Nat.reduceBneDiff, F]; exact rfl) (hx : evA s1 x = .d (.clip r1) := by first | (simp only [pz, ↓reduceIte, Nat.reduceEqDiff, Nat.reduceAdd, Nat.reduceSub, Nat.reduceMul, Nat.reduceLeDiff, Nat.reduceBEq, Bool.false_eq_true, decide_true, decide_false, Int.reduceLE, Int.reduceToNat, Int.reduceLT, Int.reduceEq, eq_self, Nat.reduceShiftRight, Nat.reduceAnd, Nat.reduceBneDiff, F]; done) | (simp only [pz, ↓reduceIte, Nat.reduceEqDiff, Nat.reduceAdd, Nat.reduceSub, Nat.reduceMul, Nat.reduceLeDiff, Nat.reduceBEq, Bool.false_eq_true, decide_true, decide_false, Int.reduceLE, Int.reduceToNat, Int.reduceLT, Int.reduceEq, eq_self, Nat.reduceShiftRight, Nat.reduceAnd, Nat.reduceBneDiff, F]; exact rfl)) (hy : slA [] (evA s1 y) = some ys := by first | (simp only [pz, ↓reduceIte, Nat.reduceEqDiff, Nat.reduceAdd, Nat.reduceSub, Nat.reduceMul, Nat.reduceLeDiff, Nat.reduceBEq, Bool.false_eq_true, decide_true, decide_false, Int.reduceLE, Int.reduceToNat, Int.reduceLT, Int.reduceEq, eq_self, Nat.reduceShiftRight, Nat.reduceAnd, Nat.reduceBneDiff, F]; done) | (simp only [pz, ↓reduceIte, Nat.reduceEqDiff, Nat.reduceAdd, Nat.reduceSub, Nat.reduceMul, Nat.reduceLeDiff, Nat.reduceBEq, Bool.false_eq_true, decide_true, decide_false, Int.reduceLE, Int.reduceToNat, Int.reduceLT, Int.reduceEq, eq_self, Nat.reduceShiftRight, Nat.reduceAnd, Nat.reduceBneDiff, F]; exact rfl))
    (hb : bytesT e.P t = some (ety, sz, by') := by first | (simp only [pz, ↓reduceIte, Nat.reduceEqDiff, Nat.reduceAdd, Nat.reduceSub, Nat.reduceMul, Nat.reduceLeDiff, Nat.reduceBEq, Bool.false_eq_true, decide_true, decide_false, Int.reduceLE, Int.reduceToNat, Int.reduceLT, Int.reduceEq, eq_self, Nat.reduceShiftRight, Nat.reduceAnd, Nat.reduceBneDiff, F]; done) | (simp only [pz, ↓reduceIte, Nat.reduceEqDiff, Nat.reduceAdd, Nat.reduceSub, Nat.reduceMul, Nat.reduceLeDiff, Nat.reduceBEq, Bool.false_eq_true, decide_true, decide_false, Int.reduceLE, Int.reduceToNat, Int.reduceLT, Int.reduceEq, eq_self, Nat.reduceShiftRight, Nat.reduceAnd, Nat.reduceBneDiff, F]; exact rfl)) (hr1 : rowsB sz r1 = true := by simp only [pz, ↓reduceIte, Nat.reduceEqDiff, Nat.reduceAdd, Nat.reduceSub, Nat.reduceMul, Nat.reduceLeDiff, Nat.reduceBEq, Bool.false_eq_true, decide_true, decide_false, Int.reduceLE, Int.reduceToNat, Int.reduceLT, Int.reduceEq, eq_self, Nat.reduceShiftRight, Nat.reduceAnd, Nat.reduceBneDiff, F]) (hys : rowsB sz ys = true := by simp only [pz, ↓reduceIte, Nat.reduceEqDiff, Nat.reduceAdd, Nat.reduceSub, Nat.reduceMul, Nat.reduceLeDiff, Nat.reduceBEq, Bool.false_eq_true, decide_true, decide_false, Int.reduceLE, Int.reduceToNat, Int.reduceLT, Int.reduceEq, eq_self, Nat.reduceShiftRight, Nat.reduceAnd, Nat.reduceBneDiff, F])
    (h2 : runOps e.P ds (n - p) l2 ⟨(d, .undef) :: s1, m1⟩ = .done ⟨s2, m2⟩ := by simp only [pz, ↓reduceIte, Nat.reduceEqDiff, Nat.reduceAdd, Nat.reduceSub, Nat.reduceMul, Nat.reduceLeDiff, Nat.reduceBEq, Bool.false_eq_true, decide_true, decide_false, Int.reduceLE, Int.reduceToNat, Int.reduceLT, Int.reduceEq, eq_self, Nat.reduceShiftRight, Nat.reduceAnd, Nat.reduceBneDiff, F]; exact rfl) (hk : killK d s2 = s3 := by simp only [pz, ↓reduceIte, Nat.reduceEqDiff, Nat.reduceAdd, Nat.reduceSub, Nat.reduceMul, Nat.reduceLeDiff, Nat.reduceBEq, Bool.false_eq_true, decide_true, decide_false, Int.reduceLE, Int.reduceToNat, Int.reduceLT, Int.reduceEq, eq_self, Nat.reduceShiftRight, Nat.reduceAnd, Nat.reduceBneDiff]; exact rfl) (hr : remM d m2 = m3 := by simp only [pz, ↓reduceIte, Nat.reduceEqDiff, Nat.reduceAdd, Nat.reduceSub, Nat.reduceMul, Nat.reduceLeDiff, Nat.reduceBEq, Bool.false_eq_true, decide_true, decide_false, Int.reduceLE, Int.reduceToNat, Int.reduceLT, Int.reduceEq, eq_self, Nat.reduceShiftRight, Nat.reduceAnd, Nat.reduceBneDiff]; exact rfl) : pwp e mask (.region id l.toArray true) ⟨s, m⟩ Q := by
  subst hds h1l h2l h3l hk hr
  exact pwp_regA (ops := l.toArray) (by simpa using hop) hpn hB (runs_done h1 ⟨⟨⟨x, y, #[x, y], #[t, t], t, by', r1, ys, rfl, rfl, hx, hy, rfl, rfl, hb, hr1, hys, hle, hne, rfl⟩, rfl, rfl⟩, runs_done h2 hK⟩)
/-- A region behind whose first n operations the order is not fixed. -/
theorem gTree {id : Nat} {l l1 : List Oper} {s s1 : List (Nat × A)} {m m1 : List (Nat × Bk)} (n : Nat) (hK : RunsT e ds l.toArray (TrimK mask Q) (l.length - n) (headArr l.length n) ⟨s1, m1⟩) (hB : regT l.toArray n = true := by decide +kernel) (hds : l.map (·.dst) = ds := by exact rfl) (h1l : l.take n = l1 := by exact rfl)
    (h1 : runOps e.P ds (n + 1) l1 ⟨s, m⟩ = .done ⟨s1, m1⟩ := by simp only [pz, ↓reduceIte, Nat.reduceEqDiff, Nat.reduceAdd, Nat.reduceSub, Nat.reduceMul, Nat.reduceLeDiff, Nat.reduceBEq, Bool.false_eq_true, decide_true, decide_false, Int.reduceLE, Int.reduceToNat, Int.reduceLT, Int.reduceEq, eq_self, Nat.reduceShiftRight, Nat.reduceAnd, Nat.reduceBneDiff, F]; exact rfl) : pwp e mask (.region id l.toArray true) ⟨s, m⟩ Q := by
  subst hds h1l
  exact pwp_regT (ops := l.toArray) n hB (runs_done h1 hK)
theorem stepOk_run {K : St → Prop} {o : Oper} {s s1 : List (Nat × A)} {m m1 : List (Nat × Bk)} (hg : o.guard = none) (hal : ∀ t, o.op ≠ .alloc t) (hrun : runOps e.P ds 0 [o] ⟨s, m⟩ = .done ⟨s1, m1⟩) (hK : Runs e ds 0 [] ⟨s1, m1⟩ K) : StepOk e o ⟨s, m⟩ (fun σ' => Runs e ds 0 [] σ' K) := by
  have key : ∀ σ, ResQ e ds (fun σ' => Runs e ds 0 [] σ' K) (Res.done σ) → Runs e ds 0 [] σ (fun σ' => Runs e ds 0 [] σ' K) := fun σ h => runs_nil h
  have hr : runOps e.P ds 0 [o] ⟨s, m⟩ = stepR e.P o.dst o.type 0 0 [] (fun σ => .done σ) o.op ⟨s, m⟩ := by
    obtain ⟨od, oo, ot, op, oa, og⟩ := o
    simp only at hg
    subst hg
    rfl
  rw [hr] at hrun
  have h := stepR_sound (e := e) (ds := ds) (os := []) (K := fun σ' => Runs e ds 0 [] σ' K) (n := 0) (q := 0) (next := fun σ => .done σ) key (o := o) (σ := ⟨s, m⟩) (.inl rfl) (by rw [hrun]; exact hK)
  have h : StepOk e o ⟨s, m⟩ (fun σ' => Runs e ds 0 [] σ' (fun σ' => Runs e ds 0 [] σ' K)) := h
  intro he U w0 S0 nt a w Q hd hs
  refine Oper.wp_mono (fun a' w' ⟨σ', h1, h2⟩ => ⟨σ', ?_, h2⟩) (h he U w0 S0 nt a w Q hd hs)
  intro he U w0 S0 nt a w ops Q hds hd hQ hs
  exact h1 he U w0 S0 nt a w ops Q hds hd (fun a w σ2 h3 h4 => h3 he U w0 S0 nt a w ops Q hds hd hQ h4) hs
theorem gT1 {ops : Array Oper} {K : St → Prop} {f : Nat} {listed : Array Bool} {o : Oper} {s s1 : List (Nat × A)} {m m1 : List (Nat × Bk)} (i : Nat) (hK : Runs e ds 0 [] ⟨s1, m1⟩ (RunsT e ds ops K f (listed.setIfInBounds i true))) (hr : Region.ready .any ops listed = [i] := by decide +kernel) (ho : ops[i]? = some o := by simp only [List.getElem?_toArray, List.getElem?_cons_succ, List.getElem?_cons_zero]; exact rfl) (hg : o.guard = none := by exact rfl) (hal : ∀ t, o.op ≠ .alloc t := by intro t h; cases h)
    (hrun : runOps e.P ds 0 [o] ⟨s, m⟩ = .done ⟨s1, m1⟩ := by simp only [pz, ↓reduceIte, Nat.reduceEqDiff, Nat.reduceAdd, Nat.reduceSub, Nat.reduceMul, Nat.reduceLeDiff, Nat.reduceBEq, Bool.false_eq_true, decide_true, decide_false, Int.reduceLE, Int.reduceToNat, Int.reduceLT, Int.reduceEq, eq_self, Nat.reduceShiftRight, Nat.reduceAnd, Nat.reduceBneDiff, F]; exact rfl) : RunsT e ds ops K (f + 1) listed ⟨s, m⟩ := by
  refine ⟨fun h => (by rw [hr] at h; cases h), fun j hj => ?_⟩
  rw [hr] at hj
  have hji : j = i := by simpa using hj
  subst hji
  exact ⟨o, ho, hg, stepOk_run hg hal hrun hK⟩
theorem gT2 {ops : Array Oper} {K : St → Prop} {f : Nat} {listed : Array Bool} {o o' : Oper} {s s1 s2 : List (Nat × A)} {m m1 m2 : List (Nat × Bk)} (i j : Nat) (hK : Runs e ds 0 [] ⟨s1, m1⟩ (RunsT e ds ops K f (listed.setIfInBounds i true))) (hK' : Runs e ds 0 [] ⟨s2, m2⟩ (RunsT e ds ops K f (listed.setIfInBounds j true))) (hr : Region.ready .any ops listed = [i, j] := by decide +kernel) (ho : ops[i]? = some o := by simp only [List.getElem?_toArray, List.getElem?_cons_succ, List.getElem?_cons_zero]; exact rfl) (hg : o.guard = none := by exact rfl) (hal : ∀ t, o.op ≠ .alloc t := by intro t h; cases h)
    (hrun : runOps e.P ds 0 [o] ⟨s, m⟩ = .done ⟨s1, m1⟩ := by simp only [pz, ↓reduceIte, Nat.reduceEqDiff, Nat.reduceAdd, Nat.reduceSub, Nat.reduceMul, Nat.reduceLeDiff, Nat.reduceBEq, Bool.false_eq_true, decide_true, decide_false, Int.reduceLE, Int.reduceToNat, Int.reduceLT, Int.reduceEq, eq_self, Nat.reduceShiftRight, Nat.reduceAnd, Nat.reduceBneDiff, F]; exact rfl) (ho' : ops[j]? = some o' := by simp only [List.getElem?_toArray, List.getElem?_cons_succ, List.getElem?_cons_zero]; exact rfl) (hg' : o'.guard = none := by exact rfl) (hal' : ∀ t, o'.op ≠ .alloc t := by intro t h; cases h) (hrun' : runOps e.P ds 0 [o'] ⟨s, m⟩ = .done ⟨s2, m2⟩ := by simp only [pz, ↓reduceIte, Nat.reduceEqDiff, Nat.reduceAdd, Nat.reduceSub, Nat.reduceMul, Nat.reduceLeDiff, Nat.reduceBEq, Bool.false_eq_true, decide_true, decide_false, Int.reduceLE, Int.reduceToNat, Int.reduceLT, Int.reduceEq, eq_self, Nat.reduceShiftRight, Nat.reduceAnd, Nat.reduceBneDiff, F]; exact rfl) : RunsT e ds ops K (f + 1) listed ⟨s, m⟩ := by
  refine ⟨fun h => (by rw [hr] at h; cases h), fun k hk => ?_⟩
  rw [hr] at hk
  have hk : k = i ∨ k = j := by simpa using hk
  rcases hk with rfl | rfl
  · exact ⟨o, ho, hg, stepOk_run hg hal hrun hK⟩
  · exact ⟨o', ho', hg', stepOk_run hg' hal' hrun' hK'⟩
theorem gT0 {ops : Array Oper} {listed : Array Bool} {s s' : List (Nat × A)} {m : List (Nat × Bk)} (hK : Q .normal ⟨s', m⟩) (hr : Region.ready .any ops listed = [] := by decide +kernel) (hs : trimS mask s = s' := by simp only [pz, ↓reduceIte, Nat.reduceEqDiff, Nat.reduceAdd, Nat.reduceSub, Nat.reduceMul, Nat.reduceLeDiff, Nat.reduceBEq, Bool.false_eq_true, decide_true, decide_false, Int.reduceLE, Int.reduceToNat, Int.reduceLT, Int.reduceEq, eq_self, Nat.reduceShiftRight, Nat.reduceAnd, Nat.reduceBneDiff]; exact rfl) : RunsT e ds ops (TrimK mask Q) 0 listed ⟨s, m⟩ := by
  subst hs
  exact ⟨hr, hK⟩
end
end Go.Proofs.YtpbikjkjfojjiaaGreat
