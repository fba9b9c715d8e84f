/-
  FnExactIsPlain returns true for every module, and turns nothing: proved without conditions.
-/
import Derived.Test.YtofklmbljbkdaaaGreatBBase0
import Derived.Test.YtofklmbljbkdaaaGreatBBase1
import Derived.Test.YtofklmbljbkdaaaGreatBBase2
import Derived.Test.YtofklmbljbkdaaaGreatBBase3
import Derived.Test.YtofklmbljbkdaaaGreatBBase4
import Derived.Test.YtofklmbljbkdaaaGreatBIsPlain0
import Derived.Test.YtofklmbljbkdaaaGreatBBaseL0
set_option linter.unusedSimpArgs false
set_option linter.unusedVariables false
namespace Go.Proofs.YtofklmbljbkdaaaGreat
open Go.RowKit
def wFree (v : Tm) : Bool := !(decide (v.name[0]? = some 119))
noncomputable def plainE (e : Eqn) : Bool := decide (e.cs.length = 0) && (varsOf e.l).all wFree
def freeO (o : Opr) : Bool := !o.assoc && decide (o.unit = 0)
noncomputable def isFree (g : Sgn) : Bool := g.ops.all freeO && isSgn g
noncomputable def plainB (m : Mdl) : Bool := isMdl m && (isFree m.sig && m.eqs.all plainE)
theorem isFree_of {g : Sgn} (h : ∀ o ∈ g.ops, o.assoc = false ∧ o.unit ≤ 0) : isFree g = isSgn g := by
  cases hs : isSgn g with
  | false => rw [isFree, hs, Bool.and_false]
  | true =>
    have hg := isSgn_iff.1 hs
    have : g.ops.all freeO = true := List.all_eq_true.2 fun o ho => by
      have h1 := (hg.axs o ho).lo
      obtain ⟨h2, h3⟩ := h o ho
      simp only [freeO, h2, Bool.not_false, Bool.true_and, decide_eq_true_eq]
      omega
    rw [isFree, this, hs]; rfl
theorem isFree_not {g : Sgn} {o : Opr} (ho : o ∈ g.ops) (h : o.assoc = true ∨ o.unit ≠ 0) : isFree g = false := by
  have : g.ops.all freeO = false := all_false ho (by
    rcases h with h | h
    · simp [freeO, h]
    · simp [freeO, h])
  rw [isFree, this, Bool.false_and]
theorem free_next {l : List Opr} {i : Nat} {o : Opr} (ho : l[i]? = some o) (h : ∀ o ∈ l.take i, o.assoc = false ∧ o.unit ≤ 0) (h2 : o.assoc = false ∧ o.unit ≤ 0) : ∀ o ∈ l.take (i + 1), o.assoc = false ∧ o.unit ≤ 0 := fun o' ho' => by
  rw [take_snoc ho] at ho'
  rcases List.mem_append.1 ho' with h3 | h3
  · exact h o' h3
  · rw [List.mem_singleton.1 h3]; exact h2
section
variable {g : Sgn}
set_option maxHeartbeats 8000000 in
set_option maxRecDepth 100000 in
theorem con_implFree (hg : okSgn g) (hl : g.ops.length ≤ 1048576) : Con e0 139 [.agg (encSgn g)] [.one (.lit (.bool (isFree g)))] := by
  have cS := con_implSgn hg
  rw [encSgn] at cS ⊢
  refine gI 263127 Tryz.func139 ?_
  (have F := @e0P; refine gG ?_; clear F)
  (have F := @e0P; refine gL (ι := Nat) [2, 4, 8, 9, 18] [] (fun i => [(8, A.d (.one (.lit (.int .i64 i))))]) (fun i => []) (fun i => i ≤ g.ops.length ∧ ∀ o ∈ g.ops.take i, o.assoc = false ∧ o.unit ≤ 0) (fun i => g.ops.length - i) (0) (⟨Nat.zero_le _, fun o h => by simp at h⟩) (fun i hi => ?_); clear F)
  obtain ⟨hil, hall⟩ := hi
  by_cases hlt : i < g.ops.length
  rotate_left
  · obtain rfl : i = g.ops.length := by omega
    rw [List.take_length] at hall
    have q1 : ¬ ((g.ops.length : Int) < (g.ops.length : Int)) := by omega
    have ht := isFree_of hall
    (have F := @q1; refine gG ?_; clear F)
    refine gB ?_
    (have F := @e0P; refine gC (cS) ?_; clear F)
    (have F := @e0P; refine gR ?_; clear F)
    (have F := @ht; refine gG ?_; exact gT)
  have q1 : (i : Int) < (g.ops.length : Int) := by omega
  obtain ⟨o, ho⟩ : ∃ o, g.ops[i]? = some o := ⟨_, List.getElem?_eq_getElem hlt⟩
  have hom := List.mem_of_getElem? ho
  have hw := wrap1 (k := i) (by omega)
  cases ha : o.assoc with
  | true =>
    have hf := isFree_not hom (.inl ha)
    (have F := And.intro @q1 (And.intro @ho (And.intro @encOpr_u (And.intro @ha @hf))); refine gG ?_; exact gT)
  | false =>
  by_cases hu : o.unit = 0
  · have z : (o.unit = 0) = True := eq_true hu
    (have F := And.intro @q1 (And.intro @ho (And.intro @encOpr_u (And.intro @ha (And.intro @z @hw)))); refine gG ?_; exact ⟨i + 1, ⟨hlt, free_next ho hall ⟨ha, by omega⟩⟩, gw, gw, by omega⟩)
  · have z : (o.unit = 0) = False := eq_false hu
    have hf := isFree_not hom (.inr hu)
    (have F := And.intro @q1 (And.intro @ho (And.intro @encOpr_u (And.intro @ha (And.intro @z @hf)))); refine gG ?_; exact gT)
set_option maxHeartbeats 8000000 in
set_option maxRecDepth 100000 in
theorem con_specFree (hg : okSgn g) (hl : g.ops.length ≤ 1048576) : Con e0 75 [.agg (encSgn g)] [.one (.lit (.bool (isFree g)))] := by
  have cS := con_specSgn hg
  rw [encSgn] at cS ⊢
  refine gI 33554703 Tryz.func75 ?_
  (have F := @e0P; refine gG ?_; clear F)
  (have F := @e0P; refine gL (ι := Nat) [2, 3, 8, 25] [] (fun i => [(3, A.d (.one (.lit (.int .i64 i))))]) (fun i => []) (fun i => i ≤ g.ops.length ∧ ∀ o ∈ g.ops.take i, o.assoc = false ∧ o.unit ≤ 0) (fun i => g.ops.length - i) (0) (⟨Nat.zero_le _, fun o h => by simp at h⟩) (fun i hi => ?_); clear F)
  obtain ⟨hil, hall⟩ := hi
  by_cases hlt : i < g.ops.length
  rotate_left
  · obtain rfl : i = g.ops.length := by omega
    rw [List.take_length] at hall
    have q1 : ¬ ((g.ops.length : Int) < (g.ops.length : Int)) := by omega
    have ht := isFree_of hall
    (have F := @q1; refine gG ?_; clear F)
    refine gB ?_
    (have F := @e0P; refine gC (cS) ?_; clear F)
    (have F := @e0P; refine gR ?_; clear F)
    (have F := @ht; refine gG ?_; exact gT)
  have q1 : (i : Int) < (g.ops.length : Int) := by omega
  obtain ⟨o, ho⟩ : ∃ o, g.ops[i]? = some o := ⟨_, List.getElem?_eq_getElem hlt⟩
  have hom := List.mem_of_getElem? ho
  have hw := wrap1 (k := i) (by omega)
  cases ha : o.assoc with
  | true =>
    have hf := isFree_not hom (.inl ha)
    (have F := And.intro @q1 (And.intro @ho (And.intro @encOpr_u (And.intro @ha @hf))); refine gG ?_; exact gT)
  | false =>
  by_cases hu : 0 < o.unit
  · have z : (0 < o.unit) = True := eq_true hu
    have hf := isFree_not hom (.inr (by omega))
    (have F := And.intro @q1 (And.intro @ho (And.intro @encOpr_u (And.intro @ha (And.intro @z @hf)))); refine gG ?_; exact gT)
  · have z : (0 < o.unit) = False := eq_false hu
    (have F := And.intro @q1 (And.intro @ho (And.intro @encOpr_u (And.intro @ha (And.intro @z @hw)))); refine gG ?_; exact ⟨i + 1, ⟨hlt, free_next ho hall ⟨ha, by omega⟩⟩, gw, gw, by omega⟩)
end
theorem name_first {s : ByteArray} (h : isName s = true) : ∃ b, s[0]? = some b := by
  simp only [isName, Bool.and_eq_true, decide_eq_true_eq] at h
  exact ⟨s[0]'(by omega), getElem?_pos s 0 (by omega)⟩
mutual
theorem vars_name {g : Sgn} : ∀ (t : Tm), FormOk g t → ∀ v ∈ varsTm t, ∃ b, v.name[0]? = some b
  | .mk op nm so args, h, v, hv => by
    simp only [varsTm] at hv
    by_cases ho : op = -1
    · rw [if_pos ho] at hv
      rw [List.mem_singleton.1 hv]
      rcases op_cases h.node with ⟨h1, _⟩ | ⟨h1, _⟩
      · exact name_first h1.2.1
      · simp only [Tm.op] at h1; omega
    · rw [if_neg ho] at hv
      simp only [FormOk] at h
      exact vars_names args h.2.1 v hv
theorem vars_names {g : Sgn} : ∀ (ts : List Tm), FormOks g ts → ∀ v ∈ varsTms ts, ∃ b, v.name[0]? = some b
  | [], _, v, hv => by simp [varsTms] at hv
  | t :: ts, h, v, hv => by
    simp only [FormOks] at h
    simp only [varsTms] at hv
    rcases List.mem_append.1 hv with h1 | h1
    · exact vars_name t h.1 v h1
    · exact vars_names ts h.2 v h1
end
theorem b119 (b : UInt8) : (if (119 : UInt8) == b then (0 : Int) else -1) = if b = 119 then 0 else -1 := by
  by_cases h : b = 119
  · subst h; rfl
  · rw [if_neg h, if_neg]
    simp only [beq_iff_eq]
    exact fun e => h e.symm
theorem b119_int (b : UInt8) : ((b.toNat : Int) = 119) = (b = 119) := by
  refine propext ⟨fun h => ?_, fun h => by subst h; rfl⟩
  have h2 : b.toNat = (119 : UInt8).toNat := by
    have : b.toNat = 119 := by omega
    rw [this]; rfl
  exact UInt8.toNat_inj.1 h2
theorem i00 : ((0 : Int) ≤ 0) = True := eq_true (Int.le_refl 0)
section
variable {vs : List Tm}
set_option maxHeartbeats 8000000 in
set_option maxRecDepth 100000 in
theorem con_hasLetter (hvl : vs.length ≤ 1048577) (hn : ∀ v ∈ vs, ∃ b, v.name[0]? = some b) : Con e0 140 [.one (.sl (encTms vs)), .one (.lit (.string ⟨#[119]⟩))] [.one (.lit (.bool (!(vs.all wFree))))] := by
  refine gI 264147 Tryz.func140 ?_
  (have F := @tmz; refine gG ?_; clear F)
  (have F := @e0P; refine gL (ι := Nat) [4, 6, 9, 10, 18] [] (fun i => [(9, A.d (.one (.lit (.int .i64 i))))]) (fun i => []) (fun i => i ≤ vs.length ∧ (vs.take i).all wFree = true) (fun i => vs.length - i) (0) (⟨Nat.zero_le _, rfl⟩) (fun i hi => ?_); clear F)
  obtain ⟨hil, hall⟩ := hi
  by_cases hlt : i < vs.length
  rotate_left
  · obtain rfl : i = vs.length := by omega
    have q1 : ¬ ((vs.length : Int) < (vs.length : Int)) := by omega
    rw [List.take_length] at hall
    have ht : (!(vs.all wFree)) = false := by rw [hall]; rfl
    (have F := And.intro @tmz (And.intro @q1 @ht); refine gG ?_; exact gT)
  have q1 : (i : Int) < (vs.length : Int) := by omega
  obtain ⟨x, hx⟩ : ∃ x, vs[i]? = some x := ⟨_, List.getElem?_eq_getElem hlt⟩
  have hxm := List.mem_of_getElem? hx
  have hw := wrap1 (k := i) (by omega)
  obtain ⟨b, hb⟩ := hn x hxm
  have cB := con_indexB ⟨#[119]⟩ b
  have eB : Lib.indexByte (⟨#[119]⟩ : ByteArray).data.toList b = if b = 119 then 0 else -1 := by
    rw [← b119]; rfl
  rw [eB] at cB
  (have F := And.intro @tmz (And.intro @q1 @hx); refine gG ?_; clear F)
  refine gB ?_
  (have F := And.intro @tmz (And.intro @hx (And.intro @hb @i00)); refine gC (cB) ?_; clear F)
  by_cases h9 : b = 119
  · have ht : (!(vs.all wFree)) = true := by rw [all_false hxm (by simp [wFree, hb, h9])]; rfl
    rw [if_pos h9]
    (have F := @i00; refine gR ?_; clear F)
    (have F := @ht; refine gG ?_; exact gT)
  · rw [if_neg h9]
    have z : ((0 : Int) ≤ -1) = False := eq_false (by omega)
    have hq : i + 1 ≤ vs.length ∧ (vs.take (i + 1)).all wFree = true := ⟨hlt, by rw [all_take_c hx, hall]; simp [wFree, hb, h9]⟩
    (have F := @z; refine gR ?_; clear F)
    (have F := @hw; refine gG ?_; exact ⟨i + 1, hq, gw, gw, by omega⟩)
set_option maxHeartbeats 8000000 in
set_option maxRecDepth 100000 in
theorem con_fresh {t : Tm} (ht : okTm t) (hb : bulkRow (encTm t) ≤ 1048576) (hn : ∀ v ∈ varsOf t, ∃ b, v.name[0]? = some b) : Con e0 76 [.agg (encTm t)] [.one (.lit (.bool ((varsOf t).all wFree)))] := by
  have cV := con_specVars ht hb
  have hvt := vars_len2 hb
  have hvl := varsOf_len t
  refine gI 525343 Tryz.func76 ?_
  (have F := @tmz; refine gG ?_; clear F)
  refine gB ?_
  (have F := @tmz; refine gC (cV) ?_; clear F)
  generalize varsOf t = vs at *
  (have F := @tmz; refine gR ?_; clear F)
  (have F := @tmz; refine gG ?_; clear F)
  (have F := @e0P; refine gL (ι := Nat) [2, 4, 10, 19] [] (fun i => [(4, A.d (.one (.lit (.int .i64 i))))]) (fun i => []) (fun i => i ≤ vs.length ∧ (vs.take i).all wFree = true) (fun i => vs.length - i) (0) (⟨Nat.zero_le _, rfl⟩) (fun i hi => ?_); clear F)
  obtain ⟨hil, hall⟩ := hi
  by_cases hlt : i < vs.length
  rotate_left
  · obtain rfl : i = vs.length := by omega
    have q1 : ¬ ((vs.length : Int) < (vs.length : Int)) := by omega
    rw [List.take_length] at hall
    (have F := And.intro @tmz (And.intro @q1 @hall); refine gG ?_; exact gT)
  have q1 : (i : Int) < (vs.length : Int) := by omega
  obtain ⟨x, hx⟩ : ∃ x, vs[i]? = some x := ⟨_, List.getElem?_eq_getElem hlt⟩
  have hxm := List.mem_of_getElem? hx
  have hw := wrap1 (k := i) (by omega)
  obtain ⟨b, hb⟩ := hn x hxm
  have e9 := b119_int b
  by_cases h9 : b = 119
  · have ht := all_false hxm (show wFree x = false by simp [wFree, hb, h9])
    have z : ((b.toNat : Int) = 119) = True := by rw [e9]; exact eq_true h9
    (have F := And.intro @tmz (And.intro @q1 (And.intro @hx (And.intro @hb (And.intro @i00 (And.intro @z @ht))))); refine gG ?_; exact gT)
  · have z : ((b.toNat : Int) = 119) = False := by rw [e9]; exact eq_false h9
    have hq : i + 1 ≤ vs.length ∧ (vs.take (i + 1)).all wFree = true := ⟨hlt, by rw [all_take_c hx, hall]; simp [wFree, hb, h9]⟩
    (have F := And.intro @tmz (And.intro @q1 (And.intro @hx (And.intro @hb (And.intro @i00 (And.intro @z @hw))))); refine gG ?_; exact ⟨i + 1, hq, gw, gw, by omega⟩)
end
theorem mdl_facts {m : Mdl} (h : isMdl m = true) : m.eqs.length ≤ 16 ∧ ∀ e ∈ m.eqs, ∀ v ∈ varsOf e.l, ∃ b, v.name[0]? = some b := by
  simp only [isMdl, hasEq, Bool.and_eq_true, decide_eq_true_eq, List.all_eq_true] at h
  refine ⟨h.2.1, fun e he v hv => ?_⟩
  have h1 := h.2.2.2.1 e he
  simp only [eqnB, pairB, Bool.and_eq_true] at h1
  exact vars_name e.l (isTerm_iff.1 h1.1.1).form v (mem_distTm.1 hv)
section
variable {m : Mdl}
set_option maxHeartbeats 8000000 in
set_option maxRecDepth 100000 in
theorem con_specPlain (hm : okMdl m) (hb : bulkRow (encMdl m) ≤ 1048576) : Con e0 23 [.agg (encMdl m)] [.one (.lit (.bool (plainB m)))] := by
  have cM := con_specMod hm hb
  rw [bulk_mdl] at hb
  obtain ⟨hokg, hoe, hou⟩ := hm
  have er := eqn_rows
  have ed : encMdl m = [.sl (m.sig.sorts.names.map encStr), .sl (m.sig.sorts.subs.map encSub), .sl (m.sig.ops.map encOpr), .sl (m.eqs.map encEqn), .sl (m.rules.map encEqn)] := rfl
  rw [ed] at cM ⊢
  refine gI 137439088655 Tryz.func23 ?_
  (have F := And.intro @tmz (And.intro @eqz @er); refine gG ?_; clear F)
  refine gB ?_
  (have F := @tmz; refine gC (cM) ?_; clear F)
  cases hM : isMdl m with
  | false =>
    have hf : plainB m = false := by rw [plainB, hM]; rfl
    (have F := @tmz; refine gR ?_; clear F)
    (have F := And.intro @tmz @hf; refine gG ?_; exact gT)
  | true =>
  obtain ⟨hl, hvn⟩ := mdl_facts hM
  have hgl : m.sig.ops.length ≤ 1048576 := by
    have : isSgn m.sig = true := by simp only [isMdl, Bool.and_eq_true] at hM; exact hM.1
    have := (isSgn_iff.1 this).len
    omega
  have cF := con_specFree hokg hgl
  rw [encSgn] at cF
  (have F := @tmz; refine gC (cF) ?_; clear F)
  cases hF : isFree m.sig with
  | false =>
    have hf : plainB m = false := by rw [plainB, hM, hF]; rfl
    (have F := @tmz; refine gR ?_; clear F)
    (have F := And.intro @tmz @hf; refine gG ?_; exact gT)
  | true =>
  have ei : plainB m = m.eqs.all plainE := by rw [plainB, hM, hF]; rfl
  rw [ei]
  (have F := @tmz; refine gR ?_; clear F)
  (have F := And.intro @tmz (And.intro @eqz @er); refine gG ?_; clear F)
  (have F := @e0P; refine gL (ι := Nat) [2, 3, 17, 37] [] (fun x => [(3, A.d (.one (.lit (.int .i64 x))))]) (fun x => []) (fun x => x ≤ m.eqs.length ∧ (m.eqs.take x).all plainE = true) (fun x => m.eqs.length - x) (0) (⟨Nat.zero_le _, rfl⟩) (fun x hx => ?_); clear F)
  obtain ⟨hxl, hall⟩ := hx
  by_cases hlt : x < m.eqs.length
  rotate_left
  · obtain rfl : x = m.eqs.length := by omega
    have q1 : ¬ ((m.eqs.length : Int) < (m.eqs.length : Int)) := by omega
    rw [List.take_length] at hall
    (have F := And.intro @tmz (And.intro @eqz (And.intro @er (And.intro @q1 @hall))); refine gG ?_; exact gT)
  have q1 : (x : Int) < (m.eqs.length : Int) := by omega
  obtain ⟨e, he⟩ : ∃ a, m.eqs[x]? = some a := ⟨_, List.getElem?_eq_getElem hlt⟩
  have hmm := List.mem_of_getElem? he
  have hw1 := wrap1 (k := x) (by omega)
  have hbb := bulk_eq_mem hmm
  rw [bulk_eqn] at hbb
  by_cases hc : e.cs.length = 0
  rotate_left
  · have z1 : ((0 : Int) < (e.cs.length : Int)) = True := eq_true (by omega)
    have hf := all_false hmm (show plainE e = false by simp [plainE, hc])
    (have F := And.intro @tmz (And.intro @eqz (And.intro @er (And.intro @q1 (And.intro @he (And.intro @z1 @hf))))); refine gG ?_; exact gT)
  have z1 : ((0 : Int) < (e.cs.length : Int)) = False := eq_false (by omega)
  have cE := con_fresh (hoe e hmm).1 (by omega) (hvn e hmm)
  (have F := And.intro @tmz (And.intro @eqz (And.intro @er @q1)); refine gG ?_; clear F)
  refine gB ?_
  (have F := And.intro @tmz (And.intro @eqz (And.intro @er (And.intro @he @z1))); refine gC (cE) ?_; clear F)
  cases hh : (varsOf e.l).all wFree with
  | false =>
    have hf := all_false hmm (show plainE e = false by simp only [plainE, hh, Bool.and_false])
    (have F := @tmz; refine gR ?_; clear F)
    (have F := And.intro @tmz @hf; refine gG ?_; exact gT)
  | true =>
    have hq : x + 1 ≤ m.eqs.length ∧ (m.eqs.take (x + 1)).all plainE = true := ⟨hlt, by rw [all_take_c he, hall]; simp [plainE, hc, hh]⟩
    (have F := @tmz; refine gR ?_; clear F)
    (have F := And.intro @tmz @hw1; refine gG ?_; exact ⟨x + 1, hq, gw, gw, by omega⟩)
set_option maxHeartbeats 8000000 in
set_option maxRecDepth 100000 in
theorem con_isPlain {mc : C} (hg : SgnOk m.sig) (hm : okMdl m) (hb : bulkRow (encMdl m) ≤ 1048576) : Con e0 78 [.one (.ptr (encX m.sig mc)), .agg (encMdl m)] [.one (.lit (.bool (plainB m)))] := by
  have cH := con_hasEq (mc := mc) hg hm hb
  rw [bulk_mdl] at hb
  obtain ⟨hokg, hoe, hou⟩ := hm
  have cF := con_implFree hokg (by have := hg.len; omega)
  rw [encSgn] at cF
  have hs := isSgn_true hg
  have er := eqn_rows
  have ed : encMdl m = [.sl (m.sig.sorts.names.map encStr), .sl (m.sig.sorts.subs.map encSub), .sl (m.sig.ops.map encOpr), .sl (m.eqs.map encEqn), .sl (m.rules.map encEqn)] := rfl
  rw [ed] at cH ⊢
  refine gI 8593932379 Tryz.func78 ?_
  (have F := And.intro @tmz (And.intro @eqz @er); refine gG ?_; clear F)
  refine gB ?_
  (have F := @tmz; refine gC (cF) ?_; clear F)
  cases hF : isFree m.sig with
  | false =>
    have hf : plainB m = false := by rw [plainB, hF]; simp
    (have F := @tmz; refine gR ?_; clear F)
    (have F := And.intro @tmz @hf; refine gG ?_; exact gT)
  | true =>
  (have F := @tmz; refine gC (cH) ?_; clear F)
  cases hH : hasEq m with
  | false =>
    have hf : plainB m = false := by rw [plainB, isMdl, hH]; simp
    (have F := @tmz; refine gR ?_; clear F)
    (have F := And.intro @tmz @hf; refine gG ?_; exact gT)
  | true =>
  have hM : isMdl m = true := by rw [isMdl, hs, hH]; rfl
  obtain ⟨hl, hvn⟩ := mdl_facts hM
  have ei : plainB m = m.eqs.all plainE := by rw [plainB, hM, hF]; rfl
  rw [ei]
  (have F := @tmz; refine gR ?_; clear F)
  (have F := And.intro @tmz (And.intro @eqz @er); refine gG ?_; clear F)
  (have F := @e0P; refine gL (ι := Nat) [4, 6, 20, 21, 33] [] (fun x => [(20, A.d (.one (.lit (.int .i64 x))))]) (fun x => []) (fun x => x ≤ m.eqs.length ∧ (m.eqs.take x).all plainE = true) (fun x => m.eqs.length - x) (0) (⟨Nat.zero_le _, rfl⟩) (fun x hx => ?_); clear F)
  obtain ⟨hxl, hall⟩ := hx
  by_cases hlt : x < m.eqs.length
  rotate_left
  · obtain rfl : x = m.eqs.length := by omega
    have q1 : ¬ ((m.eqs.length : Int) < (m.eqs.length : Int)) := by omega
    rw [List.take_length] at hall
    (have F := And.intro @tmz (And.intro @eqz (And.intro @er (And.intro @q1 @hall))); refine gG ?_; exact gT)
  have q1 : (x : Int) < (m.eqs.length : Int) := by omega
  obtain ⟨e, he⟩ : ∃ a, m.eqs[x]? = some a := ⟨_, List.getElem?_eq_getElem hlt⟩
  have hmm := List.mem_of_getElem? he
  have hw1 := wrap1 (k := x) (by omega)
  have hbb := bulk_eq_mem hmm
  rw [bulk_eqn] at hbb
  by_cases hc : e.cs.length = 0
  rotate_left
  · have z1 : ((0 : Int) < (e.cs.length : Int)) = True := eq_true (by omega)
    have hf := all_false hmm (show plainE e = false by simp [plainE, hc])
    (have F := And.intro @tmz (And.intro @eqz (And.intro @er (And.intro @q1 (And.intro @he (And.intro @z1 @hf))))); refine gG ?_; exact gT)
  have z1 : ((0 : Int) < (e.cs.length : Int)) = False := eq_false (by omega)
  have hbl : bulkRow (encTm e.l) ≤ 1048576 := by omega
  have cV := con_implVars e.l hbl
  have hvt := vars_len2 hbl
  have hvl := varsOf_len e.l
  have cL := con_hasLetter (vs := varsOf e.l) (by omega) (hvn e hmm)
  have hpe : plainE e = (varsOf e.l).all wFree := by simp [plainE, hc]
  (have F := And.intro @tmz (And.intro @eqz (And.intro @er (And.intro @q1 @he))); refine gG ?_; clear F)
  refine gB ?_
  (have F := And.intro @tmz (And.intro @eqz (And.intro @er @z1)); refine gC (cV) ?_; clear F)
  generalize varsOf e.l = vs at *
  (have F := And.intro @tmz (And.intro @eqz (And.intro @er @z1)); refine gC (cL) ?_; clear F)
  cases hh : vs.all wFree with
  | false =>
    have hf := all_false hmm (show plainE e = false by rw [hpe, hh])
    (have F := @tmz; refine gR ?_; clear F)
    (have F := And.intro @tmz @hf; refine gG ?_; exact gT)
  | true =>
    have hq : x + 1 ≤ m.eqs.length ∧ (m.eqs.take (x + 1)).all plainE = true := ⟨hlt, by rw [all_take_c he, hall, hpe, hh]; rfl⟩
    (have F := @tmz; refine gR ?_; clear F)
    (have F := And.intro @tmz @hw1; refine gG ?_; exact ⟨x + 1, hq, gw, gw, by omega⟩)
set_option maxHeartbeats 8000000 in
set_option maxRecDepth 100000 in
theorem con_implPlain (hm : okMdl m) (hb : bulkRow (encMdl m) ≤ 1048576) : Con e0 24 [.agg (encMdl m)] [.one (.lit (.bool (plainB m)))] := by
  have hok := hm.1
  have ed : encMdl m = [.sl (m.sig.sorts.names.map encStr), .sl (m.sig.sorts.subs.map encSub), .sl (m.sig.ops.map encOpr), .sl (m.eqs.map encEqn), .sl (m.rules.map encEqn)] := rfl
  by_cases hg : SgnOk m.sig
  rotate_left
  · have hf : plainB m = false := by simp [plainB, isMdl, isSgn_false hg]
    have c := con_newAlg_not hok hg
    rw [encSgn] at c
    rw [ed]
    refine gI 31 Tryz.func24 ?_
    (have F := @tmz; refine gG ?_; clear F)
    refine gB ?_
    (have F := @tmz; refine gC (c) ?_; clear F)
    (have F := @tmz; refine gR ?_; clear F)
    (have F := And.intro @tmz @hf; refine gG ?_; exact gT)
  have c := conE_newAlg hok hg
  rw [encSgn] at c
  have c2 := fun mc => con_isPlain (mc := mc) hg hm hb
  rw [ed] at c2 ⊢
  refine gI 31 Tryz.func24 ?_
  (have F := @tmz; refine gG ?_; clear F)
  refine gB ?_
  (have F := @tmz; refine gCE (c) ?_; clear F)
  rintro r ⟨b, rfl⟩
  have c1 := c2 (.lit (.map (some b)))
  clear c2
  generalize C.lit (.map (some b)) = mc at c1 ⊢
  (have F := And.intro @retA_u @sa_some; refine gR ?_; clear F)
  (have F := @tmz; refine gG ?_; clear F)
  refine gB ?_
  (have F := @tmz; refine gC (c1) ?_; clear F)
  (have F := @tmz; refine gR ?_; clear F)
  (have F := @tmz; refine gG ?_; exact gT)
end
end Go.Proofs.YtofklmbljbkdaaaGreat
namespace Go.Proofs.YtofklmbljbkdaaaGreat
open Go.RowKit
set_option maxHeartbeats 40000000 in
set_option maxRecDepth 100000 in
theorem con_lawIsPlain {row0 : List C} (hok0 : okRow (moduleF) row0) {R0 : Bool} (hsp0 : bulkRow row0 ≤ 1048576 → Con e0 23 [.agg row0] [.one (.lit (.bool R0))]) (him0 : bulkRow row0 ≤ 1048576 → Con e0 24 [.agg row0] [.one (.lit (.bool R0))]) : Con e0 5 [.agg row0] [.one (.lit (.bool true))] := by
  have okc0 := hok0.cells
  obtain ⟨len0, tk0, dr0⟩ := hok0.take (n := 5) rfl
  refine gI 69208191 Tryz.func5 ?_
  (have F := And.intro @okc0 (And.intro @len0 (And.intro @tk0 (And.intro @dr0 @drop0))); refine gG ?_; clear F)
  have hL0_0 : (0 : Int) ≤ 1048576 := by omega
  have hL0_1 : (1048576 : Int) ≤ 1048576 := by omega
  refine gB ?_
  (have F := And.intro @okc0 (And.intro @len0 (And.intro @tk0 (And.intro @dr0 @drop0))); refine gC (con_szModule hok0 hL0_0 hL0_1) ?_; clear F)
  (have F := And.intro @okc0 (And.intro @len0 (And.intro @tk0 (And.intro @dr0 @drop0))); refine gR ?_; clear F)
  by_cases hb0 : ((bulkRow row0) : Int) ≤ 1048576
  rotate_left
  · have n1 : sub 1048576 (bulkRow row0) = -1 := sub_neg (by omega)
    have n2 : (-1 : Int) < 0 := by omega
    (have F := And.intro @n1 @n2; refine gG ?_; exact gT)
  have nq0 : sub 1048576 (bulkRow row0) = 1048576 - ((bulkRow row0) : Nat) := sub_pos (by omega)
  rw [nq0]
  clear nq0
  have hB0 : bulkRow row0 ≤ 1048576 := by omega
  have hL1_0 : (0 : Int) ≤ 1048576 - ((bulkRow row0) : Nat) := by omega
  have hL1_1 : (1048576 : Int) - ((bulkRow row0) : Nat) ≤ 1048576 := by omega
  generalize hgl0 : (1048576 : Int) - ((bulkRow row0) : Nat) = L1 at *
  clear hgl0
  have n2 : ¬ (L1 < 0) := by omega
  (have F := And.intro @n2 (And.intro @okc0 (And.intro @len0 (And.intro @tk0 (And.intro @dr0 @drop0)))); refine gG ?_; clear F)
  clear n2 hb0
  have hsp := hsp0 hB0
  have him := him0 hB0
  have cT0 := con_toModule hok0 hB0
  refine gB ?_
  (have F := And.intro @okc0 (And.intro @len0 (And.intro @tk0 (And.intro @dr0 @drop0))); refine gC (cT0) ?_; clear F)
  (have F := And.intro @okc0 (And.intro @len0 (And.intro @tk0 (And.intro @dr0 @drop0))); refine gC (hsp) ?_; clear F)
  (have F := And.intro @okc0 (And.intro @len0 (And.intro @tk0 (And.intro @dr0 @drop0))); refine gR ?_; clear F)
  (have F := And.intro @okc0 (And.intro @len0 (And.intro @tk0 (And.intro @dr0 @drop0))); refine gG ?_; clear F)
  refine gB ?_
  (have F := And.intro @okc0 (And.intro @len0 (And.intro @tk0 (And.intro @dr0 @drop0))); refine gC (cT0) ?_; clear F)
  (have F := And.intro @okc0 (And.intro @len0 (And.intro @tk0 (And.intro @dr0 @drop0))); refine gR ?_; clear F)
  (have F := And.intro @okc0 (And.intro @len0 (And.intro @tk0 (And.intro @dr0 @drop0))); refine gG ?_; clear F)
  refine gB ?_
  (have F := And.intro @okc0 (And.intro @len0 (And.intro @tk0 (And.intro @dr0 @drop0))); refine gC (him) ?_; clear F)
  (have F := And.intro @okc0 (And.intro @len0 (And.intro @tk0 (And.intro @dr0 @drop0))); refine gR ?_; clear F)
  (have F := And.intro @okc0 (And.intro @len0 (And.intro @tk0 (And.intro @dr0 (And.intro @drop0 @beq_self_eq_true.{0})))); refine gG ?_; clear F)
  refine gB ?_
  (have F := And.intro @okc0 (And.intro @len0 (And.intro @tk0 (And.intro @dr0 @drop0))); refine gC (cT0) ?_; clear F)
  (have F := And.intro @okc0 (And.intro @len0 (And.intro @tk0 (And.intro @dr0 @drop0))); refine gC (con_eqModule hok0) ?_; clear F)
  (have F := And.intro @okc0 (And.intro @len0 (And.intro @tk0 (And.intro @dr0 @drop0))); refine gR ?_; clear F)
  (have F := And.intro @okc0 (And.intro @len0 (And.intro @tk0 (And.intro @dr0 @drop0))); refine gG ?_; exact gT)
theorem lawExactIsPlain (w : World) (row0 : List C) (S0 : Nat → Prop) (us0 : List Value) (hok0 : okRow (moduleF) row0) (hv0 : RepVals w S0 row0 us0) :
    Calls Tryz.prog 5 #[(.agg us0.toArray : Value)] w fun e w' => e = .returned (.bool true) ∧ Below w.heap.size w w' := by
  obtain ⟨m, rfl, k0⟩ := decMod hok0
  have hc := (con_lawIsPlain hok0 (fun b0 => con_specPlain k0 b0) (fun b0 => con_implPlain k0 b0)).2 w (fun b => b < w.heap.size) [(.agg us0.toArray : Value)] (fun b hb => ⟨hb, id⟩) (fun b hb => hb.elim) trivial
    ⟨⟨us0, rfl, hv0.inside'⟩, trivial⟩
  refine hc.mono fun e w' ⟨v, h1, h2, _, h4⟩ => ⟨?_, h2.below⟩
  have h4 : v = .bool true := by simpa [retA, ARel, DRel, Rep] using h4
  rw [h1, h4]
end Go.Proofs.YtofklmbljbkdaaaGreat
namespace Go.Proofs.YtofklmbljbkdaaaGreat
open Go.ChangeShapes Go.WideShapes Go.ChangeAt Go.RowKit Go.Deep
set_option maxRecDepth 100000 in
theorem isPlain_holds_lifted (os : Os) (started : os.Started) (H : Type) (enc : TypeId × Value → H) :
    ReturnsInHanded {} Tryz.checked os 5 .any (Rows.fnExactIsPlainSpec.pre6 enc Tryz.prog Tryz.f5 Rows.fnExactIsPlainRow.domain false) (Rows.fnExactIsPlainSpec.post enc Tryz.prog Tryz.f5 false true false false) := by
  refine returnsInHanded_of_change (C := Tryz.checked) own started (by kernel_rfl) Tryz.func5
    (ChangeSpec.witness6 (enc := enc) (C := Tryz.checked) false ⟨#[], #[.agg #[.slice none 0 0, .slice none 0 0, .slice none 0 0, .slice none 0 0, .slice none 0 0]], []⟩ 8 (by kernel_rfl) (by kernel_rfl) (by kernel_rfl) (by kernel_rfl)) ?_
  intro W base args ds gs before hval0 hW _ _
  have hval : ∀ (j : Nat) t v, Tryz.f5.params[j]? = some t → args[j]? = some v → Value.okWide Tryz.prog W .any base t v := hval0
  have hW' := hW
  obtain ⟨p, q, hA0, hV, rfl, _, _⟩ := hW
  have hA : DataW.TrodAll enc Tryz.prog W 0 (fun _ => true) true Tryz.f5.params.toList args.toList ds p := hA0
  rw [Tryz.params5] at hA hval
  obtain ⟨v0, vs0, d0, ds0, p0, q0, hargs0, hd0, hp0, h0, r0⟩ := trodAll_cons hA
  obtain ⟨e1, e1d, _⟩ := trodAll_nil r0
  rw [e1] at hargs0
  obtain rfl : args = #[v0] := by cases args; simp_all
  rw [e1d] at hd0
  subst hd0
  obtain ⟨rfl, rfl⟩ := trodVars_none hV
  obtain ⟨cs0, rfl, _⟩ := okWide_struct Tryz.underlying31 (hval 0 31 v0 rfl rfl)
  obtain ⟨fuel0, hf0⟩ := h0
  obtain ⟨row0, hok0, hrep0⟩ := open_row seatTR fuel0 _ _ _ _ ty_Module hf0
  have e0c : (Value.agg cs0).cells.toList.toArray = cs0 := by simp [Value.cells]
  have hlaw := lawExactIsPlain W row0 _ _ hok0 hrep0
  rw [e0c] at hlaw
  refine hlaw.mono fun e W' ⟨he, hb⟩ => ?_
  subst he
  exact ⟨_, rfl, law_post laidOut rfl rfl Tryz.underlying4 (by rw [Tryz.params5]; decide +kernel) hW' rfl hb⟩
set_option maxHeartbeats 400000000 in
set_option maxRecDepth 100000 in
theorem isPlain_holds_closed : joinedFacts Tryz.checked.prog 5 Tryz.f5 Rows.fnExactIsPlainSpec Rows.fnExactIsPlainRow = true := by
  unfold joinedFacts
  simp only [Bool.and_eq_true]
  and_intros
  all_goals as_aux_lemma => kernel_rfl
theorem isPlain_holds_named : Tryz.checked.prog.funcNamed Rows.fnExactIsPlainRow.func = some 5 := by kernel_rfl
theorem isPlain_holds : Rows.FnExactIsPlainSaid :=
  OpenClaim.holds_of_wide 5 Tryz.f5 rfl rfl rfl rfl rfl rfl rfl ⟨rfl, rfl, rfl, rfl, rfl⟩ rfl rfl rfl rfl rfl isPlain_holds_named Tryz.func5 isPlain_holds_closed
    (of_decide_eq_true (by kernel_rfl)) (by unfold Func.isWrapper; rw [if_neg (of_decide_eq_false (by kernel_rfl))]; exact ⟨rfl, rfl⟩)
    (fun os started H enc _ => isPlain_holds_lifted os started H enc)
#print axioms isPlain_holds
end Go.Proofs.YtofklmbljbkdaaaGreat
