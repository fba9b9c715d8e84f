/-
  Part of a proof: Tj, Cf, LCondition, LEquation, LModule, Re, Or, Mt, Om, Ot, Mk, Hd, KsString, Hq, Os, Rd, Hm, KsSub, KtSorts, Mi, KsDecl, KsOp, KtSignature, KsCondition, KsEquation, KtModule, Cn, QcModule, QcStringS.
-/
import Derived.Test.YtohilkmdjdfljaaGreatBFormatModule0
import Derived.Test.YtohilkmdjdfljaaGreatBFormatModule1
import Derived.Test.YtohilkmdjdfljaaGreatBFormatModule2
import Derived.Test.YtohilkmdjdfljaaGreatBFormatModule3
import Derived.Test.YtohilkmdjdfljaaGreatRows
import Derived.Deep.RegionHeld3
set_option linter.unusedSimpArgs false
set_option linter.unusedVariables false
namespace Go.Proofs.YtohilkmdjdfljaaGreat
open Go.RowKit
section
variable {g : Sgn}
open Classical in
noncomputable def isRight (g : Sgn) (op : Int) (args : List Tm) : Bool := decide (RightOk g op args)
theorem unit_form (hg : SgnOk g) {op : Int} {o : Opr} (ho : g.ops[op.toNat]? = some o) (hu : o.unit ≠ 0) {a : Tm} (ha : FormOk g a) (hop : a.op = o.unit - 1) : a = unitTm o := by
 have hax := hg.axs o (List.mem_of_getElem? ho)
 have hlo := hax.lo
 obtain ⟨p, u, h⟩ := ha.node.app (by omega)
 obtain ⟨d, hd, _⟩ := hg.first ho
 have e : a.op.toNat = o.unit.toNat - 1 := by omega
 have hz : u.args.length = 0 := by
  have h2 := hax.two (.inr (.inr hu)) d hd
  obtain ⟨d0, hd0⟩ : ∃ x, d.args[0]? = some x := ⟨_, List.getElem?_eq_getElem (by omega)⟩
  obtain ⟨d1, hd1⟩ : ∃ x, d.args[1]? = some x := ⟨_, List.getElem?_eq_getElem (by omega)⟩
  exact ((h2.2 d0 d1 hd0 hd1).2.2 hu p u (by rw [<- e]; exact h.at') h.fst).1
 have has : p.assoc = false := by
  cases hp : p.assoc with
  | false => rfl
  | true =>
   have := ((hg.axs p (List.mem_of_getElem? h.at')).two (.inl hp) u h.fst).1
   omega
 have hl := h.nas has
 have hnil : a.args = [] := List.eq_nil_of_length_eq_zero (by omega)
 have hnm := h.nm
 have hso := h.so
 cases a with
 | mk x n s l =>
  simp only [Tm.args, Tm.name, Tm.sort, Tm.op] at *
  subst hnil hnm hso hop
  simp only [unitTm, if_neg hu]
theorem okTm_unit {o : Opr} (h0 : 0 <= o.unit) (h1 : o.unit <= 14) : okTm (unitTm o) := by
 rw [okTm_iff]
 simp only [unitTm, Tm.op, Tm.name, Tm.sort, Tm.args, okTms, and_true]
 refine ⟨?_, by simp [maxLen], ?_⟩
 ·unfold I64; split <;> omega
 ·unfold I64; omega
set_option maxHeartbeats 40000000 in
set_option maxRecDepth 100000 in
theorem con_l6Right (hokg : okSgn g) (hg : SgnOk g) {t : Tm} {o : Opr} {d : Dcl} (hA : AppOk g t o d) (hF : ∀ a ∈ t.args, FormOk g a) (hok : okTm t) (hb : sizeTm t <= big) : Con e0 129 [.agg (encSgn g), .agg (encTm t)] [.one (.lit (.bool (isRight g t.op t.args)))] := by
 have hno : ¬ RightOk g t.op t.args -> isRight g t.op t.args = false := fun h => by simp [isRight, h]
 obtain ⟨k1, k2, k3, k4⟩ := okTm_iff.1 hok
 have hsz := sizeTm_eq t
 have hal := sizeTms_len t.args
 unfold big at hb
 have h0 := hA.lo
 have ho := hA.at'
 have hd := hA.fst
 obtain ⟨d', hd', hr0, hr1, hargs⟩ := hg.first ho
 rw [hd] at hd'
 injection hd' with hd'
 subst hd'
 have hax := hg.axs o (List.mem_of_getElem? ho)
 have hlo := hax.lo
 have hhi := hax.hi
 have hln := hg.len
 have cK := con_l3Kinds hg.sorts
 rw [encSrt] at cK
 have cUn := con_l6Unit hg h0 ho
 rw [encSgn] at cUn
 have hnoA : ∀ (i : Nat) a, t.args[i]? = some a -> ¬ ArgOk g t.op o d t.args i a -> isRight g t.op t.args = false := fun i a ha h => hno fun hR => h (hR o d ho hd i a ha)
 refine gI 9903595872146772515857895423 Tryz.func129 ?_
 (have F := ai @tmz (ai @encSgn_u (ai @h0 (ai @ho @encOpr_u))); refine gG ?_; clear F)
 refine gB ?_
 (have F := @tmz; refine gC (cK) ?_; clear F)
 (have F := @tmz; refine gR ?_; clear F)
 (have F := @tmz; refine gG ?_; clear F)
 refine gB ?_
 (have F := @tmz; refine gC (cUn) ?_; clear F)
 (have F := @tmz; refine gR ?_; clear F)
 (have F := @tmz; refine gG ?_; clear F)
 (have F := @e0P; refine gL (ι := Nat) [4, 9, 10, 11, 32, 42, 76, 93] [] (fun i => [(9, A.d (.one (.lit (.int .i64 i))))]) (fun i => []) (fun i => i <= t.args.length ∧ ∀ (j : Nat) a, j < i -> t.args[j]? = some a -> ArgOk g t.op o d t.args j a) (fun i => t.args.length - i) (0) (⟨by omega, fun j a h => absurd h (by omega)⟩) (fun i hi => ?_); clear F)
 obtain ⟨hil, hall⟩ := hi
 by_cases hl : i < t.args.length
 rotate_left
 ·have hl' : ¬ ((i : Int) < (t.args.length : Int)) := by omega
  have hT : isRight g t.op t.args = true := by
   simp only [isRight, decide_eq_true_eq]
   intro o' d' ho' hd' j a hj
   rw [ho] at ho'
   injection ho' with ho'
   subst ho'
   rw [hd] at hd'
   injection hd' with hd'
   subst hd'
   exact hall j a (by have := (List.getElem?_eq_some_iff.1 hj).1; omega) hj
  (have F := ai @tmz (ai @hl' @hT); refine gG ?_; exact gT)
 have hl' : (i : Int) < (t.args.length : Int) := by omega
 obtain ⟨a, ha⟩ : ∃ a, t.args[i]? = some a := ⟨_, List.getElem?_eq_getElem hl⟩
 have hm := List.mem_of_getElem? ha
 have hFa := hF a hm
 have hw1 := wrap1 (k := i) (by omega)
 obtain ⟨k, hk⟩ := argAt_get hg ho hd hA.nas hl
 obtain ⟨hk0, hk1⟩ := hargs k (List.mem_of_getElem? hk)
 have hkd := kd_get hg.sorts hk0 hk1
 have cKa := con_l6Kind hokg hg hFa.node
 rw [encSgn] at cKa
 have cU := con_l5Same (k4.mem hm) (okTm_unit (o := o) hlo (by omega))
 have hUiff : o.unit ≠ 0 -> (cmpTm a (unitTm o) = 0 ↔ a.op = o.unit - 1) := fun hu => by
  rw [cmpTm_iff]
  constructor
  ·rintro h; rw [h]; simp [unitTm, Tm.op, hu]
  ·exact unit_form hg ho hu hFa
 generalize hU : decide (cmpTm a (unitTm o) = 0) = U at cU
 have hnext : kindTm g a = ((kd g.sorts k : Nat) : Int) -> (o.assoc = true -> ¬ a.op = t.op) -> (o.unit ≠ 0 -> U = false) -> (o.comm = true -> ∀ (j : Nat) p, i = j + 1 -> t.args[j]? = some p -> cmpTm p a <= 0) -> i + 1 <= t.args.length ∧ ∀ (j : Nat) a, j < i + 1 -> t.args[j]? = some a -> ArgOk g t.op o d t.args j a := fun hkk hne hU' hc => ⟨by omega, fun j a' hj ha' => by
  by_cases e : j = i
  ·subst e
   rw [ha] at ha'
   injection ha' with ha'
   subst ha'
   refine ⟨fun k' hk' => ?_, hne, fun h1 h2 => ?_, hc⟩
   ·rw [hk] at hk'
    injection hk' with hk'
    subst hk'
    exact hkk
   ·have := hU' h1
    rw [this] at hU
    simp only [decide_eq_false_iff_not] at hU
    exact hU ((hUiff h1).2 h2)
  ·exact hall j a' (by omega) ha'⟩
 have hkN : d.args[(argAt o i : Nat)]? = some k := hk
 (have F := ai @tmz (ai @hl' @ha); refine gG ?_; clear F)
 refine gM (ι := Unit) [11] [] (fun u => [(11, A.d (.one (.lit (.int .i64 (argAt o i : Nat)))))]) (fun u => []) (fun u => True) ?_ (fun u hu => Exists.intro _ (ai (Wk.refl _) ?_))
 ·rcases Bool.eq_false_or_eq_true o.assoc with hac | hac
  ·(have F := ai @encOpr_u (ai @hac @argAt_u); refine gG ?_; exact ⟨(), trivial, gw, gw⟩)
  ·(have F := ai @encOpr_u (ai @hac (ai @argAt_u @if_false.{1})); refine gG ?_; exact ⟨(), trivial, gw, gw⟩)
 (have F := @tmz; refine gG ?_; clear F)
 refine gM (ι := Bool) [76] [] (fun x => [(76, A.d (.one (.lit (.bool x))))]) (fun x => []) (fun x => (x = true -> isRight g t.op t.args = false) ∧ (x = false -> kindTm g a = ((kd g.sorts k : Nat) : Int) ∧ (o.assoc = true -> ¬ a.op = t.op) ∧ (o.unit ≠ 0 -> U = false))) ?_ (fun x hx => Exists.intro _ (ai (Wk.refl _) ?_))
 ·refine gB ?_
  (have F := @tmz; refine gC (cKa) ?_; clear F)
  by_cases hkk : kindTm g a = ((kd g.sorts k : Nat) : Int)
  rotate_left
  ·have hf := hnoA i a ha fun h => hkk (h.kind k hk)
   (have F := ai @tmz (ai @encOpr_u (ai @hd (ai @encDcl_u (ai @hkN (ai @hk0 (ai @hkd (ai @encInt_u @hkk))))))); refine gR ?_; clear F)
   (have F := @tmz; refine gG ?_; exact ⟨true, ⟨fun _ => hf, fun h => by cases h⟩, gw, gw⟩)
  by_cases hN : o.assoc = true ∧ a.op = t.op
  ·have hf := hnoA i a ha fun h => h.nest hN.1 hN.2
   obtain ⟨hN1, hN2⟩ := hN
   (have F := ai @tmz (ai @encOpr_u (ai @hd (ai @encDcl_u (ai @hkN (ai @hk0 (ai @hkd (ai @encInt_u (ai @hkk (ai @hN1 @hN2))))))))); refine gR ?_; clear F)
   (have F := ai @tmz @hN1; refine gG ?_; exact ⟨true, ⟨fun _ => hf, fun h => by cases h⟩, gw, gw⟩)
  have hne : o.assoc = true -> ¬ a.op = t.op := fun h1 h2 => hN ⟨h1, h2⟩
  rcases Bool.eq_false_or_eq_true o.assoc with hac | hac
  all_goals (
   by_cases hu : o.unit = 0
   ·(have F := ai @tmz (ai @encOpr_u (ai @hd (ai @encDcl_u (ai @hkN (ai @hk0 (ai @hkd (ai @encInt_u (ai @hkk (ai @hac (ai @hne @hu)))))))))); refine gR ?_; clear F)
    (have F := ai @tmz (ai @hac @hu); refine gG ?_; exact ⟨false, ⟨fun h => (by cases h), fun _ => ⟨hkk, hne, fun h => absurd hu h⟩⟩, gw, gw⟩)
   (have F := ai @tmz (ai @encOpr_u (ai @hd (ai @encDcl_u (ai @hkN (ai @hk0 (ai @hkd (ai @encInt_u (ai @hkk (ai @hac (ai @hne @hu)))))))))); refine gC (cU) ?_; clear F)
   rcases Bool.eq_false_or_eq_true U with hub | hub
   ·have hf := hnoA i a ha fun h => by
     rw [hub] at hU
     simp only [decide_eq_true_eq] at hU
     exact h.unit hu ((hUiff hu).1 hU)
    (have F := ai @tmz @hub; refine gR ?_; clear F)
    (have F := ai @tmz (ai @hac @hu); refine gG ?_; exact ⟨true, ⟨fun _ => hf, fun h => by cases h⟩, gw, gw⟩)
   ·(have F := ai @tmz @hub; refine gR ?_; clear F)
    (have F := ai @tmz (ai @hac @hu); refine gG ?_; exact ⟨false, ⟨fun h => (by cases h), fun _ => ⟨hkk, hne, fun _ => hub⟩⟩, gw, gw⟩))
 cases x with
 | true =>
  have hf := hx.1 rfl
  (have F := @hf; refine gG ?_; exact gT)
 | false =>
  obtain ⟨hkk, hne, hub⟩ := hx.2 rfl
  (have F := @tmz; refine gG ?_; clear F)
  rcases Bool.eq_false_or_eq_true o.comm with hcm | hcm
  rotate_left
  ·have hq := hnext hkk hne hub (fun h => by rw [hcm] at h; cases h)
   (have F := ai @hw1 (ai @tmz (ai @encOpr_u @hcm)); refine gG ?_; exact ⟨i + 1, hq, gw, gw, by omega⟩)
  rcases Nat.eq_zero_or_pos i with hi0 | hi0
  ·have hq := hnext hkk hne hub (fun _ j p h => by omega)
   have hi0' : ¬ ((0 : Int) < (i : Int)) := by omega
   (have F := ai @hw1 (ai @tmz (ai @encOpr_u (ai @hcm @hi0'))); refine gG ?_; exact ⟨i + 1, hq, gw, gw, by omega⟩)
  obtain ⟨j, hj⟩ : ∃ j, i = j + 1 := ⟨i - 1, by omega⟩
  obtain ⟨p, hp⟩ : ∃ p, t.args[j]? = some p := ⟨_, List.getElem?_eq_getElem (by omega)⟩
  have cC := con_specCmp (k4.mem (List.mem_of_getElem? hp)) (k4.mem hm)
  have hgt0 : (0 : Int) < (i : Int) := by omega
  have hsub : IntKind.i64.wrap ((i : Int) - 1) = (j : Int) := wrapN (by omega) (by omega) (by omega)
  refine gB ?_
  (have F := ai @tmz (ai @encOpr_u (ai @hcm (ai @hgt0 (ai @hsub @hp)))); refine gC (cC) ?_; clear F)
  by_cases hc : 0 < cmpTm p a
  ·have hf := hnoA i a ha fun h => by have := h.ord hcm j p hj hp; omega
   (have F := ai @tmz @hc; refine gR ?_; clear F)
   (have F := @hf; refine gG ?_; exact gT)
  ·have hq := hnext hkk hne hub (fun _ j' p' h hp' => by
    have : j' = j := by omega
    subst this
    rw [hp] at hp'
    injection hp' with hp'
    subst hp'
    omega)
   (have F := ai @tmz @hc; refine gR ?_; clear F)
   (have F := ai @hw1 (ai @tmz (ai @encOpr_u @hcm)); refine gG ?_; exact ⟨i + 1, hq, gw, gw, by omega⟩)
set_option maxHeartbeats 40000000 in
set_option maxRecDepth 100000 in
theorem con_l6Form_all (hokg : okSgn g) (hg : SgnOk g) : ∀ (n : Nat) (t : Tm), sizeTm t < n -> okTm t -> sizeTm t <= big -> Con e0 82 [.agg (encSgn g), .agg (encTm t)] [.one (.lit (.bool (isForm g t)))] := by
 intro n
 induction n with
 | zero => intro t h; omega
 | succ n ih =>
  intro t hn hok hb
  have hno : ¬ FormOk g t -> isForm g t = false := isForm_false
  obtain ⟨k1, k2, k3, k4⟩ := okTm_iff.1 hok
  have hsz := sizeTm_eq t
  have hal := sizeTms_len t.args
  have cN := con_l6Node hg hok hb
  have hb' := hb
  unfold big at hb'
  rw [encSgn] at cN
  have ih' := fun a h1 h2 h3 => ih a h1 h2 h3
  simp only [encSgn] at ih'
  refine gI 16794175 Tryz.func82 ?_
  (have F := ai @tmz @encSgn_u; refine gG ?_; clear F)
  refine gB ?_
  (have F := @tmz; refine gC (cN) ?_; clear F)
  by_cases hN : isNode g t = true
  rotate_left
  ·have hf := hno fun h => hN (isNode_true h.node)
   have hN' : isNode g t = false := by simpa using hN
   (have F := ai @tmz @hN'; refine gR ?_; clear F)
   (have F := @hf; refine gG ?_; exact gT)
  have hNd := isNode_iff.1 hN
  (have F := ai @tmz @hN; refine gR ?_; clear F)
  (have F := @tmz; refine gG ?_; clear F)
  (have F := @e0P; refine gL (ι := Nat) [4, 5, 14, 24] [] (fun i => [(5, A.d (.one (.lit (.int .i64 i))))]) (fun i => []) (fun i => i <= t.args.length ∧ ∀ (j : Nat) a, j < i -> t.args[j]? = some a -> FormOk g a) (fun i => t.args.length - i) (0) (⟨by omega, fun j a h => absurd h (by omega)⟩) (fun i hi => ?_); clear F)
  obtain ⟨hil, hall⟩ := hi
  by_cases hl : i < t.args.length
  rotate_left
  ·have hl' : ¬ ((i : Int) < (t.args.length : Int)) := by omega
   have hF : ∀ a ∈ t.args, FormOk g a := fun a ha => by
    obtain ⟨j, hj⟩ := List.getElem?_of_mem ha
    exact hall j a (by have := (List.getElem?_eq_some_iff.1 hj).1; omega) hj
   by_cases h1 : t.op = -1
   ·have hT := isForm_true (g := g) (t := t) (FormOk_iff.2 ⟨hNd, hF, .inl h1⟩)
    (have F := ai @tmz (ai @hl' (ai @h1 @hT)); refine gG ?_; exact gT)
   obtain ⟨o, d, hA⟩ := hNd.app h1
   have cR := con_l6Right hokg hg hA hF hok hb
   rw [encSgn] at cR
   have e : isRight g t.op t.args = isForm g t := by
    unfold isRight isForm
    congr 1
    rw [FormOk_iff]
    exact propext ⟨fun h => ⟨hNd, hF, .inr h⟩, fun h => h.2.2.resolve_left h1⟩
   (have F := ai @tmz (ai @hl' @h1); refine gG ?_; clear F)
   refine gB ?_
   (have F := ai @tmz @h1; refine gC (cR) ?_; clear F)
   (have F := @tmz; refine gR ?_; clear F)
   (have F := @e; refine gG ?_; exact gT)
  have hl' : (i : Int) < (t.args.length : Int) := by omega
  obtain ⟨a, ha⟩ : ∃ a, t.args[i]? = some a := ⟨_, List.getElem?_eq_getElem hl⟩
  have hm := List.mem_of_getElem? ha
  have hsa := sizeTms_mem hm
  have hw1 := wrap1 (k := i) (by omega)
  (have F := ai @tmz (ai @hl' @ha); refine gG ?_; clear F)
  refine gB ?_
  (have F := ai @tmz @ha; refine gC (ih' a (by omega) (k4.mem hm) (by unfold big; omega)) ?_; clear F)
  by_cases hfa : isForm g a = true
  rotate_left
  ·have hf := hno fun h => hfa (isForm_true ((FormOk_iff.1 h).2.1 a hm))
   have hfa' : isForm g a = false := by simpa using hfa
   (have F := ai @tmz @hfa'; refine gR ?_; clear F)
   (have F := @hf; refine gG ?_; exact gT)
  have hq : i + 1 <= t.args.length ∧ ∀ (j : Nat) a, j < i + 1 -> t.args[j]? = some a -> FormOk g a := ⟨by omega, fun j a' hj ha' => by
   by_cases e : j = i
   ·subst e
    rw [ha] at ha'
    injection ha' with ha'
    subst ha'
    exact isForm_iff.1 hfa
   ·exact hall j a' (by omega) ha'⟩
  (have F := ai @tmz @hfa; refine gR ?_; clear F)
  (have F := ai @hw1 @tmz; refine gG ?_; exact ⟨i + 1, hq, gw, gw, by omega⟩)
theorem con_l6Form (hokg : okSgn g) (hg : SgnOk g) {t : Tm} (hok : okTm t) (hb : sizeTm t <= big) : Con e0 82 [.agg (encSgn g), .agg (encTm t)] [.one (.lit (.bool (isForm g t)))] := con_l6Form_all hokg hg _ t (Nat.lt_succ_self _) hok hb
end
end Go.Proofs.YtohilkmdjdfljaaGreat
namespace Go.Proofs.YtohilkmdjdfljaaGreat
open Go.RowKit
theorem Con.weaken {e : Env} {f : FuncId} {args args' r : List D} (h : Con e f args' r) (ha : ∀ (w : World) (S : Nat -> Prop) (vs : List Value), DsRel w S args vs -> DsRel w S args' vs) : Con e f args r :=
 ⟨h.1, fun w S vs h1 h2 h3 h4 => h.2 w S vs h1 h2 h3 (ha w S vs h4)⟩
theorem least {P : Nat -> Prop} (h : ∃ n, P n) : ∃ n, P n ∧ ∀ m, m < n -> ¬ P m := by
 obtain ⟨n, hn⟩ := h
 induction n using Nat.strongRecOn with
 | _ n ih =>
  by_cases hx : ∃ m, m < n ∧ P m
  ·obtain ⟨m, hm, hp⟩ := hx; exact ih m hm hp
  ·exact ⟨n, hn, fun m hm hp => hx ⟨m, hm, hp⟩⟩
set_option maxHeartbeats 4000000 in
set_option maxRecDepth 100000 in
theorem con_indexFunc {ts : List Tm} {f : FuncId} {caps : List C} {P : Tm -> Bool} (hl : ts.length <= big) (h : ∀ a ∈ ts, Con e0 f (.agg (encTm a) :: caps.map .one) [.one (.lit (.bool (P a)))]) :
  ∃ r : Int, (0 <= r ↔ ts.any P = true) ∧ Con e0 201 [.one (.sl (encTms ts)), .one (.fn f caps)] [.one (.lit (.int .i64 r))] := by
 unfold big at hl
 by_cases hA : ts.any P = true
 ·obtain ⟨k, hk, hbef⟩ : ∃ k : Nat, (∃ a, ts[k]? = some a ∧ P a = true) ∧ ∀ (j : Nat) a, j < k -> ts[j]? = some a -> P a = false := by
   have hex : ∃ k : Nat, ∃ a, ts[k]? = some a ∧ P a = true := by
    obtain ⟨a, ha, hp⟩ := List.any_eq_true.1 hA
    obtain ⟨k, hk⟩ := List.getElem?_of_mem ha
    exact ⟨k, a, hk, hp⟩
   obtain ⟨k, hk, hmin⟩ := least hex
   refine ⟨k, hk, fun j a hj ha => ?_⟩
   cases hp : P a with
   | false => rfl
   | true => exact absurd ⟨a, ha, hp⟩ (hmin j hj)
  obtain ⟨a0, ha0, hp0⟩ := hk
  have hkl := (List.getElem?_eq_some_iff.1 ha0).1
  refine ⟨(k : Int), ⟨fun _ => hA, fun _ => by omega⟩, ?_⟩
  refine gI 66483 Tryz.func201 ?_
  (have F := @tmz; refine gG ?_; clear F)
  (have F := @e0P; refine gL (ι := Nat) [4, 5, 8, 9, 16] [] (fun i => [(8, A.d (.one (.lit (.int .i64 i))))]) (fun i => []) (fun i => i <= k) (fun i => k + 1 - i) (0) (by omega) (fun i hi => ?_); clear F)
  have hl' : (i : Int) < (ts.length : Int) := by omega
  obtain ⟨a, ha⟩ : ∃ a, ts[i]? = some a := ⟨_, List.getElem?_eq_getElem (by omega)⟩
  have hw1 := wrap1 (k := i) (by omega)
  (have F := ai @tmz @hl'; refine gG ?_; clear F)
  refine gB ?_
  (have F := ai @tmz @ha; refine gC (h a (List.mem_of_getElem? ha)) ?_; clear F)
  by_cases hik : i = k
  ·subst hik
   rw [ha] at ha0
   injection ha0 with ha0
   subst ha0
   (have F := ai @tmz @hp0; refine gR ?_; clear F)
   (have F := @tmz; refine gG ?_; exact gT)
  ·have hpf := hbef i a (by omega) ha
   (have F := ai @tmz @hpf; refine gR ?_; clear F)
   (have F := ai @hw1 @tmz; refine gG ?_; exact ⟨i + 1, by omega, gw, gw, by omega⟩)
 ·have hbef : ∀ (j : Nat) a, ts[j]? = some a -> P a = false := fun j a ha => by
   cases hp : P a with
   | false => rfl
   | true => exact absurd (List.any_eq_true.2 ⟨a, List.mem_of_getElem? ha, hp⟩) hA
  refine ⟨-1, ⟨fun h => by omega, fun h => absurd h hA⟩, ?_⟩
  refine gI 66483 Tryz.func201 ?_
  (have F := @tmz; refine gG ?_; clear F)
  (have F := @e0P; refine gL (ι := Nat) [4, 5, 8, 9, 16] [] (fun i => [(8, A.d (.one (.lit (.int .i64 i))))]) (fun i => []) (fun i => i <= ts.length) (fun i => ts.length - i) (0) (by omega) (fun i hi => ?_); clear F)
  by_cases hi' : i < ts.length
  rotate_left
  ·have hl' : ¬ ((i : Int) < (ts.length : Int)) := by omega
   (have F := ai @tmz @hl'; refine gG ?_; exact gT)
  have hl' : (i : Int) < (ts.length : Int) := by omega
  obtain ⟨a, ha⟩ : ∃ a, ts[i]? = some a := ⟨_, List.getElem?_eq_getElem (by omega)⟩
  have hw1 := wrap1 (k := i) (by omega)
  have hpf := hbef i a ha
  (have F := ai @tmz @hl'; refine gG ?_; clear F)
  refine gB ?_
  (have F := ai @tmz @ha; refine gC (h a (List.mem_of_getElem? ha)) ?_; clear F)
  (have F := ai @tmz @hpf; refine gR ?_; clear F)
  (have F := ai @hw1 @tmz; refine gG ?_; exact ⟨i + 1, by omega, gw, gw, by omega⟩)
set_option maxHeartbeats 4000000 in
set_option maxRecDepth 100000 in
theorem con_containsFunc {ts : List Tm} {f : FuncId} {caps : List C} {P : Tm -> Bool} (hl : ts.length <= big) (h : ∀ a ∈ ts, Con e0 f (.agg (encTm a) :: caps.map .one) [.one (.lit (.bool (P a)))]) :
  Con e0 185 [.one (.sl (encTms ts)), .one (.fn f caps)] [.one (.lit (.bool (ts.any P)))] := by
 obtain ⟨r, hr, c⟩ := con_indexFunc hl h
 refine gI 19 Tryz.func185 ?_
 (have F := @tmz; refine gG ?_; clear F)
 refine gB ?_
 (have F := @tmz; refine gC (c) ?_; clear F)
 have e : decide (0 <= r) = ts.any P := by
  rw [Bool.eq_iff_iff, decide_eq_true_iff]; exact hr
 (have F := @tmz; refine gR ?_; clear F)
 (have F := @e; refine gG ?_; exact gT)
mutual
theorem bulk_size : ∀ t : Tm, sizeTm t <= bulkRow (encTm t) + 1
 | .mk _ _ _ args => by
  have := bulk_sizes args
  simp only [sizeTm, encTm, bulkRow, bulkC]
  omega
theorem bulk_sizes : ∀ ts : List Tm, sizeTms ts <= (encTms ts).length + bulkRows (encTms ts)
 | [] => by simp [sizeTms]
 | t :: ts => by
  have h1 := bulk_size t
  have h2 := bulk_sizes ts
  simp only [sizeTms, encTms, List.length_cons, bulkRows]
  omega
end
theorem big_of_bulk {t : Tm} (h : bulkRow (encTm t) <= 1048576) : sizeTm t <= big := by
 have := bulk_size t
 unfold big
 omega
end Go.Proofs.YtohilkmdjdfljaaGreat
namespace Go.Proofs.YtohilkmdjdfljaaGreat
open Go.RowKit
theorem okRow_Condition {r : List C} (h : okRow (fieldsOf .cond) r) : ∃ (i0 : Int) (t1 : ByteArray) (i2 : Int) (r3 : List (List C)) (i4 : Int) (t5 : ByteArray) (i6 : Int) (r7 : List (List C)), r = [.lit (.int .i64 i0), .lit (.string t1), .lit (.int .i64 i2), .sl r3, .lit (.int .i64 i4), .lit (.string t5), .lit (.int .i64 i6), .sl r7] ∧ I64 i0 ∧ t1.size <= maxLen ∧ I64 i2 ∧ okRows (fieldsOf .term) r3 ∧ I64 i4 ∧ t5.size <= maxLen ∧ I64 i6 ∧ okRows (fieldsOf .term) r7 := by
 obtain ⟨c0, c1, c2, c3, c4, c5, c6, c7, rfl⟩ := len8 h.len
 simp only [fieldsOf, termF, occF, sortsF, sigF, moduleF, algF, List.cons_append, List.nil_append, okRow, and_true] at h
 obtain ⟨h0, h1, h2, h3, h4, h5, h6, h7⟩ := h
 obtain ⟨i0, rfl, g0⟩ := okC_int h0
 obtain ⟨t1, rfl, g1⟩ := okC_str h1
 obtain ⟨i2, rfl, g2⟩ := okC_int h2
 obtain ⟨r3, rfl, g3⟩ := okC_sl h3
 obtain ⟨i4, rfl, g4⟩ := okC_int h4
 obtain ⟨t5, rfl, g5⟩ := okC_str h5
 obtain ⟨i6, rfl, g6⟩ := okC_int h6
 obtain ⟨r7, rfl, g7⟩ := okC_sl h7
 exact ⟨i0, t1, i2, r3, i4, t5, i6, r7, rfl, g0, g1, g2, g3, g4, g5, g6, g7⟩
theorem repVals_Condition {w : World} {S : Nat -> Prop} {i0 : Int} {t1 : ByteArray} {i2 : Int} {r3 : List (List C)} {i4 : Int} {t5 : ByteArray} {i6 : Int} {r7 : List (List C)} {us : List Value} (h : RepVals w S [.lit (.int .i64 i0), .lit (.string t1), .lit (.int .i64 i2), .sl r3, .lit (.int .i64 i4), .lit (.string t5), .lit (.int .i64 i6), .sl r7] us) : ∃ v3 v7, us = [.int .i64 i0, .string t1, .int .i64 i2, v3, .int .i64 i4, .string t5, .int .i64 i6, v7] ∧ Rep w S (.sl r3) v3 ∧ Rep w S (.sl r7) v7 := by
 obtain ⟨u0, u1, u2, u3, u4, u5, u6, u7, rfl⟩ := len8 h.len
 simp only [RepVals, Rep.lit_iff, and_true] at h
 obtain ⟨rfl, rfl, rfl, e3, rfl, rfl, rfl, e7⟩ := h
 exact ⟨u3, u7, rfl, e3, e7⟩
def szConditionC (row : List C) : Prop := ∀ (S : Nat -> Prop) (us : List Value) (left : Int) (w : World), okRow (fieldsOf .cond) row -> RepVals w S row us -> 0 <= left -> left <= 1048576 ->
 Calls Tryz.prog 180 #[.agg us.toArray, .int .i64 left] w fun e w' => e = .returned (.int .i64 (sub left (bulkRow row))) ∧ Below w.heap.size w w'
def eqConditionC (row : List C) : Prop := ∀ (S S' : Nat -> Prop) (us us' : List Value) (w : World), okRow (fieldsOf .cond) row -> RepVals w S row us -> RepVals w S' row us' ->
 Calls Tryz.prog 190 #[.agg us.toArray, .agg us'.toArray] w fun e w' => e = .returned (.bool true) ∧ Below w.heap.size w w'
def toConditionC (row : List C) : Prop := ∀ (S : Nat -> Prop) (us : List Value) (w : World), okRow (fieldsOf .cond) row -> RepVals w S row us -> bulkRow row <= 1048576 ->
 Calls Tryz.prog 182 #[.agg us.toArray] w fun e w' => ∃ us' : List Value, e = .returned (.agg us'.toArray) ∧ OwnVals w' row (fun x => w.heap.size <= x ∧ x < w'.heap.size) us' ∧ Below w.heap.size w w'
def szConditionSC (rows : List (List C)) : Prop := ∀ (S : Nat -> Prop) (v : Value) (left : Int) (w : World), okRows (fieldsOf .cond) rows -> Rep w S (.sl rows) v -> 0 <= left -> left <= 1048576 ->
 Calls Tryz.prog 150 #[v, .int .i64 left] w fun e w' => e = .returned (.int .i64 (sub left (rows.length + bulkRows rows))) ∧ Below w.heap.size w w'
def eqConditionSC (rows : List (List C)) : Prop := ∀ (S S' : Nat -> Prop) (v v' : Value) (w : World), okRows (fieldsOf .cond) rows -> Rep w S (.sl rows) v -> Rep w S' (.sl rows) v' ->
 Calls Tryz.prog 160 #[v, v'] w fun e w' => e = .returned (.bool true) ∧ Below w.heap.size w w'
def toConditionSC (rows : List (List C)) : Prop := ∀ (S : Nat -> Prop) (v : Value) (w : World), okRows (fieldsOf .cond) rows -> Rep w S (.sl rows) v -> rows.length + bulkRows rows <= 1048576 ->
 Calls Tryz.prog 155 #[v] w fun e w' => ∃ v', e = .returned v' ∧ Own w' (.sl rows) (fun x => w.heap.size <= x ∧ x < w'.heap.size) v' ∧ Below w.heap.size w w'
set_option maxHeartbeats 1000000 in
theorem szCondition_of (row : List C) : szConditionC row := by
 intro S us left w hok hv h0 h1
 obtain ⟨i0, t1, i2, r3, i4, t5, i6, r7, rfl, g0, g1, g2, g3, g4, g5, g6, g7⟩ := okRow_Condition hok
 obtain ⟨v3, v7, rfl, e3, e7⟩ := repVals_Condition hv
 have HC0 := Lib.hid (szTerm_any [.lit (.int .i64 i0), .lit (.string t1), .lit (.int .i64 i2), .sl r3])
 have HC4 := Lib.hid (szTerm_any [.lit (.int .i64 i4), .lit (.string t5), .lit (.int .i64 i6), .sl r7])
 have HB := Lib.hid (show bulkRow [.lit (.int .i64 i0), .lit (.string t1), .lit (.int .i64 i2), .sl r3, .lit (.int .i64 i4), .lit (.string t5), .lit (.int .i64 i6), .sl r7] = (bulkRow [.lit (.int .i64 i0), .lit (.string t1), .lit (.int .i64 i2), .sl r3]) + (bulkRow [.lit (.int .i64 i4), .lit (.string t5), .lit (.int .i64 i6), .sl r7]) from by simp only [bulkRow, bulkC]; omega)
 have G0 := Lib.hid g0
 have G1 := Lib.hid g1
 have G2 := Lib.hid g2
 have G3 := Lib.hid g3
 have G4 := Lib.hid g4
 have G5 := Lib.hid g5
 have G6 := Lib.hid g6
 have G7 := Lib.hid g7
 clear g0 g1 g2 g3 g4 g5 g6 g7 hok
 have E3 := Lib.hid e3
 have E7 := Lib.hid e7
 clear hv e3 e7
 generalize hrow : bulkRow [.lit (.int .i64 i0), .lit (.string t1), .lit (.int .i64 i2), .sl r3, .lit (.int .i64 i4), .lit (.string t5), .lit (.int .i64 i6), .sl r7] = total at HB ⊢
 clear hrow
 have hbw := (Below.refl w.heap.size w).alloc (Nat.le_refl _) (.cells #[.int .i64 i0, .string t1, .int .i64 i2, v3, .int .i64 i4, .string t5, .int .i64 i6, v7] 231)
 go_enter Tryz.func180, Tryz.ntmps180
 go_wp2_with fail
 by_cases q0 : left < ((bulkRow [.lit (.int .i64 i0), .lit (.string t1), .lit (.int .i64 i2), .sl r3]) : Nat)
 ·refine (HC0.out S _ _ _ (mkRow_Term G0.out G1.out G2.out G3.out) (mkVals_Term (E3.out.below hbw)) (by omega) (by omega)).mono ?_
  rw [sub_neg (by omega)]
  rintro e w1 ⟨rfl, hb1⟩
  go_wp2
  go_ret
  exact ⟨ret_int (a := -1) (sub_neg (by have := HB.out; omega)).symm, hbw.trans (hb1.mono hbw.size)⟩
 refine (HC0.out S _ _ _ (mkRow_Term G0.out G1.out G2.out G3.out) (mkVals_Term (E3.out.below hbw)) (by omega) (by omega)).mono ?_
 rw [sub_pos (by omega)]
 rintro e w1 ⟨rfl, hb1⟩
 obtain ⟨hc1, hf1⟩ := bcell hb1
 have hz1 : w.heap.size < w1.heap.size := (by have := hb1.size; (try simp at this); omega)
 replace hbw := hbw.trans (hb1.mono hbw.size)
 go_wp2_with fail
 by_cases q4 : (left - (((bulkRow [.lit (.int .i64 i0), .lit (.string t1), .lit (.int .i64 i2), .sl r3]) : Nat) : Int)) < ((bulkRow [.lit (.int .i64 i4), .lit (.string t5), .lit (.int .i64 i6), .sl r7]) : Nat)
 ·refine (HC4.out S _ _ _ (mkRow_Term G4.out G5.out G6.out G7.out) (mkVals_Term (E7.out.below hbw)) (by omega) (by omega)).mono ?_
  rw [sub_neg (by omega)]
  rintro e w2 ⟨rfl, hb2⟩
  go_wp2
  go_ret
  exact ⟨ret_int (a := -1) (sub_neg (by have := HB.out; omega)).symm, hbw.trans (hb2.mono hbw.size)⟩
 refine (HC4.out S _ _ _ (mkRow_Term G4.out G5.out G6.out G7.out) (mkVals_Term (E7.out.below hbw)) (by omega) (by omega)).mono ?_
 rw [sub_pos (by omega)]
 rintro e w2 ⟨rfl, hb2⟩
 obtain ⟨hc2, hf2⟩ := bcell hb2
 have hz2 : w.heap.size < w2.heap.size := (by have := hb2.size; (try simp at this); omega)
 replace hbw := hbw.trans (hb2.mono hbw.size)
 go_wp2
 go_ret
 exact ⟨ret_int (by have := HB.out; rw [sub_pos (by omega)]; omega), hbw⟩
set_option maxHeartbeats 1000000 in
theorem eqCondition_of (row : List C) : eqConditionC row := by
 intro S S' us us' w hok hv hv'
 obtain ⟨i0, t1, i2, r3, i4, t5, i6, r7, rfl, g0, g1, g2, g3, g4, g5, g6, g7⟩ := okRow_Condition hok
 obtain ⟨v3, v7, rfl, e3, e7⟩ := repVals_Condition hv
 obtain ⟨x3, x7, rfl, d3, d7⟩ := repVals_Condition hv'
 have HC0 := Lib.hid (eqTerm_any [.lit (.int .i64 i0), .lit (.string t1), .lit (.int .i64 i2), .sl r3])
 have HC4 := Lib.hid (eqTerm_any [.lit (.int .i64 i4), .lit (.string t5), .lit (.int .i64 i6), .sl r7])
 have G0 := Lib.hid g0
 have G1 := Lib.hid g1
 have G2 := Lib.hid g2
 have G3 := Lib.hid g3
 have G4 := Lib.hid g4
 have G5 := Lib.hid g5
 have G6 := Lib.hid g6
 have G7 := Lib.hid g7
 clear g0 g1 g2 g3 g4 g5 g6 g7 hok
 have E3 := Lib.hid e3
 have D3 := Lib.hid d3
 have E7 := Lib.hid e7
 have D7 := Lib.hid d7
 clear hv hv' e3 d3 e7 d7
 have hbw := ((Below.refl w.heap.size w).alloc (Nat.le_refl _) (.cells #[.int .i64 i0, .string t1, .int .i64 i2, v3, .int .i64 i4, .string t5, .int .i64 i6, v7] 175)).alloc (by simp) (.cells #[.int .i64 i0, .string t1, .int .i64 i2, x3, .int .i64 i4, .string t5, .int .i64 i6, x7] 175)
 go_enter Tryz.func190, Tryz.ntmps190
 go_wp2_with fail
 refine (HC0.out S S' _ _ _ (mkRow_Term G0.out G1.out G2.out G3.out) (mkVals_Term (E3.out.below hbw)) (mkVals_Term (D3.out.below hbw))).mono ?_
 rintro e w1 ⟨rfl, hb1⟩
 obtain ⟨hc1, hf1⟩ := bcell hb1
 have hz1 : w.heap.size + 1 < w1.heap.size := (by have := hb1.size; (try simp at this); omega)
 have ha1 : w.heap.size < w1.heap.size := by omega
 replace hbw := hbw.trans (hb1.mono hbw.size)
 go_wp2_with fail
 refine (HC4.out S S' _ _ _ (mkRow_Term G4.out G5.out G6.out G7.out) (mkVals_Term (E7.out.below hbw)) (mkVals_Term (D7.out.below hbw))).mono ?_
 rintro e w2 ⟨rfl, hb2⟩
 obtain ⟨hc2, hf2⟩ := bcell hb2
 have hz2 : w.heap.size + 1 < w2.heap.size := (by have := hb2.size; (try simp at this); omega)
 have ha2 : w.heap.size < w2.heap.size := by omega
 replace hbw := hbw.trans (hb2.mono hbw.size)
 go_wp2
 go_ret
 exact ⟨rfl, hbw⟩
set_option maxHeartbeats 2000000 in
theorem toCondition_of (row : List C) : toConditionC row := by
 intro S us w hok hv hlen
 obtain ⟨i0, t1, i2, r3, i4, t5, i6, r7, rfl, g0, g1, g2, g3, g4, g5, g6, g7⟩ := okRow_Condition hok
 obtain ⟨v3, v7, rfl, e3, e7⟩ := repVals_Condition hv
 have HC0 := Lib.hid (toTerm_any [.lit (.int .i64 i0), .lit (.string t1), .lit (.int .i64 i2), .sl r3])
 have HC4 := Lib.hid (toTerm_any [.lit (.int .i64 i4), .lit (.string t5), .lit (.int .i64 i6), .sl r7])
 have G0 := Lib.hid g0
 have G1 := Lib.hid g1
 have G2 := Lib.hid g2
 have G3 := Lib.hid g3
 have G4 := Lib.hid g4
 have G5 := Lib.hid g5
 have G6 := Lib.hid g6
 have G7 := Lib.hid g7
 clear g0 g1 g2 g3 g4 g5 g6 g7 hok
 have E3 := Lib.hid e3
 have E7 := Lib.hid e7
 clear hv e3 e7
 have hl0 : (bulkRow [.lit (.int .i64 i0), .lit (.string t1), .lit (.int .i64 i2), .sl r3]) <= 1048576 := by
  have e : (bulkRow [.lit (.int .i64 i0), .lit (.string t1), .lit (.int .i64 i2), .sl r3]) <= bulkRow [.lit (.int .i64 i0), .lit (.string t1), .lit (.int .i64 i2), .sl r3, .lit (.int .i64 i4), .lit (.string t5), .lit (.int .i64 i6), .sl r7] := by simp only [bulkRow, bulkC]; omega
  exact Nat.le_trans e hlen
 have hl4 : (bulkRow [.lit (.int .i64 i4), .lit (.string t5), .lit (.int .i64 i6), .sl r7]) <= 1048576 := by
  have e : (bulkRow [.lit (.int .i64 i4), .lit (.string t5), .lit (.int .i64 i6), .sl r7]) <= bulkRow [.lit (.int .i64 i0), .lit (.string t1), .lit (.int .i64 i2), .sl r3, .lit (.int .i64 i4), .lit (.string t5), .lit (.int .i64 i6), .sl r7] := by simp only [bulkRow, bulkC]; omega
  exact Nat.le_trans e hlen
 clear hlen
 go_enter Tryz.func182, Tryz.ntmps182
 go_wp2_with fail
 refine (HC0.out S _ _ (mkRow_Term G0.out G1.out G2.out G3.out) (by exact mkVals_Term (E3.out.below (by repeat (first | refine Below.alloc ?_ (by simp; try omega) _ | exact Below.refl _ _)))) hl0).mono ?_
 rintro e w1 ⟨ys0, rfl, hown0, hb1⟩
 obtain ⟨y3, rfl, f3⟩ := repVals_Term (OwnVals.rep _ _ (fun _ => True) _ (fun _ _ => trivial) hown0)
 obtain ⟨A3, n3, cap3, rfl, _, _, _⟩ := f3.form
 clear f3
 have hz1 := hb1.size
 simp at hz1 hown0
 have HOWN0 := Lib.hid hown0
 clear hown0
 have hbw1 : Below w.heap.size w w1 := Below.trans (by repeat (first | refine Below.alloc ?_ (by simp; try omega) _ | exact Below.refl _ _)) (hb1.mono (by simp; try omega))
 obtain ⟨hc1, hf1⟩ := bcell hb1
 have ha1 : w.heap.size < w1.heap.size := by omega
 have hbb1 : w.heap.size + 1 < w1.heap.size := by omega
 have hcc1 : w.heap.size + 1 + 1 < w1.heap.size := by omega
 go_wp2_with fail
 refine (HC4.out S _ _ (mkRow_Term G4.out G5.out G6.out G7.out) (by exact mkVals_Term (E7.out.below (by repeat (first | refine Below.setCell ?_ (by simp; try omega) _ | exact hbw1)))) hl4).mono ?_
 rintro e w2 ⟨ys4, rfl, hown4, hb2⟩
 obtain ⟨y7, rfl, f7⟩ := repVals_Term (OwnVals.rep _ _ (fun _ => True) _ (fun _ _ => trivial) hown4)
 obtain ⟨A7, n7, cap7, rfl, _, _, _⟩ := f7.form
 clear f7
 have hz2 := hb2.size
 simp at hz2 hown4
 have HOWN4 := Lib.hid hown4
 clear hown4
 have hbw2 : Below w.heap.size w w2 := Below.trans (by repeat (first | refine Below.setCell ?_ (by simp; try omega) _ | exact hbw1)) (hb2.mono (by simp; try omega))
 obtain ⟨hc2, hf2⟩ := bcell hb2
 have ha2 : w.heap.size < w2.heap.size := by omega
 have hbb2 : w.heap.size + 1 < w2.heap.size := by omega
 have hcc2 : w.heap.size + 1 + 1 < w2.heap.size := by omega
 go_wp2
 refine bodyPost_ret (v := .agg #[.int .i64 i0, .string t1, .int .i64 i2, .slice A3 n3 cap3, .int .i64 i4, .string t5, .int .i64 i6, .slice A7 n7 cap7]) (by simp [results, Tryz.results182, go_sem, hc1, ha1, hbb1, hcc1, hc2, ha2, hbb2, hcc2]) rfl ⟨[.int .i64 i0, .string t1, .int .i64 i2, .slice A3 n3 cap3, .int .i64 i4, .string t5, .int .i64 i6, .slice A7 n7 cap7], rfl, ?_, (by repeat (first | refine Below.setCell ?_ (by simp; try omega) _ | exact hbw2))⟩
 simp
 exact (OwnVals.append (cs := [.lit (.int .i64 i0), .lit (.string t1), .lit (.int .i64 i2), .sl r3]) (ds := [.lit (.int .i64 i4), .lit (.string t5), .lit (.int .i64 i6), .sl r7]) (us := [.int .i64 i0, .string t1, .int .i64 i2, .slice A3 n3 cap3]) (vs := [.int .i64 i4, .string t5, .int .i64 i6, .slice A7 n7 cap7]) (fun x => w.heap.size + 1 + 1 + 1 <= x ∧ x < w1.heap.size) (fun x => w1.heap.size <= x ∧ x < w2.heap.size) (HOWN0.out.same (by repeat (first | refine Same.trans ?_ (Same.setCell _ _ _ _ (by simp; try omega)) | refine Same.trans ?_ ((Same.below hb2).mono (fun x hx => by simp at hx ⊢; omega)) | exact Same.refl _ _))) (OwnVals.append (cs := [.lit (.int .i64 i4), .lit (.string t5), .lit (.int .i64 i6), .sl r7]) (ds := []) (us := [.int .i64 i4, .string t5, .int .i64 i6, .slice A7 n7 cap7]) (vs := []) (fun x => w1.heap.size <= x ∧ x < w2.heap.size) (fun x => w2.heap.size <= x ∧ x < w2.heap.size) (HOWN4.out.same (by repeat (first | refine Same.trans ?_ (Same.setCell _ _ _ _ (by simp; try omega)) | exact Same.refl _ _))) OwnVals.nil (fun x hx => ⟨by omega, by omega⟩) (fun x hx => ⟨by omega, by omega⟩) (fun x hx hy => by omega)) (fun x hx => ⟨by omega, by omega⟩) (fun x hx => ⟨by omega, by omega⟩) (fun x hx hy => by omega))
theorem szCondition_any (row : List C) : szConditionC row := szCondition_of row
theorem eqCondition_any (row : List C) : eqConditionC row := eqCondition_of row
theorem toCondition_any (row : List C) : toConditionC row := toCondition_of row
set_option maxHeartbeats 1000000 in
theorem szConditionS_of (rows : List (List C)) (h : ∀ (i : Nat) r, rows[i]? = some r -> szConditionC r) : szConditionSC rows := by
 intro S v left w hok hv h0 h1
 obtain ⟨A, m, cap, rfl, hm, hmc, hcm⟩ := hv.form
 have H := Lib.hid h
 have HV := Lib.hid hv
 have HM := Lib.hid hm
 have HOK := Lib.hid hok
 clear h hv hm hok
 unfold maxLen at hcm
 by_cases hlt : left - m < 0
 ·rw [sub_neg (by have := HM.out; omega)]
  go_enter Tryz.func150, Tryz.ntmps150
  go_wp2
  go_ret
  exact ⟨rfl, Below.refl _ _⟩
 ·go_enter Tryz.func150, Tryz.ntmps150
  go_wp2
  go_loopw [1, 5] (fun l i wr => ∃ k : Nat, k <= m ∧ i = .int .i64 k ∧ l = .int .i64 (left - m - (bulkRows (rows.take k) : Int)) ∧ 0 <= left - m - (bulkRows (rows.take k) : Int) ∧ Below w.heap.size w wr) (fun _ i _ => m - (intOf i).toNat)
  case atStart => exact ⟨0, Nat.zero_le _, rfl, by simp [bulkRows], by simp [bulkRows]; omega, Below.refl _ _⟩
  case round =>
   obtain ⟨k, hk, rfl, rfl, hl0, hb⟩ := hrel
   by_cases hkm : k < m
   ·obtain ⟨b, off, r, rfl, hS, hbz, hget, hokr, hrow⟩ := (HV.out.below hb).get HOK.out hkm
    obtain ⟨u0, u1, u2, u3, u4, u5, u6, u7, c0, c1, c2, c3, c4, c5, c6, c7, hvals⟩ := hrow.vals8 hokr.len
    have HT := H.out k r hget
    have HVALS := Lib.hid hvals
    have HOKR := Lib.hid hokr
    have HBT := Lib.hid (bulk_take hget)
    have hle := bulk_take_le rows (k+1)
    clear hvals hokr hrow hget
    simp only [fieldsOf, termF, occF, sortsF, sigF, moduleF, algF, List.cons_append, List.nil_append, List.length_cons, List.length_nil, Nat.reduceAdd, Nat.mul_one] at c0 c1 c2 c3 c4 c5 c6 c7
    by_cases h2 : left - m - (bulkRows (rows.take k) : Int) < bulkRow r
    ·go_wp2_with fail
     refine (HT S _ _ _ HOKR.out HVALS.out (by omega) (by omega)).mono ?_
     rw [sub_neg h2]
     rintro e w' ⟨rfl, hb2⟩
     go_wp2
     go_ret
     exact ⟨ret_int (a := -1) (sub_neg (by have := HBT.out; have := HM.out; omega)).symm, hb.trans (hb2.mono hb.size)⟩
    ·go_wp2_with fail
     refine (HT S _ _ _ HOKR.out HVALS.out (by omega) (by omega)).mono ?_
     rw [sub_pos (by omega)]
     rintro e w' ⟨rfl, hb2⟩
     go_wp2
     go_roundw
     case rel => exact ⟨k + 1, by omega, by go_num, by have := HBT.out; congr 1; omega, by have := HBT.out; omega, hb.trans (hb2.mono hb.size)⟩
     case measure => simp [intOf]; omega
   ·go_wp2
    go_ret
    have e : k = m := by omega
    subst e
    have : rows.take k = rows := List.take_of_length_le (by have := HM.out; omega)
    rw [this] at hl0 ⊢
    exact ⟨ret_int (by have := HM.out; rw [sub_pos (by omega)]; omega), hb⟩
set_option maxHeartbeats 1000000 in
theorem eqConditionS_of (rows : List (List C)) (h : ∀ (i : Nat) r, rows[i]? = some r -> eqConditionC r) : eqConditionSC rows := by
 intro S S' v v' w hok hv hv'
 obtain ⟨A, m, cap, rfl, hm, hmc, hcm⟩ := hv.form
 obtain ⟨A', m', cap', rfl, hm', hmc', hcm'⟩ := hv'.form
 obtain rfl : m = m' := by omega
 have H := Lib.hid h
 have HV := Lib.hid hv
 have HV' := Lib.hid hv'
 have HM := Lib.hid hm
 have HOK := Lib.hid hok
 clear h hv hm hok hm' hv'
 unfold maxLen at hcm hcm'
 go_enter Tryz.func160, Tryz.ntmps160
 go_wp2
 go_loopw [5] (fun i wr => ∃ k : Nat, k <= m ∧ i = .int .i64 k ∧ Below w.heap.size w wr) (fun i _ => m - (intOf i).toNat)
 case atStart => exact ⟨0, Nat.zero_le _, rfl, Below.refl _ _⟩
 case round =>
  obtain ⟨k, hk, rfl, hb⟩ := hrel
  by_cases hkm : k < m
  ·obtain ⟨b, off, r, rfl, hS, hbz, hget, hokr, hrow⟩ := (HV.out.below hb).get HOK.out hkm
   obtain ⟨b', off', r', rfl, hS', hbz', hget', hokr', hrow'⟩ := (HV'.out.below hb).get HOK.out hkm
   obtain rfl : r = r' := by rw [hget] at hget'; exact Option.some.inj hget'
   obtain ⟨u0, u1, u2, u3, u4, u5, u6, u7, c0, c1, c2, c3, c4, c5, c6, c7, hvals⟩ := hrow.vals8 hokr.len
   obtain ⟨x0, x1, x2, x3, x4, x5, x6, x7, d0, d1, d2, d3, d4, d5, d6, d7, hvals'⟩ := hrow'.vals8 hokr.len
   have HT := H.out k r hget
   have HVALS := Lib.hid hvals
   have HVALS' := Lib.hid hvals'
   have HOKR := Lib.hid hokr
   clear hvals hvals' hokr hokr' hrow hrow' hget hget'
   simp only [fieldsOf, termF, occF, sortsF, sigF, moduleF, algF, List.cons_append, List.nil_append, List.length_cons, List.length_nil, Nat.reduceAdd, Nat.mul_one] at c0 c1 c2 c3 c4 c5 c6 c7 d0 d1 d2 d3 d4 d5 d6 d7
   have k0 : (0 : Int) <= (k : Int) := by omega
   have k1 : (k : Int) < (m : Int) := by omega
   go_wp2_with fail
   go_region_held3 (fun w' => ∀ b o, b < wr.heap.size -> w'.cell? ⟨b, o, none⟩ = wr.cell? ⟨b, o, none⟩) (first | go_keep | exact fun b o h => hb2.cell (p := ⟨b, o, none⟩) h) (first | (go_at_call 190; refine (HT S S' _ _ _ HOKR.out (HVALS.out.below (Below.refl _ _).drew) (HVALS'.out.below (Below.refl _ _).drew)).mono ?_; rintro e w' ⟨rfl, hb2⟩))
   go_wp2
   go_roundw
   case rel => exact ⟨k + 1, by omega, by go_num, hb.trans ((Below.refl _ _).drew.trans (hb2.mono hb.size))⟩
   case measure => simp [intOf]; omega
  ·go_wp2
   go_ret
   exact ⟨rfl, hb⟩
theorem info_Condition : (Tryz.prog.info? 175).map (fun i => (i.zero, i.size, i.bytes)) = some (some (.agg #[.int .i64 0, .string .empty, .int .i64 0, .slice none 0 0, .int .i64 0, .string .empty, .int .i64 0, .slice none 0 0]), 8, 112) := by kernel_rfl
set_option maxHeartbeats 1000000 in
theorem toConditionS_of (rows : List (List C)) (h : ∀ (i : Nat) r, rows[i]? = some r -> toConditionC r) : toConditionSC rows := by
 intro S v w hok hv hlen
 obtain ⟨A, m, cap, rfl, hm, hmc, hcm⟩ := hv.form
 obtain ⟨i0, hi, hz0, hz1, hz2⟩ := info_parts info_Condition
 have H := Lib.hid h
 have HV := Lib.hid hv
 have HM := Lib.hid hm
 have HOK := Lib.hid hok
 have hml : m <= 1048576 := by omega
 clear h hv hm hok
 unfold maxLen at hcm
 have hmk := run_make (P := Tryz.prog) w 122 175 i0 _ Tryz.underlying122 hi hz0 .i64 .i64 (m : Int) (m : Int) (by omega) (by omega) (by rw [hz2]; omega) (by omega)
 go_enter Tryz.func155, Tryz.ntmps155
 go_wp2
 clear hmk
 go_loopw [4] (fun i wr => ∃ k : Nat, k <= m ∧ i = .int .i64 k ∧ Filling w w.heap.size 175 m 8 rows k wr) (fun i _ => m - (intOf i).toNat)
 case atStart => exact ⟨0, Nat.zero_le _, rfl, Filling.start (size_madeCells _ _)⟩
 case round =>
  obtain ⟨k, hk, rfl, hfill⟩ := hrel
  have hb := hfill.1
  by_cases hkm : k < m
  ·obtain ⟨b, off, r, rfl, hS, hbz, hget, hokr, hrow⟩ := (HV.out.below hb).get HOK.out hkm
   obtain ⟨u0, u1, u2, u3, u4, u5, u6, u7, c0, c1, c2, c3, c4, c5, c6, c7, hvals⟩ := hrow.vals8 hokr.len
   have HT := H.out k r hget
   have HVALS := Lib.hid hvals
   have HOKR := Lib.hid hokr
   have HGET := Lib.hid hget
   have HF := Lib.hid hfill
   have hbg := bulk_get hget
   clear hvals hokr hrow hget hfill
   simp only [fieldsOf, termF, occF, sortsF, sigF, moduleF, algF, List.cons_append, List.nil_append, List.length_cons, List.length_nil, Nat.reduceAdd, Nat.mul_one] at c0 c1 c2 c3 c4 c5 c6 c7
   go_wp2_with fail
   refine (HT S _ _ HOKR.out HVALS.out (by omega)).mono ?_
   rintro e w2 ⟨us, rfl, hown, hb2⟩
   have hone := HOKR.out.one (OwnVals.rep _ _ (fun _ => True) _ (fun _ _ => trivial) hown)
   obtain ⟨y0, y1, y2, y3, y4, y5, y6, y7, rfl⟩ := len8 (hown.len.trans HOKR.out.len)
   have HOWN := Lib.hid hown
   have HONE := Lib.hid hone
   obtain ⟨cur, hcur, hcs⟩ := HF.out.row hb2
   have HCUR := Lib.hid hcur
   have HCS := Lib.hid hcs
   clear hown hone hcur hcs
   go_wp2_with (refine wpList_store_put rfl 175 _ _ rfl w.heap.size (k * 8) rfl [y0, y1, y2, y3, y4, y5, y6, y7] rfl i0 hi hz1 175 cur HCUR.out (by have := HCS.out; simp only [List.length_cons, List.length_nil]; omega) HONE.out ?_; intro w3 hput)
   go_roundw
   case rel => exact ⟨k + 1, by omega, by go_num, HF.out.step (fs := fieldsOf .cond) HOK.out HGET.out hb2 HOWN.out hput⟩
   case measure => simp [intOf]; omega
  ·go_wp2
   go_ret
   have e : k = m := by omega
   subst e
   exact ⟨_, rfl, hfill.done HM.out (by unfold maxLen; omega) (by decide) HOK.out.lens⟩
theorem szConditionS_any (rows : List (List C)) : szConditionSC rows := szConditionS_of rows (fun _ r _ => szCondition_any r)
theorem eqConditionS_any (rows : List (List C)) : eqConditionSC rows := eqConditionS_of rows (fun _ r _ => eqCondition_any r)
theorem toConditionS_any (rows : List (List C)) : toConditionSC rows := toConditionS_of rows (fun _ r _ => toCondition_any r)
end Go.Proofs.YtohilkmdjdfljaaGreat
namespace Go.Proofs.YtohilkmdjdfljaaGreat
open Go.RowKit
theorem okRow_Equation {r : List C} (h : okRow (fieldsOf .eqn) r) : ∃ (i0 : Int) (t1 : ByteArray) (i2 : Int) (r3 : List (List C)) (i4 : Int) (t5 : ByteArray) (i6 : Int) (r7 : List (List C)) (r8 : List (List C)), r = [.lit (.int .i64 i0), .lit (.string t1), .lit (.int .i64 i2), .sl r3, .lit (.int .i64 i4), .lit (.string t5), .lit (.int .i64 i6), .sl r7, .sl r8] ∧ I64 i0 ∧ t1.size <= maxLen ∧ I64 i2 ∧ okRows (fieldsOf .term) r3 ∧ I64 i4 ∧ t5.size <= maxLen ∧ I64 i6 ∧ okRows (fieldsOf .term) r7 ∧ okRows (fieldsOf .cond) r8 := by
 obtain ⟨c0, c1, c2, c3, c4, c5, c6, c7, c8, rfl⟩ := len9 h.len
 simp only [fieldsOf, termF, occF, sortsF, sigF, moduleF, algF, List.cons_append, List.nil_append, okRow, and_true] at h
 obtain ⟨h0, h1, h2, h3, h4, h5, h6, h7, h8⟩ := h
 obtain ⟨i0, rfl, g0⟩ := okC_int h0
 obtain ⟨t1, rfl, g1⟩ := okC_str h1
 obtain ⟨i2, rfl, g2⟩ := okC_int h2
 obtain ⟨r3, rfl, g3⟩ := okC_sl h3
 obtain ⟨i4, rfl, g4⟩ := okC_int h4
 obtain ⟨t5, rfl, g5⟩ := okC_str h5
 obtain ⟨i6, rfl, g6⟩ := okC_int h6
 obtain ⟨r7, rfl, g7⟩ := okC_sl h7
 obtain ⟨r8, rfl, g8⟩ := okC_sl h8
 exact ⟨i0, t1, i2, r3, i4, t5, i6, r7, r8, rfl, g0, g1, g2, g3, g4, g5, g6, g7, g8⟩
theorem repVals_Equation {w : World} {S : Nat -> Prop} {i0 : Int} {t1 : ByteArray} {i2 : Int} {r3 : List (List C)} {i4 : Int} {t5 : ByteArray} {i6 : Int} {r7 : List (List C)} {r8 : List (List C)} {us : List Value} (h : RepVals w S [.lit (.int .i64 i0), .lit (.string t1), .lit (.int .i64 i2), .sl r3, .lit (.int .i64 i4), .lit (.string t5), .lit (.int .i64 i6), .sl r7, .sl r8] us) : ∃ v3 v7 v8, us = [.int .i64 i0, .string t1, .int .i64 i2, v3, .int .i64 i4, .string t5, .int .i64 i6, v7, v8] ∧ Rep w S (.sl r3) v3 ∧ Rep w S (.sl r7) v7 ∧ Rep w S (.sl r8) v8 := by
 obtain ⟨u0, u1, u2, u3, u4, u5, u6, u7, u8, rfl⟩ := len9 h.len
 simp only [RepVals, Rep.lit_iff, and_true] at h
 obtain ⟨rfl, rfl, rfl, e3, rfl, rfl, rfl, e7, e8⟩ := h
 exact ⟨u3, u7, u8, rfl, e3, e7, e8⟩
def szEquationC (row : List C) : Prop := ∀ (S : Nat -> Prop) (us : List Value) (left : Int) (w : World), okRow (fieldsOf .eqn) row -> RepVals w S row us -> 0 <= left -> left <= 1048576 ->
 Calls Tryz.prog 112 #[.agg us.toArray, .int .i64 left] w fun e w' => e = .returned (.int .i64 (sub left (bulkRow row))) ∧ Below w.heap.size w w'
def eqEquationC (row : List C) : Prop := ∀ (S S' : Nat -> Prop) (us us' : List Value) (w : World), okRow (fieldsOf .eqn) row -> RepVals w S row us -> RepVals w S' row us' ->
 Calls Tryz.prog 119 #[.agg us.toArray, .agg us'.toArray] w fun e w' => e = .returned (.bool true) ∧ Below w.heap.size w w'
def toEquationC (row : List C) : Prop := ∀ (S : Nat -> Prop) (us : List Value) (w : World), okRow (fieldsOf .eqn) row -> RepVals w S row us -> bulkRow row <= 1048576 ->
 Calls Tryz.prog 115 #[.agg us.toArray] w fun e w' => ∃ us' : List Value, e = .returned (.agg us'.toArray) ∧ OwnVals w' row (fun x => w.heap.size <= x ∧ x < w'.heap.size) us' ∧ Below w.heap.size w w'
def szEquationSC (rows : List (List C)) : Prop := ∀ (S : Nat -> Prop) (v : Value) (left : Int) (w : World), okRows (fieldsOf .eqn) rows -> Rep w S (.sl rows) v -> 0 <= left -> left <= 1048576 ->
 Calls Tryz.prog 65 #[v, .int .i64 left] w fun e w' => e = .returned (.int .i64 (sub left (rows.length + bulkRows rows))) ∧ Below w.heap.size w w'
def eqEquationSC (rows : List (List C)) : Prop := ∀ (S S' : Nat -> Prop) (v v' : Value) (w : World), okRows (fieldsOf .eqn) rows -> Rep w S (.sl rows) v -> Rep w S' (.sl rows) v' ->
 Calls Tryz.prog 73 #[v, v'] w fun e w' => e = .returned (.bool true) ∧ Below w.heap.size w w'
def toEquationSC (rows : List (List C)) : Prop := ∀ (S : Nat -> Prop) (v : Value) (w : World), okRows (fieldsOf .eqn) rows -> Rep w S (.sl rows) v -> rows.length + bulkRows rows <= 1048576 ->
 Calls Tryz.prog 69 #[v] w fun e w' => ∃ v', e = .returned v' ∧ Own w' (.sl rows) (fun x => w.heap.size <= x ∧ x < w'.heap.size) v' ∧ Below w.heap.size w w'
set_option maxHeartbeats 1000000 in
theorem szEquation_of (row : List C) : szEquationC row := by
 intro S us left w hok hv h0 h1
 obtain ⟨i0, t1, i2, r3, i4, t5, i6, r7, r8, rfl, g0, g1, g2, g3, g4, g5, g6, g7, g8⟩ := okRow_Equation hok
 obtain ⟨v3, v7, v8, rfl, e3, e7, e8⟩ := repVals_Equation hv
 have HC0 := Lib.hid (szTerm_any [.lit (.int .i64 i0), .lit (.string t1), .lit (.int .i64 i2), .sl r3])
 have HC4 := Lib.hid (szTerm_any [.lit (.int .i64 i4), .lit (.string t5), .lit (.int .i64 i6), .sl r7])
 have HC8 := Lib.hid (szConditionS_any r8)
 have HB := Lib.hid (show bulkRow [.lit (.int .i64 i0), .lit (.string t1), .lit (.int .i64 i2), .sl r3, .lit (.int .i64 i4), .lit (.string t5), .lit (.int .i64 i6), .sl r7, .sl r8] = (bulkRow [.lit (.int .i64 i0), .lit (.string t1), .lit (.int .i64 i2), .sl r3]) + (bulkRow [.lit (.int .i64 i4), .lit (.string t5), .lit (.int .i64 i6), .sl r7]) + (r8.length + bulkRows r8) from by simp only [bulkRow, bulkC]; omega)
 have G0 := Lib.hid g0
 have G1 := Lib.hid g1
 have G2 := Lib.hid g2
 have G3 := Lib.hid g3
 have G4 := Lib.hid g4
 have G5 := Lib.hid g5
 have G6 := Lib.hid g6
 have G7 := Lib.hid g7
 have G8 := Lib.hid g8
 clear g0 g1 g2 g3 g4 g5 g6 g7 g8 hok
 have E3 := Lib.hid e3
 have E7 := Lib.hid e7
 have E8 := Lib.hid e8
 clear hv e3 e7 e8
 generalize hrow : bulkRow [.lit (.int .i64 i0), .lit (.string t1), .lit (.int .i64 i2), .sl r3, .lit (.int .i64 i4), .lit (.string t5), .lit (.int .i64 i6), .sl r7, .sl r8] = total at HB ⊢
 clear hrow
 have hbw := (Below.refl w.heap.size w).alloc (Nat.le_refl _) (.cells #[.int .i64 i0, .string t1, .int .i64 i2, v3, .int .i64 i4, .string t5, .int .i64 i6, v7, v8] 171)
 go_enter Tryz.func112, Tryz.ntmps112
 go_wp2_with fail
 by_cases q0 : left < ((bulkRow [.lit (.int .i64 i0), .lit (.string t1), .lit (.int .i64 i2), .sl r3]) : Nat)
 ·refine (HC0.out S _ _ _ (mkRow_Term G0.out G1.out G2.out G3.out) (mkVals_Term (E3.out.below hbw)) (by omega) (by omega)).mono ?_
  rw [sub_neg (by omega)]
  rintro e w1 ⟨rfl, hb1⟩
  go_wp2
  go_ret
  exact ⟨ret_int (a := -1) (sub_neg (by have := HB.out; omega)).symm, hbw.trans (hb1.mono hbw.size)⟩
 refine (HC0.out S _ _ _ (mkRow_Term G0.out G1.out G2.out G3.out) (mkVals_Term (E3.out.below hbw)) (by omega) (by omega)).mono ?_
 rw [sub_pos (by omega)]
 rintro e w1 ⟨rfl, hb1⟩
 obtain ⟨hc1, hf1⟩ := bcell hb1
 have hz1 : w.heap.size < w1.heap.size := (by have := hb1.size; (try simp at this); omega)
 replace hbw := hbw.trans (hb1.mono hbw.size)
 go_wp2_with fail
 by_cases q4 : (left - (((bulkRow [.lit (.int .i64 i0), .lit (.string t1), .lit (.int .i64 i2), .sl r3]) : Nat) : Int)) < ((bulkRow [.lit (.int .i64 i4), .lit (.string t5), .lit (.int .i64 i6), .sl r7]) : Nat)
 ·refine (HC4.out S _ _ _ (mkRow_Term G4.out G5.out G6.out G7.out) (mkVals_Term (E7.out.below hbw)) (by omega) (by omega)).mono ?_
  rw [sub_neg (by omega)]
  rintro e w2 ⟨rfl, hb2⟩
  go_wp2
  go_ret
  exact ⟨ret_int (a := -1) (sub_neg (by have := HB.out; omega)).symm, hbw.trans (hb2.mono hbw.size)⟩
 refine (HC4.out S _ _ _ (mkRow_Term G4.out G5.out G6.out G7.out) (mkVals_Term (E7.out.below hbw)) (by omega) (by omega)).mono ?_
 rw [sub_pos (by omega)]
 rintro e w2 ⟨rfl, hb2⟩
 obtain ⟨hc2, hf2⟩ := bcell hb2
 have hz2 : w.heap.size < w2.heap.size := (by have := hb2.size; (try simp at this); omega)
 replace hbw := hbw.trans (hb2.mono hbw.size)
 go_wp2_with fail
 by_cases q8 : ((left - (((bulkRow [.lit (.int .i64 i0), .lit (.string t1), .lit (.int .i64 i2), .sl r3]) : Nat) : Int)) - (((bulkRow [.lit (.int .i64 i4), .lit (.string t5), .lit (.int .i64 i6), .sl r7]) : Nat) : Int)) < ((r8.length + bulkRows r8) : Nat)
 ·refine (HC8.out S _ _ _ G8.out (E8.out.below hbw) (by omega) (by omega)).mono ?_
  rw [sub_neg (by omega)]
  rintro e w3 ⟨rfl, hb3⟩
  go_wp2
  go_ret
  exact ⟨ret_int (a := -1) (sub_neg (by have := HB.out; omega)).symm, hbw.trans (hb3.mono hbw.size)⟩
 refine (HC8.out S _ _ _ G8.out (E8.out.below hbw) (by omega) (by omega)).mono ?_
 rw [sub_pos (by omega)]
 rintro e w3 ⟨rfl, hb3⟩
 obtain ⟨hc3, hf3⟩ := bcell hb3
 have hz3 : w.heap.size < w3.heap.size := (by have := hb3.size; (try simp at this); omega)
 replace hbw := hbw.trans (hb3.mono hbw.size)
 go_wp2
 go_ret
 exact ⟨ret_int (by have := HB.out; rw [sub_pos (by omega)]; omega), hbw⟩
set_option maxHeartbeats 1000000 in
theorem eqEquation_of (row : List C) : eqEquationC row := by
 intro S S' us us' w hok hv hv'
 obtain ⟨i0, t1, i2, r3, i4, t5, i6, r7, r8, rfl, g0, g1, g2, g3, g4, g5, g6, g7, g8⟩ := okRow_Equation hok
 obtain ⟨v3, v7, v8, rfl, e3, e7, e8⟩ := repVals_Equation hv
 obtain ⟨x3, x7, x8, rfl, d3, d7, d8⟩ := repVals_Equation hv'
 have HC0 := Lib.hid (eqTerm_any [.lit (.int .i64 i0), .lit (.string t1), .lit (.int .i64 i2), .sl r3])
 have HC4 := Lib.hid (eqTerm_any [.lit (.int .i64 i4), .lit (.string t5), .lit (.int .i64 i6), .sl r7])
 have HC8 := Lib.hid (eqConditionS_any r8)
 have G0 := Lib.hid g0
 have G1 := Lib.hid g1
 have G2 := Lib.hid g2
 have G3 := Lib.hid g3
 have G4 := Lib.hid g4
 have G5 := Lib.hid g5
 have G6 := Lib.hid g6
 have G7 := Lib.hid g7
 have G8 := Lib.hid g8
 clear g0 g1 g2 g3 g4 g5 g6 g7 g8 hok
 have E3 := Lib.hid e3
 have D3 := Lib.hid d3
 have E7 := Lib.hid e7
 have D7 := Lib.hid d7
 have E8 := Lib.hid e8
 have D8 := Lib.hid d8
 clear hv hv' e3 d3 e7 d7 e8 d8
 have hbw := ((Below.refl w.heap.size w).alloc (Nat.le_refl _) (.cells #[.int .i64 i0, .string t1, .int .i64 i2, v3, .int .i64 i4, .string t5, .int .i64 i6, v7, v8] 124)).alloc (by simp) (.cells #[.int .i64 i0, .string t1, .int .i64 i2, x3, .int .i64 i4, .string t5, .int .i64 i6, x7, x8] 124)
 go_enter Tryz.func119, Tryz.ntmps119
 go_wp2_with fail
 refine (HC0.out S S' _ _ _ (mkRow_Term G0.out G1.out G2.out G3.out) (mkVals_Term (E3.out.below hbw)) (mkVals_Term (D3.out.below hbw))).mono ?_
 rintro e w1 ⟨rfl, hb1⟩
 obtain ⟨hc1, hf1⟩ := bcell hb1
 have hz1 : w.heap.size + 1 < w1.heap.size := (by have := hb1.size; (try simp at this); omega)
 have ha1 : w.heap.size < w1.heap.size := by omega
 replace hbw := hbw.trans (hb1.mono hbw.size)
 go_wp2_with fail
 refine (HC4.out S S' _ _ _ (mkRow_Term G4.out G5.out G6.out G7.out) (mkVals_Term (E7.out.below hbw)) (mkVals_Term (D7.out.below hbw))).mono ?_
 rintro e w2 ⟨rfl, hb2⟩
 obtain ⟨hc2, hf2⟩ := bcell hb2
 have hz2 : w.heap.size + 1 < w2.heap.size := (by have := hb2.size; (try simp at this); omega)
 have ha2 : w.heap.size < w2.heap.size := by omega
 replace hbw := hbw.trans (hb2.mono hbw.size)
 go_wp2_with fail
 refine (HC8.out S S' _ _ _ G8.out (E8.out.below hbw) (D8.out.below hbw)).mono ?_
 rintro e w3 ⟨rfl, hb3⟩
 obtain ⟨hc3, hf3⟩ := bcell hb3
 have hz3 : w.heap.size + 1 < w3.heap.size := (by have := hb3.size; (try simp at this); omega)
 have ha3 : w.heap.size < w3.heap.size := by omega
 replace hbw := hbw.trans (hb3.mono hbw.size)
 go_wp2
 go_ret
 exact ⟨rfl, hbw⟩
set_option maxHeartbeats 2000000 in
theorem toEquation_of (row : List C) : toEquationC row := by
 intro S us w hok hv hlen
 obtain ⟨i0, t1, i2, r3, i4, t5, i6, r7, r8, rfl, g0, g1, g2, g3, g4, g5, g6, g7, g8⟩ := okRow_Equation hok
 obtain ⟨v3, v7, v8, rfl, e3, e7, e8⟩ := repVals_Equation hv
 have HC0 := Lib.hid (toTerm_any [.lit (.int .i64 i0), .lit (.string t1), .lit (.int .i64 i2), .sl r3])
 have HC4 := Lib.hid (toTerm_any [.lit (.int .i64 i4), .lit (.string t5), .lit (.int .i64 i6), .sl r7])
 have HC8 := Lib.hid (toConditionS_any r8)
 have G0 := Lib.hid g0
 have G1 := Lib.hid g1
 have G2 := Lib.hid g2
 have G3 := Lib.hid g3
 have G4 := Lib.hid g4
 have G5 := Lib.hid g5
 have G6 := Lib.hid g6
 have G7 := Lib.hid g7
 have G8 := Lib.hid g8
 clear g0 g1 g2 g3 g4 g5 g6 g7 g8 hok
 have E3 := Lib.hid e3
 have E7 := Lib.hid e7
 have E8 := Lib.hid e8
 clear hv e3 e7 e8
 have hl0 : (bulkRow [.lit (.int .i64 i0), .lit (.string t1), .lit (.int .i64 i2), .sl r3]) <= 1048576 := by
  have e : (bulkRow [.lit (.int .i64 i0), .lit (.string t1), .lit (.int .i64 i2), .sl r3]) <= bulkRow [.lit (.int .i64 i0), .lit (.string t1), .lit (.int .i64 i2), .sl r3, .lit (.int .i64 i4), .lit (.string t5), .lit (.int .i64 i6), .sl r7, .sl r8] := by simp only [bulkRow, bulkC]; omega
  exact Nat.le_trans e hlen
 have hl4 : (bulkRow [.lit (.int .i64 i4), .lit (.string t5), .lit (.int .i64 i6), .sl r7]) <= 1048576 := by
  have e : (bulkRow [.lit (.int .i64 i4), .lit (.string t5), .lit (.int .i64 i6), .sl r7]) <= bulkRow [.lit (.int .i64 i0), .lit (.string t1), .lit (.int .i64 i2), .sl r3, .lit (.int .i64 i4), .lit (.string t5), .lit (.int .i64 i6), .sl r7, .sl r8] := by simp only [bulkRow, bulkC]; omega
  exact Nat.le_trans e hlen
 have hl8 : (r8.length + bulkRows r8) <= 1048576 := by
  have e : (r8.length + bulkRows r8) <= bulkRow [.lit (.int .i64 i0), .lit (.string t1), .lit (.int .i64 i2), .sl r3, .lit (.int .i64 i4), .lit (.string t5), .lit (.int .i64 i6), .sl r7, .sl r8] := by simp only [bulkRow, bulkC]; omega
  exact Nat.le_trans e hlen
 clear hlen
 go_enter Tryz.func115, Tryz.ntmps115
 go_wp2_with fail
 refine (HC0.out S _ _ (mkRow_Term G0.out G1.out G2.out G3.out) (by exact mkVals_Term (E3.out.below (by repeat (first | refine Below.alloc ?_ (by simp; try omega) _ | exact Below.refl _ _)))) hl0).mono ?_
 rintro e w1 ⟨ys0, rfl, hown0, hb1⟩
 obtain ⟨y3, rfl, f3⟩ := repVals_Term (OwnVals.rep _ _ (fun _ => True) _ (fun _ _ => trivial) hown0)
 obtain ⟨A3, n3, cap3, rfl, _, _, _⟩ := f3.form
 clear f3
 have hz1 := hb1.size
 simp at hz1 hown0
 have HOWN0 := Lib.hid hown0
 clear hown0
 have hbw1 : Below w.heap.size w w1 := Below.trans (by repeat (first | refine Below.alloc ?_ (by simp; try omega) _ | exact Below.refl _ _)) (hb1.mono (by simp; try omega))
 obtain ⟨hc1, hf1⟩ := bcell hb1
 have ha1 : w.heap.size < w1.heap.size := by omega
 have hbb1 : w.heap.size + 1 < w1.heap.size := by omega
 have hcc1 : w.heap.size + 1 + 1 < w1.heap.size := by omega
 go_wp2_with fail
 refine (HC4.out S _ _ (mkRow_Term G4.out G5.out G6.out G7.out) (by exact mkVals_Term (E7.out.below (by repeat (first | refine Below.setCell ?_ (by simp; try omega) _ | exact hbw1)))) hl4).mono ?_
 rintro e w2 ⟨ys4, rfl, hown4, hb2⟩
 obtain ⟨y7, rfl, f7⟩ := repVals_Term (OwnVals.rep _ _ (fun _ => True) _ (fun _ _ => trivial) hown4)
 obtain ⟨A7, n7, cap7, rfl, _, _, _⟩ := f7.form
 clear f7
 have hz2 := hb2.size
 simp at hz2 hown4
 have HOWN4 := Lib.hid hown4
 clear hown4
 have hbw2 : Below w.heap.size w w2 := Below.trans (by repeat (first | refine Below.setCell ?_ (by simp; try omega) _ | exact hbw1)) (hb2.mono (by simp; try omega))
 obtain ⟨hc2, hf2⟩ := bcell hb2
 have ha2 : w.heap.size < w2.heap.size := by omega
 have hbb2 : w.heap.size + 1 < w2.heap.size := by omega
 have hcc2 : w.heap.size + 1 + 1 < w2.heap.size := by omega
 go_wp2_with fail
 refine (HC8.out S _ _ G8.out (by exact E8.out.below (by repeat (first | refine Below.setCell ?_ (by simp; try omega) _ | exact hbw2))) hl8).mono ?_
 rintro e w3 ⟨y8, rfl, hown8, hb3⟩
 obtain ⟨A8, n8, cap8, rfl, _, _, _⟩ := (Own.rep _ _ _ hown8).form
 have hz3 := hb3.size
 simp at hz3 hown8
 have HOWN8 := Lib.hid hown8
 clear hown8
 have hbw3 : Below w.heap.size w w3 := Below.trans (by repeat (first | refine Below.setCell ?_ (by simp; try omega) _ | exact hbw2)) (hb3.mono (by simp; try omega))
 obtain ⟨hc3, hf3⟩ := bcell hb3
 have ha3 : w.heap.size < w3.heap.size := by omega
 have hbb3 : w.heap.size + 1 < w3.heap.size := by omega
 have hcc3 : w.heap.size + 1 + 1 < w3.heap.size := by omega
 go_wp2
 refine bodyPost_ret (v := .agg #[.int .i64 i0, .string t1, .int .i64 i2, .slice A3 n3 cap3, .int .i64 i4, .string t5, .int .i64 i6, .slice A7 n7 cap7, .slice A8 n8 cap8]) (by simp [results, Tryz.results115, go_sem, hc1, ha1, hbb1, hcc1, hc2, ha2, hbb2, hcc2, hc3, ha3, hbb3, hcc3]) rfl ⟨[.int .i64 i0, .string t1, .int .i64 i2, .slice A3 n3 cap3, .int .i64 i4, .string t5, .int .i64 i6, .slice A7 n7 cap7, .slice A8 n8 cap8], rfl, ?_, (by repeat (first | refine Below.setCell ?_ (by simp; try omega) _ | exact hbw3))⟩
 simp
 exact (OwnVals.append (cs := [.lit (.int .i64 i0), .lit (.string t1), .lit (.int .i64 i2), .sl r3]) (ds := [.lit (.int .i64 i4), .lit (.string t5), .lit (.int .i64 i6), .sl r7, .sl r8]) (us := [.int .i64 i0, .string t1, .int .i64 i2, .slice A3 n3 cap3]) (vs := [.int .i64 i4, .string t5, .int .i64 i6, .slice A7 n7 cap7, .slice A8 n8 cap8]) (fun x => w.heap.size + 1 + 1 + 1 <= x ∧ x < w1.heap.size) (fun x => w1.heap.size <= x ∧ x < w3.heap.size) (HOWN0.out.same (by repeat (first | refine Same.trans ?_ (Same.setCell _ _ _ _ (by simp; try omega)) | refine Same.trans ?_ ((Same.below hb2).mono (fun x hx => by simp at hx ⊢; omega)) | refine Same.trans ?_ ((Same.below hb3).mono (fun x hx => by simp at hx ⊢; omega)) | exact Same.refl _ _))) (OwnVals.append (cs := [.lit (.int .i64 i4), .lit (.string t5), .lit (.int .i64 i6), .sl r7]) (ds := [.sl r8]) (us := [.int .i64 i4, .string t5, .int .i64 i6, .slice A7 n7 cap7]) (vs := [.slice A8 n8 cap8]) (fun x => w1.heap.size <= x ∧ x < w2.heap.size) (fun x => w2.heap.size <= x ∧ x < w3.heap.size) (HOWN4.out.same (by repeat (first | refine Same.trans ?_ (Same.setCell _ _ _ _ (by simp; try omega)) | refine Same.trans ?_ ((Same.below hb3).mono (fun x hx => by simp at hx ⊢; omega)) | exact Same.refl _ _))) (OwnVals.cons (fun x => w2.heap.size <= x ∧ x < w3.heap.size) (fun x => w3.heap.size <= x ∧ x < w3.heap.size) (HOWN8.out.same (by repeat (first | refine Same.trans ?_ (Same.setCell _ _ _ _ (by simp; try omega)) | exact Same.refl _ _))) OwnVals.nil (fun x hx => ⟨by omega, by omega⟩) (fun x hx => ⟨by omega, by omega⟩) (fun x hx hy => by omega)) (fun x hx => ⟨by omega, by omega⟩) (fun x hx => ⟨by omega, by omega⟩) (fun x hx hy => by omega)) (fun x hx => ⟨by omega, by omega⟩) (fun x hx => ⟨by omega, by omega⟩) (fun x hx hy => by omega))
theorem szEquation_any (row : List C) : szEquationC row := szEquation_of row
theorem eqEquation_any (row : List C) : eqEquationC row := eqEquation_of row
theorem toEquation_any (row : List C) : toEquationC row := toEquation_of row
set_option maxHeartbeats 1000000 in
theorem szEquationS_of (rows : List (List C)) (h : ∀ (i : Nat) r, rows[i]? = some r -> szEquationC r) : szEquationSC rows := by
 intro S v left w hok hv h0 h1
 obtain ⟨A, m, cap, rfl, hm, hmc, hcm⟩ := hv.form
 have H := Lib.hid h
 have HV := Lib.hid hv
 have HM := Lib.hid hm
 have HOK := Lib.hid hok
 clear h hv hm hok
 unfold maxLen at hcm
 by_cases hlt : left - m < 0
 ·rw [sub_neg (by have := HM.out; omega)]
  go_enter Tryz.func65, Tryz.ntmps65
  go_wp2
  go_ret
  exact ⟨rfl, Below.refl _ _⟩
 ·go_enter Tryz.func65, Tryz.ntmps65
  go_wp2
  go_loopw [1, 5] (fun l i wr => ∃ k : Nat, k <= m ∧ i = .int .i64 k ∧ l = .int .i64 (left - m - (bulkRows (rows.take k) : Int)) ∧ 0 <= left - m - (bulkRows (rows.take k) : Int) ∧ Below w.heap.size w wr) (fun _ i _ => m - (intOf i).toNat)
  case atStart => exact ⟨0, Nat.zero_le _, rfl, by simp [bulkRows], by simp [bulkRows]; omega, Below.refl _ _⟩
  case round =>
   obtain ⟨k, hk, rfl, rfl, hl0, hb⟩ := hrel
   by_cases hkm : k < m
   ·obtain ⟨b, off, r, rfl, hS, hbz, hget, hokr, hrow⟩ := (HV.out.below hb).get HOK.out hkm
    obtain ⟨u0, u1, u2, u3, u4, u5, u6, u7, u8, c0, c1, c2, c3, c4, c5, c6, c7, c8, hvals⟩ := hrow.vals9 hokr.len
    have HT := H.out k r hget
    have HVALS := Lib.hid hvals
    have HOKR := Lib.hid hokr
    have HBT := Lib.hid (bulk_take hget)
    have hle := bulk_take_le rows (k+1)
    clear hvals hokr hrow hget
    simp only [fieldsOf, termF, occF, sortsF, sigF, moduleF, algF, List.cons_append, List.nil_append, List.length_cons, List.length_nil, Nat.reduceAdd, Nat.mul_one] at c0 c1 c2 c3 c4 c5 c6 c7 c8
    by_cases h2 : left - m - (bulkRows (rows.take k) : Int) < bulkRow r
    ·go_wp2_with fail
     refine (HT S _ _ _ HOKR.out HVALS.out (by omega) (by omega)).mono ?_
     rw [sub_neg h2]
     rintro e w' ⟨rfl, hb2⟩
     go_wp2
     go_ret
     exact ⟨ret_int (a := -1) (sub_neg (by have := HBT.out; have := HM.out; omega)).symm, hb.trans (hb2.mono hb.size)⟩
    ·go_wp2_with fail
     refine (HT S _ _ _ HOKR.out HVALS.out (by omega) (by omega)).mono ?_
     rw [sub_pos (by omega)]
     rintro e w' ⟨rfl, hb2⟩
     go_wp2
     go_roundw
     case rel => exact ⟨k + 1, by omega, by go_num, by have := HBT.out; congr 1; omega, by have := HBT.out; omega, hb.trans (hb2.mono hb.size)⟩
     case measure => simp [intOf]; omega
   ·go_wp2
    go_ret
    have e : k = m := by omega
    subst e
    have : rows.take k = rows := List.take_of_length_le (by have := HM.out; omega)
    rw [this] at hl0 ⊢
    exact ⟨ret_int (by have := HM.out; rw [sub_pos (by omega)]; omega), hb⟩
set_option maxHeartbeats 1000000 in
theorem eqEquationS_of (rows : List (List C)) (h : ∀ (i : Nat) r, rows[i]? = some r -> eqEquationC r) : eqEquationSC rows := by
 intro S S' v v' w hok hv hv'
 obtain ⟨A, m, cap, rfl, hm, hmc, hcm⟩ := hv.form
 obtain ⟨A', m', cap', rfl, hm', hmc', hcm'⟩ := hv'.form
 obtain rfl : m = m' := by omega
 have H := Lib.hid h
 have HV := Lib.hid hv
 have HV' := Lib.hid hv'
 have HM := Lib.hid hm
 have HOK := Lib.hid hok
 clear h hv hm hok hm' hv'
 unfold maxLen at hcm hcm'
 go_enter Tryz.func73, Tryz.ntmps73
 go_wp2
 go_loopw [5] (fun i wr => ∃ k : Nat, k <= m ∧ i = .int .i64 k ∧ Below w.heap.size w wr) (fun i _ => m - (intOf i).toNat)
 case atStart => exact ⟨0, Nat.zero_le _, rfl, Below.refl _ _⟩
 case round =>
  obtain ⟨k, hk, rfl, hb⟩ := hrel
  by_cases hkm : k < m
  ·obtain ⟨b, off, r, rfl, hS, hbz, hget, hokr, hrow⟩ := (HV.out.below hb).get HOK.out hkm
   obtain ⟨b', off', r', rfl, hS', hbz', hget', hokr', hrow'⟩ := (HV'.out.below hb).get HOK.out hkm
   obtain rfl : r = r' := by rw [hget] at hget'; exact Option.some.inj hget'
   obtain ⟨u0, u1, u2, u3, u4, u5, u6, u7, u8, c0, c1, c2, c3, c4, c5, c6, c7, c8, hvals⟩ := hrow.vals9 hokr.len
   obtain ⟨x0, x1, x2, x3, x4, x5, x6, x7, x8, d0, d1, d2, d3, d4, d5, d6, d7, d8, hvals'⟩ := hrow'.vals9 hokr.len
   have HT := H.out k r hget
   have HVALS := Lib.hid hvals
   have HVALS' := Lib.hid hvals'
   have HOKR := Lib.hid hokr
   clear hvals hvals' hokr hokr' hrow hrow' hget hget'
   simp only [fieldsOf, termF, occF, sortsF, sigF, moduleF, algF, List.cons_append, List.nil_append, List.length_cons, List.length_nil, Nat.reduceAdd, Nat.mul_one] at c0 c1 c2 c3 c4 c5 c6 c7 c8 d0 d1 d2 d3 d4 d5 d6 d7 d8
   have k0 : (0 : Int) <= (k : Int) := by omega
   have k1 : (k : Int) < (m : Int) := by omega
   go_wp2_with fail
   go_region_held3 (fun w' => ∀ b o, b < wr.heap.size -> w'.cell? ⟨b, o, none⟩ = wr.cell? ⟨b, o, none⟩) (first | go_keep | exact fun b o h => hb2.cell (p := ⟨b, o, none⟩) h) (first | (go_at_call 119; refine (HT S S' _ _ _ HOKR.out (HVALS.out.below (Below.refl _ _).drew) (HVALS'.out.below (Below.refl _ _).drew)).mono ?_; rintro e w' ⟨rfl, hb2⟩))
   go_wp2
   go_roundw
   case rel => exact ⟨k + 1, by omega, by go_num, hb.trans ((Below.refl _ _).drew.trans (hb2.mono hb.size))⟩
   case measure => simp [intOf]; omega
  ·go_wp2
   go_ret
   exact ⟨rfl, hb⟩
theorem info_Equation : (Tryz.prog.info? 124).map (fun i => (i.zero, i.size, i.bytes)) = some (some (.agg #[.int .i64 0, .string .empty, .int .i64 0, .slice none 0 0, .int .i64 0, .string .empty, .int .i64 0, .slice none 0 0, .slice none 0 0]), 9, 136) := by kernel_rfl
set_option maxHeartbeats 1000000 in
theorem toEquationS_of (rows : List (List C)) (h : ∀ (i : Nat) r, rows[i]? = some r -> toEquationC r) : toEquationSC rows := by
 intro S v w hok hv hlen
 obtain ⟨A, m, cap, rfl, hm, hmc, hcm⟩ := hv.form
 obtain ⟨i0, hi, hz0, hz1, hz2⟩ := info_parts info_Equation
 have H := Lib.hid h
 have HV := Lib.hid hv
 have HM := Lib.hid hm
 have HOK := Lib.hid hok
 have hml : m <= 1048576 := by omega
 clear h hv hm hok
 unfold maxLen at hcm
 have hmk := run_make (P := Tryz.prog) w 70 124 i0 _ Tryz.underlying70 hi hz0 .i64 .i64 (m : Int) (m : Int) (by omega) (by omega) (by rw [hz2]; omega) (by omega)
 go_enter Tryz.func69, Tryz.ntmps69
 go_wp2
 clear hmk
 go_loopw [4] (fun i wr => ∃ k : Nat, k <= m ∧ i = .int .i64 k ∧ Filling w w.heap.size 124 m 9 rows k wr) (fun i _ => m - (intOf i).toNat)
 case atStart => exact ⟨0, Nat.zero_le _, rfl, Filling.start (size_madeCells _ _)⟩
 case round =>
  obtain ⟨k, hk, rfl, hfill⟩ := hrel
  have hb := hfill.1
  by_cases hkm : k < m
  ·obtain ⟨b, off, r, rfl, hS, hbz, hget, hokr, hrow⟩ := (HV.out.below hb).get HOK.out hkm
   obtain ⟨u0, u1, u2, u3, u4, u5, u6, u7, u8, c0, c1, c2, c3, c4, c5, c6, c7, c8, hvals⟩ := hrow.vals9 hokr.len
   have HT := H.out k r hget
   have HVALS := Lib.hid hvals
   have HOKR := Lib.hid hokr
   have HGET := Lib.hid hget
   have HF := Lib.hid hfill
   have hbg := bulk_get hget
   clear hvals hokr hrow hget hfill
   simp only [fieldsOf, termF, occF, sortsF, sigF, moduleF, algF, List.cons_append, List.nil_append, List.length_cons, List.length_nil, Nat.reduceAdd, Nat.mul_one] at c0 c1 c2 c3 c4 c5 c6 c7 c8
   go_wp2_with fail
   refine (HT S _ _ HOKR.out HVALS.out (by omega)).mono ?_
   rintro e w2 ⟨us, rfl, hown, hb2⟩
   have hone := HOKR.out.one (OwnVals.rep _ _ (fun _ => True) _ (fun _ _ => trivial) hown)
   obtain ⟨y0, y1, y2, y3, y4, y5, y6, y7, y8, rfl⟩ := len9 (hown.len.trans HOKR.out.len)
   have HOWN := Lib.hid hown
   have HONE := Lib.hid hone
   obtain ⟨cur, hcur, hcs⟩ := HF.out.row hb2
   have HCUR := Lib.hid hcur
   have HCS := Lib.hid hcs
   clear hown hone hcur hcs
   go_wp2_with (refine wpList_store_put rfl 124 _ _ rfl w.heap.size (k * 9) rfl [y0, y1, y2, y3, y4, y5, y6, y7, y8] rfl i0 hi hz1 124 cur HCUR.out (by have := HCS.out; simp only [List.length_cons, List.length_nil]; omega) HONE.out ?_; intro w3 hput)
   go_roundw
   case rel => exact ⟨k + 1, by omega, by go_num, HF.out.step (fs := fieldsOf .eqn) HOK.out HGET.out hb2 HOWN.out hput⟩
   case measure => simp [intOf]; omega
  ·go_wp2
   go_ret
   have e : k = m := by omega
   subst e
   exact ⟨_, rfl, hfill.done HM.out (by unfold maxLen; omega) (by decide) HOK.out.lens⟩
theorem szEquationS_any (rows : List (List C)) : szEquationSC rows := szEquationS_of rows (fun _ r _ => szEquation_any r)
theorem eqEquationS_any (rows : List (List C)) : eqEquationSC rows := eqEquationS_of rows (fun _ r _ => eqEquation_any r)
theorem toEquationS_any (rows : List (List C)) : toEquationSC rows := toEquationS_of rows (fun _ r _ => toEquation_any r)
end Go.Proofs.YtohilkmdjdfljaaGreat
namespace Go.Proofs.YtohilkmdjdfljaaGreat
open Go.RowKit
theorem okRow_Module {r : List C} (h : okRow (moduleF) r) : ∃ (r0 : List (List C)) (r1 : List (List C)) (r2 : List (List C)) (r3 : List (List C)) (r4 : List (List C)), r = [.sl r0, .sl r1, .sl r2, .sl r3, .sl r4] ∧ okRows (fieldsOf .str) r0 ∧ okRows (fieldsOf .sub) r1 ∧ okRows (fieldsOf .op) r2 ∧ okRows (fieldsOf .eqn) r3 ∧ okRows (fieldsOf .eqn) r4 := by
 obtain ⟨c0, c1, c2, c3, c4, rfl⟩ := len5 h.len
 simp only [fieldsOf, termF, occF, sortsF, sigF, moduleF, algF, List.cons_append, List.nil_append, okRow, and_true] at h
 obtain ⟨h0, h1, h2, h3, h4⟩ := h
 obtain ⟨r0, rfl, g0⟩ := okC_sl h0
 obtain ⟨r1, rfl, g1⟩ := okC_sl h1
 obtain ⟨r2, rfl, g2⟩ := okC_sl h2
 obtain ⟨r3, rfl, g3⟩ := okC_sl h3
 obtain ⟨r4, rfl, g4⟩ := okC_sl h4
 exact ⟨r0, r1, r2, r3, r4, rfl, g0, g1, g2, g3, g4⟩
theorem repVals_Module {w : World} {S : Nat -> Prop} {r0 : List (List C)} {r1 : List (List C)} {r2 : List (List C)} {r3 : List (List C)} {r4 : List (List C)} {us : List Value} (h : RepVals w S [.sl r0, .sl r1, .sl r2, .sl r3, .sl r4] us) : ∃ v0 v1 v2 v3 v4, us = [v0, v1, v2, v3, v4] ∧ Rep w S (.sl r0) v0 ∧ Rep w S (.sl r1) v1 ∧ Rep w S (.sl r2) v2 ∧ Rep w S (.sl r3) v3 ∧ Rep w S (.sl r4) v4 := by
 obtain ⟨u0, u1, u2, u3, u4, rfl⟩ := len5 h.len
 simp only [RepVals, Rep.lit_iff, and_true] at h
 obtain ⟨e0, e1, e2, e3, e4⟩ := h
 exact ⟨u0, u1, u2, u3, u4, rfl, e0, e1, e2, e3, e4⟩
def szModuleC (row : List C) : Prop := ∀ (S : Nat -> Prop) (us : List Value) (left : Int) (w : World), okRow (moduleF) row -> RepVals w S row us -> 0 <= left -> left <= 1048576 ->
 Calls Tryz.prog 23 #[.agg us.toArray, .int .i64 left] w fun e w' => e = .returned (.int .i64 (sub left (bulkRow row))) ∧ Below w.heap.size w w'
def eqModuleC (row : List C) : Prop := ∀ (S S' : Nat -> Prop) (us us' : List Value) (w : World), okRow (moduleF) row -> RepVals w S row us -> RepVals w S' row us' ->
 Calls Tryz.prog 28 #[.agg us.toArray, .agg us'.toArray] w fun e w' => e = .returned (.bool true) ∧ Below w.heap.size w w'
def toModuleC (row : List C) : Prop := ∀ (S : Nat -> Prop) (us : List Value) (w : World), okRow (moduleF) row -> RepVals w S row us -> bulkRow row <= 1048576 ->
 Calls Tryz.prog 25 #[.agg us.toArray] w fun e w' => ∃ us' : List Value, e = .returned (.agg us'.toArray) ∧ OwnVals w' row (fun x => w.heap.size <= x ∧ x < w'.heap.size) us' ∧ Below w.heap.size w w'
set_option maxHeartbeats 1000000 in
theorem szModule_of (row : List C) : szModuleC row := by
 intro S us left w hok hv h0 h1
 obtain ⟨r0, r1, r2, r3, r4, rfl, g0, g1, g2, g3, g4⟩ := okRow_Module hok
 obtain ⟨v0, v1, v2, v3, v4, rfl, e0, e1, e2, e3, e4⟩ := repVals_Module hv
 have HC0 := Lib.hid (szSignature_any [.sl r0, .sl r1, .sl r2])
 have HC3 := Lib.hid (szEquationS_any r3)
 have HC4 := Lib.hid (szEquationS_any r4)
 have HB := Lib.hid (show bulkRow [.sl r0, .sl r1, .sl r2, .sl r3, .sl r4] = (bulkRow [.sl r0, .sl r1, .sl r2]) + (r3.length + bulkRows r3) + (r4.length + bulkRows r4) from by simp only [bulkRow, bulkC]; omega)
 have G0 := Lib.hid g0
 have G1 := Lib.hid g1
 have G2 := Lib.hid g2
 have G3 := Lib.hid g3
 have G4 := Lib.hid g4
 clear g0 g1 g2 g3 g4 hok
 have E0 := Lib.hid e0
 have E1 := Lib.hid e1
 have E2 := Lib.hid e2
 have E3 := Lib.hid e3
 have E4 := Lib.hid e4
 clear hv e0 e1 e2 e3 e4
 generalize hrow : bulkRow [.sl r0, .sl r1, .sl r2, .sl r3, .sl r4] = total at HB ⊢
 clear hrow
 have hbw := (Below.refl w.heap.size w).alloc (Nat.le_refl _) (.cells #[v0, v1, v2, v3, v4] 67)
 go_enter Tryz.func23, Tryz.ntmps23
 go_wp2_with fail
 by_cases q0 : left < ((bulkRow [.sl r0, .sl r1, .sl r2]) : Nat)
 ·refine (HC0.out S _ _ _ (mkRow_Signature G0.out G1.out G2.out) (mkVals_Signature (E0.out.below hbw) (E1.out.below hbw) (E2.out.below hbw)) (by omega) (by omega)).mono ?_
  rw [sub_neg (by omega)]
  rintro e w1 ⟨rfl, hb1⟩
  go_wp2
  go_ret
  exact ⟨ret_int (a := -1) (sub_neg (by have := HB.out; omega)).symm, hbw.trans (hb1.mono hbw.size)⟩
 refine (HC0.out S _ _ _ (mkRow_Signature G0.out G1.out G2.out) (mkVals_Signature (E0.out.below hbw) (E1.out.below hbw) (E2.out.below hbw)) (by omega) (by omega)).mono ?_
 rw [sub_pos (by omega)]
 rintro e w1 ⟨rfl, hb1⟩
 obtain ⟨hc1, hf1⟩ := bcell hb1
 have hz1 : w.heap.size < w1.heap.size := (by have := hb1.size; (try simp at this); omega)
 replace hbw := hbw.trans (hb1.mono hbw.size)
 go_wp2_with fail
 by_cases q3 : (left - (((bulkRow [.sl r0, .sl r1, .sl r2]) : Nat) : Int)) < ((r3.length + bulkRows r3) : Nat)
 ·refine (HC3.out S _ _ _ G3.out (E3.out.below hbw) (by omega) (by omega)).mono ?_
  rw [sub_neg (by omega)]
  rintro e w2 ⟨rfl, hb2⟩
  go_wp2
  go_ret
  exact ⟨ret_int (a := -1) (sub_neg (by have := HB.out; omega)).symm, hbw.trans (hb2.mono hbw.size)⟩
 refine (HC3.out S _ _ _ G3.out (E3.out.below hbw) (by omega) (by omega)).mono ?_
 rw [sub_pos (by omega)]
 rintro e w2 ⟨rfl, hb2⟩
 obtain ⟨hc2, hf2⟩ := bcell hb2
 have hz2 : w.heap.size < w2.heap.size := (by have := hb2.size; (try simp at this); omega)
 replace hbw := hbw.trans (hb2.mono hbw.size)
 go_wp2_with fail
 by_cases q4 : ((left - (((bulkRow [.sl r0, .sl r1, .sl r2]) : Nat) : Int)) - (((r3.length + bulkRows r3) : Nat) : Int)) < ((r4.length + bulkRows r4) : Nat)
 ·refine (HC4.out S _ _ _ G4.out (E4.out.below hbw) (by omega) (by omega)).mono ?_
  rw [sub_neg (by omega)]
  rintro e w3 ⟨rfl, hb3⟩
  go_wp2
  go_ret
  exact ⟨ret_int (a := -1) (sub_neg (by have := HB.out; omega)).symm, hbw.trans (hb3.mono hbw.size)⟩
 refine (HC4.out S _ _ _ G4.out (E4.out.below hbw) (by omega) (by omega)).mono ?_
 rw [sub_pos (by omega)]
 rintro e w3 ⟨rfl, hb3⟩
 obtain ⟨hc3, hf3⟩ := bcell hb3
 have hz3 : w.heap.size < w3.heap.size := (by have := hb3.size; (try simp at this); omega)
 replace hbw := hbw.trans (hb3.mono hbw.size)
 go_wp2
 go_ret
 exact ⟨ret_int (by have := HB.out; rw [sub_pos (by omega)]; omega), hbw⟩
set_option maxHeartbeats 1000000 in
theorem eqModule_of (row : List C) : eqModuleC row := by
 intro S S' us us' w hok hv hv'
 obtain ⟨r0, r1, r2, r3, r4, rfl, g0, g1, g2, g3, g4⟩ := okRow_Module hok
 obtain ⟨v0, v1, v2, v3, v4, rfl, e0, e1, e2, e3, e4⟩ := repVals_Module hv
 obtain ⟨x0, x1, x2, x3, x4, rfl, d0, d1, d2, d3, d4⟩ := repVals_Module hv'
 have HC0 := Lib.hid (eqSignature_any [.sl r0, .sl r1, .sl r2])
 have HC3 := Lib.hid (eqEquationS_any r3)
 have HC4 := Lib.hid (eqEquationS_any r4)
 have G0 := Lib.hid g0
 have G1 := Lib.hid g1
 have G2 := Lib.hid g2
 have G3 := Lib.hid g3
 have G4 := Lib.hid g4
 clear g0 g1 g2 g3 g4 hok
 have E0 := Lib.hid e0
 have D0 := Lib.hid d0
 have E1 := Lib.hid e1
 have D1 := Lib.hid d1
 have E2 := Lib.hid e2
 have D2 := Lib.hid d2
 have E3 := Lib.hid e3
 have D3 := Lib.hid d3
 have E4 := Lib.hid e4
 have D4 := Lib.hid d4
 clear hv hv' e0 d0 e1 d1 e2 d2 e3 d3 e4 d4
 have hbw := ((Below.refl w.heap.size w).alloc (Nat.le_refl _) (.cells #[v0, v1, v2, v3, v4] 72)).alloc (by simp) (.cells #[x0, x1, x2, x3, x4] 72)
 go_enter Tryz.func28, Tryz.ntmps28
 go_wp2_with fail
 refine (HC0.out S S' _ _ _ (mkRow_Signature G0.out G1.out G2.out) (mkVals_Signature (E0.out.below hbw) (E1.out.below hbw) (E2.out.below hbw)) (mkVals_Signature (D0.out.below hbw) (D1.out.below hbw) (D2.out.below hbw))).mono ?_
 rintro e w1 ⟨rfl, hb1⟩
 obtain ⟨hc1, hf1⟩ := bcell hb1
 have hz1 : w.heap.size + 1 < w1.heap.size := (by have := hb1.size; (try simp at this); omega)
 have ha1 : w.heap.size < w1.heap.size := by omega
 replace hbw := hbw.trans (hb1.mono hbw.size)
 go_wp2_with fail
 refine (HC3.out S S' _ _ _ G3.out (E3.out.below hbw) (D3.out.below hbw)).mono ?_
 rintro e w2 ⟨rfl, hb2⟩
 obtain ⟨hc2, hf2⟩ := bcell hb2
 have hz2 : w.heap.size + 1 < w2.heap.size := (by have := hb2.size; (try simp at this); omega)
 have ha2 : w.heap.size < w2.heap.size := by omega
 replace hbw := hbw.trans (hb2.mono hbw.size)
 go_wp2_with fail
 refine (HC4.out S S' _ _ _ G4.out (E4.out.below hbw) (D4.out.below hbw)).mono ?_
 rintro e w3 ⟨rfl, hb3⟩
 obtain ⟨hc3, hf3⟩ := bcell hb3
 have hz3 : w.heap.size + 1 < w3.heap.size := (by have := hb3.size; (try simp at this); omega)
 have ha3 : w.heap.size < w3.heap.size := by omega
 replace hbw := hbw.trans (hb3.mono hbw.size)
 go_wp2
 go_ret
 exact ⟨rfl, hbw⟩
set_option maxHeartbeats 2000000 in
theorem toModule_of (row : List C) : toModuleC row := by
 intro S us w hok hv hlen
 obtain ⟨r0, r1, r2, r3, r4, rfl, g0, g1, g2, g3, g4⟩ := okRow_Module hok
 obtain ⟨v0, v1, v2, v3, v4, rfl, e0, e1, e2, e3, e4⟩ := repVals_Module hv
 have HC0 := Lib.hid (toSignature_any [.sl r0, .sl r1, .sl r2])
 have HC3 := Lib.hid (toEquationS_any r3)
 have HC4 := Lib.hid (toEquationS_any r4)
 have G0 := Lib.hid g0
 have G1 := Lib.hid g1
 have G2 := Lib.hid g2
 have G3 := Lib.hid g3
 have G4 := Lib.hid g4
 clear g0 g1 g2 g3 g4 hok
 have E0 := Lib.hid e0
 have E1 := Lib.hid e1
 have E2 := Lib.hid e2
 have E3 := Lib.hid e3
 have E4 := Lib.hid e4
 clear hv e0 e1 e2 e3 e4
 have hl0 : (bulkRow [.sl r0, .sl r1, .sl r2]) <= 1048576 := by
  have e : (bulkRow [.sl r0, .sl r1, .sl r2]) <= bulkRow [.sl r0, .sl r1, .sl r2, .sl r3, .sl r4] := by simp only [bulkRow, bulkC]; omega
  exact Nat.le_trans e hlen
 have hl3 : (r3.length + bulkRows r3) <= 1048576 := by
  have e : (r3.length + bulkRows r3) <= bulkRow [.sl r0, .sl r1, .sl r2, .sl r3, .sl r4] := by simp only [bulkRow, bulkC]; omega
  exact Nat.le_trans e hlen
 have hl4 : (r4.length + bulkRows r4) <= 1048576 := by
  have e : (r4.length + bulkRows r4) <= bulkRow [.sl r0, .sl r1, .sl r2, .sl r3, .sl r4] := by simp only [bulkRow, bulkC]; omega
  exact Nat.le_trans e hlen
 clear hlen
 go_enter Tryz.func25, Tryz.ntmps25
 go_wp2_with fail
 refine (HC0.out S _ _ (mkRow_Signature G0.out G1.out G2.out) (by exact mkVals_Signature (E0.out.below (by repeat (first | refine Below.alloc ?_ (by simp; try omega) _ | exact Below.refl _ _))) (E1.out.below (by repeat (first | refine Below.alloc ?_ (by simp; try omega) _ | exact Below.refl _ _))) (E2.out.below (by repeat (first | refine Below.alloc ?_ (by simp; try omega) _ | exact Below.refl _ _)))) hl0).mono ?_
 rintro e w1 ⟨ys0, rfl, hown0, hb1⟩
 obtain ⟨y0, y1, y2, rfl, f0, f1, f2⟩ := repVals_Signature (OwnVals.rep _ _ (fun _ => True) _ (fun _ _ => trivial) hown0)
 obtain ⟨A0, n0, cap0, rfl, _, _, _⟩ := f0.form
 clear f0
 obtain ⟨A1, n1, cap1, rfl, _, _, _⟩ := f1.form
 clear f1
 obtain ⟨A2, n2, cap2, rfl, _, _, _⟩ := f2.form
 clear f2
 have hz1 := hb1.size
 simp at hz1 hown0
 have HOWN0 := Lib.hid hown0
 clear hown0
 have hbw1 : Below w.heap.size w w1 := Below.trans (by repeat (first | refine Below.alloc ?_ (by simp; try omega) _ | exact Below.refl _ _)) (hb1.mono (by simp; try omega))
 obtain ⟨hc1, hf1⟩ := bcell hb1
 have ha1 : w.heap.size < w1.heap.size := by omega
 have hbb1 : w.heap.size + 1 < w1.heap.size := by omega
 have hcc1 : w.heap.size + 1 + 1 < w1.heap.size := by omega
 go_wp2_with fail
 refine (HC3.out S _ _ G3.out (by exact E3.out.below (by repeat (first | refine Below.setCell ?_ (by simp; try omega) _ | exact hbw1))) hl3).mono ?_
 rintro e w2 ⟨y3, rfl, hown3, hb2⟩
 obtain ⟨A3, n3, cap3, rfl, _, _, _⟩ := (Own.rep _ _ _ hown3).form
 have hz2 := hb2.size
 simp at hz2 hown3
 have HOWN3 := Lib.hid hown3
 clear hown3
 have hbw2 : Below w.heap.size w w2 := Below.trans (by repeat (first | refine Below.setCell ?_ (by simp; try omega) _ | exact hbw1)) (hb2.mono (by simp; try omega))
 obtain ⟨hc2, hf2⟩ := bcell hb2
 have ha2 : w.heap.size < w2.heap.size := by omega
 have hbb2 : w.heap.size + 1 < w2.heap.size := by omega
 have hcc2 : w.heap.size + 1 + 1 < w2.heap.size := by omega
 go_wp2_with fail
 refine (HC4.out S _ _ G4.out (by exact E4.out.below (by repeat (first | refine Below.setCell ?_ (by simp; try omega) _ | exact hbw2))) hl4).mono ?_
 rintro e w3 ⟨y4, rfl, hown4, hb3⟩
 obtain ⟨A4, n4, cap4, rfl, _, _, _⟩ := (Own.rep _ _ _ hown4).form
 have hz3 := hb3.size
 simp at hz3 hown4
 have HOWN4 := Lib.hid hown4
 clear hown4
 have hbw3 : Below w.heap.size w w3 := Below.trans (by repeat (first | refine Below.setCell ?_ (by simp; try omega) _ | exact hbw2)) (hb3.mono (by simp; try omega))
 obtain ⟨hc3, hf3⟩ := bcell hb3
 have ha3 : w.heap.size < w3.heap.size := by omega
 have hbb3 : w.heap.size + 1 < w3.heap.size := by omega
 have hcc3 : w.heap.size + 1 + 1 < w3.heap.size := by omega
 go_wp2
 refine bodyPost_ret (v := .agg #[.slice A0 n0 cap0, .slice A1 n1 cap1, .slice A2 n2 cap2, .slice A3 n3 cap3, .slice A4 n4 cap4]) (by simp [results, Tryz.results25, go_sem, hc1, ha1, hbb1, hcc1, hc2, ha2, hbb2, hcc2, hc3, ha3, hbb3, hcc3]) rfl ⟨[.slice A0 n0 cap0, .slice A1 n1 cap1, .slice A2 n2 cap2, .slice A3 n3 cap3, .slice A4 n4 cap4], rfl, ?_, (by repeat (first | refine Below.setCell ?_ (by simp; try omega) _ | exact hbw3))⟩
 simp
 exact (OwnVals.append (cs := [.sl r0, .sl r1, .sl r2]) (ds := [.sl r3, .sl r4]) (us := [.slice A0 n0 cap0, .slice A1 n1 cap1, .slice A2 n2 cap2]) (vs := [.slice A3 n3 cap3, .slice A4 n4 cap4]) (fun x => w.heap.size + 1 + 1 + 1 <= x ∧ x < w1.heap.size) (fun x => w1.heap.size <= x ∧ x < w3.heap.size) (HOWN0.out.same (by repeat (first | refine Same.trans ?_ (Same.setCell _ _ _ _ (by simp; try omega)) | refine Same.trans ?_ ((Same.below hb2).mono (fun x hx => by simp at hx ⊢; omega)) | refine Same.trans ?_ ((Same.below hb3).mono (fun x hx => by simp at hx ⊢; omega)) | exact Same.refl _ _))) (OwnVals.cons (fun x => w1.heap.size <= x ∧ x < w2.heap.size) (fun x => w2.heap.size <= x ∧ x < w3.heap.size) (HOWN3.out.same (by repeat (first | refine Same.trans ?_ (Same.setCell _ _ _ _ (by simp; try omega)) | refine Same.trans ?_ ((Same.below hb3).mono (fun x hx => by simp at hx ⊢; omega)) | exact Same.refl _ _))) (OwnVals.cons (fun x => w2.heap.size <= x ∧ x < w3.heap.size) (fun x => w3.heap.size <= x ∧ x < w3.heap.size) (HOWN4.out.same (by repeat (first | refine Same.trans ?_ (Same.setCell _ _ _ _ (by simp; try omega)) | exact Same.refl _ _))) OwnVals.nil (fun x hx => ⟨by omega, by omega⟩) (fun x hx => ⟨by omega, by omega⟩) (fun x hx hy => by omega)) (fun x hx => ⟨by omega, by omega⟩) (fun x hx => ⟨by omega, by omega⟩) (fun x hx hy => by omega)) (fun x hx => ⟨by omega, by omega⟩) (fun x hx => ⟨by omega, by omega⟩) (fun x hx hy => by omega))
theorem szModule_any (row : List C) : szModuleC row := szModule_of row
theorem eqModule_any (row : List C) : eqModuleC row := eqModule_of row
theorem toModule_any (row : List C) : toModuleC row := toModule_of row
end Go.Proofs.YtohilkmdjdfljaaGreat
namespace Go.Proofs.YtohilkmdjdfljaaGreat
open Go.RowKit
theorem apart_two {x y : Bk} (h : ∀ g, pblk x g -> ¬ pblk y g) : Apart [x, y] := ⟨fun z hz g hg => by simp at hz; subst hz; exact h g hg, apart_1 _⟩
theorem ownVs_litRows {w : World} : ∀ (us : List (List Value)), OwnVs w (us.map litRow) (fun _ => False) us
 | [] => trivial
 | u :: us => ⟨fun _ => False, fun _ => False, fun _ h => h, fun _ h => h, fun _ h _ => h, by
  induction u with
  | nil => exact OwnVals.nil
  | cons x u ih => exact ⟨fun _ => False, fun _ => False, fun _ h => h, fun _ h => h, fun _ h _ => h, by simp [Own], ih⟩, ownVs_litRows us⟩
theorem re_litRows {a : Option Addr} {cap ety sz : Nat} {rows : List (List C)} {us : List (List Value)} (h : rows = us.map litRow) : ∃ E : Nat -> Prop, Retold [.buf (some (a, cap)) ety sz rows] [.set E (fun w => Own w (.sl rows) E (.slice a rows.length cap))] := by
 subst h
 rw [List.length_map]
 refine ⟨fun b => vblk (.slice a us.length cap) = some b ∨ False, fun w S h ha => ?_⟩
 obtain ⟨h1, h2, h3⟩ := re_close (a := a) (cap := cap) (ety := ety) (sz := sz) (uss := us) (rows := us.map litRow) (E := fun _ => False) (G' := fun w => Own w (.sl (us.map litRow)) (fun b => vblk (.slice a us.length cap) = some b ∨ False) (.slice a us.length cap)) (fun w h => h) (Own.stable _ _ _) w S (fun x hx => by
  simp only [List.mem_cons, List.not_mem_nil, or_false] at hx
  rcases hx with rfl | rfl
  ·exact h _ (by simp)
  ·exact ⟨fun b hb => hb.elim, ownVs_litRows us, OwnVs.stable _ _ _⟩) (apart_two fun g _ hg => hg)
 refine ⟨h1, h2, fun g hg => ?_⟩
 obtain ⟨x, hx, hg⟩ := h3 g hg
 simp only [List.mem_cons, List.not_mem_nil, or_false] at hx
 rcases hx with rfl | rfl
 ·exact ⟨_, List.mem_cons_self, hg⟩
 ·exact hg.elim
end Go.Proofs.YtohilkmdjdfljaaGreat
namespace Go.Proofs.YtohilkmdjdfljaaGreat
open Go.RowKit
theorem conP_tree {f : FuncId} {args : List D} {row : List C} (hb : hasBody e0.P f = true) (hok : row.all okCell = true)
  (h : ∀ (w : World) (S : Nat -> Prop) (vs : List Value), DsRel w S args vs -> Calls e0.P f vs.toArray w fun e w' => ∃ us' : List Value, e = .returned (.agg us'.toArray) ∧ OwnVals w' row (fun x => w.heap.size <= x ∧ x < w'.heap.size) us' ∧ Below w.heap.size w w') : ConP e0 f args [] (RTree row) := by
 refine ⟨hb, fun w S vs hS hE hG hpm ha hv => (h w S vs hv).mono ?_⟩
 rintro en w' ⟨us, h1, h2, h3⟩
 obtain ⟨E, hE1, h2⟩ : ∃ E : Nat -> Prop, (∀ b, E b -> w.heap.size <= b ∧ b < w'.heap.size) ∧ OwnVals w' row E us := ⟨_, fun _ h => h, h2⟩
 refine ⟨.agg us.toArray, [.agg (litRow us)], [.set E (fun w => OwnVals w row E us)], h1, RTree.mk h2.len (h2.cells hok), Kept.of_below h3 (fun d => d.elim), trivial, fun x hx => ?_, apart_1 _, us, rfl, RepVals_lits us⟩
 simp only [List.mem_cons, List.not_mem_nil, or_false] at hx
 subst hx
 exact ⟨⟨fun b hb => ⟨(hE1 b hb).2, fun hn => hn.2 ⟨_, List.mem_cons_self, hb⟩⟩, h2, OwnVals.stable _ _ _⟩, fun g hg => .inr (hE1 g hg).1⟩
def RTreeS (rows : List (List C)) (r : List D) (pm : List Bk) : Prop := ∃ v E, r = [.one (.lit v)] ∧ okCell (.lit v) = true ∧ pm = [.set E (fun w => Own w (.sl rows) E v)]
def isSet : Bk -> Bool
 | .set _ _ => true
 | _ => false
def litC : C -> Bool
 | .lit _ => true
 | _ => false
def litD : D -> Bool
 | .one c => litC c
 | .agg cs => cs.all litC
 | _ => false
theorem RepVals_any {w : World} {S S' : Nat -> Prop} : ∀ {cs : List C} {vs : List Value}, cs.all litC = true -> RepVals w S cs vs -> RepVals w S' cs vs
 | [], [], _, _ => trivial
 | .lit x :: cs, v :: vs, hl, h => by
  simp only [List.all_cons, Bool.and_eq_true] at hl
  exact ⟨h.1, RepVals_any hl.2 h.2⟩
 | .sl _ :: _, _ :: _, hl, _ => by simp [litC] at hl
 | .ptr _ :: _, _ :: _, hl, _ => by simp [litC] at hl
 | .fn _ _ :: _, _ :: _, hl, _ => by simp [litC] at hl
 | [], _ :: _, _, h => h.elim
 | _ :: _, [], _, h => h.elim
theorem DRel_any {w : World} {S S' : Nat -> Prop} {x : D} {v : Value} (hl : litD x = true) (h : DRel w S x v) : DRel w S' x v := by
 cases x with
 | one c => cases c with
  | lit y => exact h
  | _ => simp [litD, litC] at hl
 | agg cs => obtain ⟨vs, h1, h2⟩ := h; exact ⟨vs, h1, RepVals_any hl h2⟩
 | clip _ => simp [litD] at hl
theorem DsRel_any {w : World} {S S' : Nat -> Prop} : ∀ {r : List D} {vs : List Value}, r.all litD = true -> DsRel w S r vs -> DsRel w S' r vs
 | [], [], _, _ => trivial
 | x :: r, v :: vs, hl, h => by
  simp only [List.all_cons, Bool.and_eq_true] at hl
  exact ⟨DRel_any hl.1 h.1, DsRel_any hl.2 h.2⟩
 | [], _ :: _, _, h => h.elim
 | _ :: _, [], _, h => h.elim
theorem ARel_any {w : World} {S S' : Nat -> Prop} {L : Lay} : ∀ {r : List D} {v : Value}, r.all litD = true -> ARel w S L (retA r) v -> ARel w S' L (retA r) v
 | [], _, _, h => by obtain ⟨vs, h1, h2⟩ := h; exact ⟨vs, h1, DsRel_any rfl h2⟩
 | [x], v, hl, h => by
  simp only [List.all_cons, List.all_nil, Bool.and_true] at hl
  exact DRel_any (x := x) (v := v) hl h
 | x :: y :: z, _, hl, h => by obtain ⟨vs, h1, h2⟩ := h; exact ⟨vs, h1, DsRel_any hl h2⟩
theorem con_P {e : Env} {f : FuncId} {args r : List D} (h : Con e f args r) : ConP e f args [] (fun r' pm => r' = r ∧ pm = []) := by
 refine ⟨h.1, fun w S vs hS hE hG hpm ha hv => (h.2 w S vs hS hE hG hv).mono ?_⟩
 rintro en w' ⟨v, h1, h2, h3, h4⟩
 refine ⟨v, r, [], h1, ⟨rfl, rfl⟩, ⟨h2.os, h2.tape, h2.output, h2.drawn, h2.size, fun k hk hn => h2.block k hk (fun h => hn (.inl h))⟩, h3, fun x hx => by simp at hx, trivial, ?_⟩
 exact ARel.keep (Nat.le_refl _) (fun _ _ _ => rfl) (fun b hb => ⟨hb.elim .inl (fun h => .inr (.inr h)), fun ⟨x, hx, _⟩ => by simp at hx⟩) h4
theorem pin_lt {w : World} {S : Nat -> Prop} {x : Bk} (hs : isSet x = true) (h : PinRel w S x) {g : Nat} (hg : pblk x g) : g < w.heap.size ∧ ¬ S g := by
 cases x with
 | set E G => exact h.1 g hg
 | _ => simp [isSet] at hs
theorem pin_move {w w' : World} {S S' : Nat -> Prop} {x : Bk} (hs : isSet x = true) (h : PinRel w S x) (hz : w.heap.size <= w'.heap.size) (hk : ∀ b, pblk x b -> w'.heap[b]? = w.heap[b]?) (hS : ∀ b, pblk x b -> ¬ S' b) : PinRel w' S' x := by
 cases x with
 | set E G => exact ⟨fun b hb => ⟨Nat.lt_of_lt_of_le (h.1 b hb).1 hz, hS b hb⟩, h.2.2 w w' hz hk h.2.1, h.2.2⟩
 | _ => simp [isSet] at hs
theorem apart_app : ∀ {a b : List Bk}, Apart a -> Apart b -> (∀ x ∈ a, ∀ y ∈ b, ∀ g, pblk x g -> ¬ pblk y g) -> Apart (a ++ b)
 | [], _, _, h, _ => h
 | x :: a, b, ⟨h1, h2⟩, h, hd => ⟨fun y hy g hx hg => (List.mem_append.1 hy).elim (fun q => h1 y q g hx hg) (fun q => hd x List.mem_cons_self y q g hx hg), apart_app h2 h (fun z hz => hd z (List.mem_cons_of_mem _ hz))⟩
theorem conP_read {e : Env} {f : FuncId} {data lits : List D} {R : List D -> List Bk -> Prop} (pm : List Bk) (h : ConP e f data [] R) (hset : pm.all isSet = true) (hR : ∀ r q, R r q -> r.all litD = true ∧ q.all isSet = true)
  (hx : ∀ (w : World) (S : Nat -> Prop) (vs : List Value), (∀ x ∈ pm, PinRel w S x) -> DsRel w S lits vs -> DsRel w (fun b => S b ∨ pblks pm b) data vs) : ConP e f lits pm (fun r q => ∃ q1, R r q1 ∧ q = q1 ++ pm) := by
 refine ⟨h.1, fun w S vs hS hE hG hpm ha hv => ?_⟩
 have hset' : ∀ x ∈ pm, isSet x = true := fun x hx => List.all_eq_true.1 hset x hx
 have hlt : ∀ g, pblks pm g -> g < w.heap.size ∧ ¬ S g ∧ ¬ e.E g := fun g ⟨x, hxm, hg⟩ => ⟨(pin_lt (hset' x hxm) (hpm x hxm).1 hg).1, (pin_lt (hset' x hxm) (hpm x hxm).1 hg).2, (hpm x hxm).2 g hg⟩
 refine (h.2 w (fun b => S b ∨ pblks pm b) vs (fun b hb => hb.elim (hS b) (fun q => ⟨(hlt b q).1, (hlt b q).2.2⟩)) hE hG (fun x hx => by simp at hx) trivial (hx w S vs (fun x hx => (hpm x hx).1) hv)).mono ?_
 rintro en w' ⟨v, r, q1, h1, h2, h3, h4, h5, h6, h7⟩
 obtain ⟨l1, l2⟩ := hR r q1 h2
 have l2' : ∀ x ∈ q1, isSet x = true := fun x hx => List.all_eq_true.1 l2 x hx
 have hnew : ∀ x ∈ q1, ∀ g, pblk x g -> w.heap.size <= g := fun x hx g hg => ((h5 x hx).2 g hg).elim (fun ⟨y, hy, _⟩ => by simp at hy) id
 have hnil : ∀ b, ¬ pblks [] b := fun b ⟨y, hy, _⟩ => by simp at hy
 refine ⟨v, r, q1 ++ pm, h1, ⟨q1, h2, rfl⟩, ⟨h3.os, h3.tape, h3.output, h3.drawn, h3.size, fun k hk hn => h3.block k hk (fun q => q.elim (fun q => hn (.inl q)) (fun q => hnil k q))⟩, h4, fun x hxm => ?_, apart_app h6 ha (fun x hx y hy g hg hg2 => ?_), ARel_any l1 h7⟩
 ·rcases List.mem_append.1 hxm with hq | hq
  ·refine ⟨pin_move (l2' x hq) (h5 x hq).1 (Nat.le_refl _) (fun _ _ => rfl) (fun b hb hn => hn.2 ⟨x, List.mem_append.2 (.inl hq), hb⟩), fun g hg => .inr (hnew x hq g hg)⟩
  ·refine ⟨pin_move (hset' x hq) (hpm x hq).1 h3.size (fun b hb => h3.block b (hlt b ⟨x, hq, hb⟩).1 (fun q => q.elim (hlt b ⟨x, hq, hb⟩).2.2 (hnil b))) (fun b hb hn => hn.2 ⟨x, List.mem_append.2 (.inr hq), hb⟩), fun g hg => .inl ⟨x, hq, hg⟩⟩
 ·have := hnew x hx g hg
  have := (hlt g ⟨y, hy, hg2⟩).1
  omega
end Go.Proofs.YtohilkmdjdfljaaGreat
namespace Go.Proofs.YtohilkmdjdfljaaGreat
open Go.RowKit
def dig (n : Nat) : ByteArray := oneByte (IntKind.u8.wrap (IntKind.i64.wrap (48 + (n : Int).tmod 10)))
def txtL (n : Nat) (acc : ByteArray) : ByteArray := if h : n = 0 then acc else txtL (n / 10) (dig n ++ acc)
termination_by n
decreasing_by omega
def txt (k : Int) : ByteArray := if k <= 0 then ⟨#[109, 48]⟩ else ⟨#[109]⟩ ++ txtL k.toNat ByteArray.empty
theorem txtL_z (acc : ByteArray) : txtL 0 acc = acc := by rw [txtL]; simp
theorem txtL_s {n : Nat} (h : n ≠ 0) (acc : ByteArray) : txtL n acc = txtL (n / 10) (dig n ++ acc) := by rw [txtL]; simp [h]
theorem dig_size (n : Nat) : (dig n).size = 1 := rfl
set_option maxHeartbeats 4000000 in
set_option maxRecDepth 100000 in
theorem con_markText (k : Int) (hk : k <= 1000000000) (hk0 : 0 <= k) : Con e0 75 [.one (.lit (.int .i64 k))] [.one (.lit (.string (txt k)))] := by
 by_cases h0 : k <= 0
 ·have h : txt k = ⟨#[109, 48]⟩ := by unfold txt; rw [if_pos h0]
  have q1 : (k <= 0) = True := eq_true h0
  rw [h]
  refine gI (ts := [.slot 2]) 173 Tryz.func75 ?_
  (have F := @q1; refine gG ?_; exact gTd)
 ·have h : txt k = ⟨#[109]⟩ ++ txtL k.toNat ByteArray.empty := by unfold txt; rw [if_neg h0]
  have q1 : (k <= 0) = False := eq_false h0
  rw [h]
  obtain ⟨n, rfl⟩ : ∃ n : Nat, k = n := ⟨k.toNat, by omega⟩
  rw [Int.toNat_natCast]
  refine gI (ts := [.slot 2]) 173 Tryz.func75 ?_
  (have F := @q1; refine gG ?_; clear F)
  (have F := @q1; refine gL (ι := Nat × ByteArray) [0, 3, 7] [] (fun x => [(0, .d (.one (.lit (.int .i64 (x.1 : Int))))), (3, .d (.one (.lit (.string x.2))))]) (fun x => []) (fun x => txtL n ByteArray.empty = txtL x.1 x.2 ∧ x.2.size + x.1 <= n) (fun x => x.1) ((n, ⟨#[]⟩)) (⟨rfl, by show 0 + n <= n; omega⟩) (fun x hx => ?_); clear F)
  obtain ⟨j, acc⟩ := x
  obtain ⟨h1, h2⟩ := hx
  simp only at h1 h2
  rw [h1]
  clear h1
  by_cases hj : j = 0
  ·subst hj
   have q2 : (((0 : Nat) : Int) > 0) = False := eq_false (by omega)
   rw [txtL_z]
   have q5 : ((ByteArray.mk #[109]).size + acc.size <= 9223372036854775807) = True := eq_true (by show 1 + acc.size <= _; omega)
   (have F := ai @q2 @q5; refine gG ?_; exact gTd)
  ·have q2 : ((j : Int) > 0) = True := eq_true (by omega)
   rw [txtL_s hj]
   have q3 : IntKind.i64.wrap ((j : Int).tdiv 10) = ((j / 10 : Nat) : Int) := by rw [show (j : Int).tdiv 10 = ((j / 10 : Nat) : Int) from by rw [Int.ofNat_tdiv]; rfl]; exact IntWalk.i64_in _ (by omega)
   (have F := @q2; have NN : StopAt 5 := trivial; refine gGn ?_; clear F NN)
   refine gB ?_
   (have F := @q2; refine gP 5 ?_; clear F)
   refine gY ?_
   have q5 : ((dig j).size + acc.size <= 9223372036854775807) = True := eq_true (by rw [dig_size]; omega)
   change Runs _ _ _ _ ⟨(13, .d (.one (.lit (.string (dig j))))) :: _, _⟩ _
   (have F := ai @q2 @q5; refine gR ?_; clear F)
   have hd := dig_size j
   (have F := ai @q2 @q3; refine gG ?_; exact ⟨(j / 10, dig j ++ acc), ⟨rfl, by rw [ByteArray.size_append, hd]; omega⟩, gw, gw, by omega⟩)
end Go.Proofs.YtohilkmdjdfljaaGreat
namespace Go.Proofs.YtohilkmdjdfljaaGreat
open Go.RowKit
def mkV (k : Int) : Value -> Value
 | .int i _ => .int i k
 | .string _ => .string (txt k)
 | .bool _ => .bool (k % 3 == 0)
 | v => v
mutual
def mkC : Int -> C -> C
 | k, .lit v => .lit (mkV k v)
 | k, .sl rows => .sl (mkRows k rows)
 | _, .ptr cs => .ptr cs
 | _, .fn f cs => .fn f cs
def mkRow : Int -> List C -> List C
 | _, [] => []
 | k, c :: cs => mkC k c :: mkRow (k + cntC c) cs
def mkRows : Int -> List (List C) -> List (List C)
 | _, [] => []
 | k, r :: rs => mkRow k r :: mkRows (k + cntRow r) rs
def cntC : C -> Nat
 | .lit _ => 1
 | .sl rows => cntRows rows
 | .ptr _ => 0
 | .fn _ _ => 0
def cntRow : List C -> Nat
 | [] => 0
 | c :: cs => cntC c + cntRow cs
def cntRows : List (List C) -> Nat
 | [] => 0
 | r :: rs => cntRow r + cntRows rs
end
theorem mkRow_len : ∀ (k : Int) (cs : List C), (mkRow k cs).length = cs.length
 | _, [] => by simp [mkRow]
 | k, c :: cs => by simp [mkRow, mkRow_len _ cs]
theorem mkRows_len : ∀ (k : Int) (rs : List (List C)), (mkRows k rs).length = rs.length
 | _, [] => by simp [mkRows]
 | k, c :: cs => by simp [mkRows, mkRows_len _ cs]
theorem cnt_snoc : ∀ (rs : List (List C)) (r : List C), cntRows (rs ++ [r]) = cntRows rs + cntRow r
 | [], r => by simp [cntRows]
 | q :: rs, r => by simp [cntRows, cnt_snoc rs r]; omega
theorem mkRows_snoc : ∀ (rs : List (List C)) (r : List C) (k : Int), mkRows k (rs ++ [r]) = mkRows k rs ++ [mkRow (k + cntRows rs) r]
 | [], r, k => by simp [mkRows, cntRows]
 | q :: rs, r, k => by simp [mkRows, cntRows, mkRows_snoc rs r, Int.add_assoc]
theorem tk_snoc {α : Type} {l : List α} {i : Nat} {x : α} (h : l[i]? = some x) : l.take (i + 1) = l.take i ++ [x] := by simp [List.take_add_one, h]
theorem drop_get {α : Type} {l : List α} {i : Nat} {x : α} (h : l[i]? = some x) : l.drop i = x :: l.drop (i + 1) := by
 obtain ⟨h1, rfl⟩ := List.getElem?_eq_some_iff.1 h
 exact List.drop_eq_getElem_cons h1
theorem cnt_take_le : ∀ (rs : List (List C)) (i : Nat), cntRows (rs.take i) <= cntRows rs
 | [], i => by simp [cntRows]
 | r :: rs, 0 => by simp [cntRows]
 | r :: rs, i + 1 => by have := cnt_take_le rs i; simp only [List.take_succ_cons, cntRows]; omega
theorem apart_2 {x y : Bk} (h : ∀ g, pblk x g -> ¬ pblk y g) : Apart [x, y] := ⟨fun z hz g hg => by simp at hz; subst hz; exact h g hg, apart_1 _⟩
theorem fd_nil {E : Nat -> Prop} {v : Value} : Found (ι := Option Addr × Nat) [.set E (fun w => Own w (.sl []) E v)] (fun i => v = .slice i.1 0 i.2) (fun _ => [.set E (fun w => Own w (.sl []) E v)]) := fun w S h ha => by
 obtain ⟨h1, h2, h3⟩ : _ ∧ Own w (.sl []) E v ∧ _ := h (.set E (fun w => Own w (.sl []) E v)) (by simp)
 simp only [Own] at h2
 obtain ⟨A, n, cap, hv, hn, _⟩ := h2
 simp at hn
 subst hn
 exact ⟨(A, cap), hv, h, ha, fun _ h => h⟩
theorem fd_open {E : Nat -> Prop} {v : Value} {rows : List (List C)} {sz : Nat} (hne : rows ≠ []) (hrl : rowsLen sz rows) : Found (ι := Option Addr × Nat × Nat × List (List Value) × (Nat -> Prop)) [.set E (fun w => Own w (.sl rows) E v)]
  (fun i => v = .slice i.1 i.2.2.2.1.length i.2.1 ∧ i.2.2.2.1.length = rows.length ∧ rows.length <= maxLen) (fun i => [.buf (some (i.1, i.2.1)) i.2.2.1 sz (i.2.2.2.1.map litRow), .set i.2.2.2.2 (fun w => OwnVs w rows i.2.2.2.2 i.2.2.2.1)]) := fun w S h ha => by
 obtain ⟨h1, h2, h3⟩ : (∀ b, E b -> b < w.heap.size ∧ ¬ S b) ∧ Own w (.sl rows) E v ∧ _ := h (.set E (fun w => Own w (.sl rows) E v)) (by simp)
 obtain ⟨A, n, cap, rfl, hn1, hn2, hn3⟩ := (Own.rep _ _ _ h2).form
 obtain ⟨uss, ety, E', rfl, k1, k2, k3, k4⟩ := Own.open (T := S) (fun b hb => (h1 b hb).2) hne hrl h2
 refine ⟨(A, cap, ety, uss, E'), ⟨rfl, k2.len, by omega⟩, fun x hx => ?_, apart_2 fun g hg hg2 => ?_, fun g ⟨x, hx, hg⟩ => ⟨_, List.mem_cons_self, ?_⟩⟩
 ·simp only [List.mem_cons, List.not_mem_nil, or_false] at hx
  rcases hx with rfl | rfl
  ·show BufRel w S ety sz (uss.map litRow) (.slice A (uss.map litRow).length cap)
   rw [List.length_map]; exact k1
  ·exact ⟨fun b hb => h1 b (k3 b hb).1, k2, OwnVs.stable _ _ _⟩
 ·simp only [pblk, List.length_map] at hg hg2
  exact (k3 g hg2).2 hg
 ·simp only [List.mem_cons, List.not_mem_nil, or_false] at hx
  rcases hx with rfl | rfl
  ·simp only [pblk, List.length_map] at hg; exact k4 g hg
  ·exact (k3 g hg).1
def cellSets : List C -> List Value -> (Nat -> Nat -> Prop) -> List Bk
 | .sl rows :: cs, u :: us, Es => .set (Es 0) (fun w => Own w (.sl rows) (Es 0) u) :: cellSets cs us (fun k => Es (k + 1))
 | .lit _ :: cs, _ :: us, Es => cellSets cs us Es
 | _, _, _ => []
def litsOk : List C -> List Value -> Prop
 | [], [] => True
 | .lit x :: cs, u :: us => u = x ∧ litsOk cs us
 | .sl _ :: cs, _ :: us => litsOk cs us
 | _, _ => False
def plainC : C -> Bool
 | .lit _ => true
 | .sl _ => true
 | _ => false
theorem cells_of {w : World} {S : Nat -> Prop} : ∀ {cs : List C} {us : List Value} {E : Nat -> Prop}, cs.all plainC = true -> OwnVals w cs E us -> (∀ b, E b -> b < w.heap.size ∧ ¬ S b) -> ∃ Es, litsOk cs us ∧ (∀ x ∈ cellSets cs us Es, PinRel w S x) ∧ Apart (cellSets cs us Es) ∧ ∀ g, pblks (cellSets cs us Es) g -> E g
 | [], [], E, _, _, _ => ⟨fun _ _ => False, trivial, by simp [cellSets], trivial, fun g ⟨x, hx, _⟩ => by simp [cellSets] at hx⟩
 | c :: cs, u :: us, E, hp, h, hE => by
  simp only [OwnVals] at h
  obtain ⟨S1, S2, i1, i2, hd, h1, h2⟩ := h
  simp only [List.all_cons, Bool.and_eq_true] at hp
  obtain ⟨Es, k1, k2, k3, k4⟩ := cells_of hp.2 h2 (fun b hb => hE b (i2 b hb))
  cases c with
  | lit x =>
   simp only [Own] at h1
   exact ⟨Es, ⟨h1, k1⟩, k2, k3, fun g hg => i2 g (k4 g hg)⟩
  | sl rows =>
   refine ⟨fun k => match k with | 0 => S1 | k + 1 => Es k, k1, fun x hx => ?_, ⟨fun y hy g hg hg2 => hd g hg (k4 g ⟨y, hy, hg2⟩), k3⟩, fun g ⟨x, hx, hg⟩ => ?_⟩
   ·simp only [cellSets, List.mem_cons] at hx
    rcases hx with rfl | hx
    ·exact ⟨fun b hb => hE b (i1 b hb), h1, Own.stable _ _ _⟩
    ·exact k2 x hx
   ·simp only [cellSets, List.mem_cons] at hx
    rcases hx with rfl | hx
    ·exact i1 g hg
    ·exact i2 g (k4 g ⟨x, hx, hg⟩)
  | ptr _ => simp [plainC] at hp
  | fn _ _ => simp [plainC] at hp
 | [], _ :: _, _, _, h, _ => by simp [OwnVals] at h
 | _ :: _, [], _, _, h, _ => by simp [OwnVals] at h
theorem OwnVals.of_cells {w : World} {S : Nat -> Prop} : ∀ {cs : List C} {us : List Value} {Es : Nat -> Nat -> Prop}, cs.all plainC = true -> litsOk cs us -> (∀ x ∈ cellSets cs us Es, PinRel w S x) -> Apart (cellSets cs us Es) -> OwnVals w cs (pblks (cellSets cs us Es)) us
 | [], [], Es, _, _, _, _ => OwnVals.nil
 | .lit x :: cs, u :: us, Es, hp, hl, h, ha => by
  obtain ⟨rfl, hl⟩ := hl
  simp only [List.all_cons, Bool.and_eq_true] at hp
  simp only [OwnVals]
  exact ⟨fun _ => False, _, fun _ h => h.elim, fun _ h => h, fun _ h _ => h, by simp [Own], OwnVals.of_cells (Es := Es) hp.2 hl h ha⟩
 | .sl rows :: cs, u :: us, Es, hp, hl, h, ha => by
  simp only [List.all_cons, Bool.and_eq_true] at hp
  simp only [OwnVals]
  obtain ⟨a1, a2⟩ := ha
  have hE := h (.set (Es 0) (fun w => Own w (.sl rows) (Es 0) u)) List.mem_cons_self
  refine ⟨Es 0, pblks (cellSets cs us (fun k => Es (k + 1))), fun b hb => ⟨_, List.mem_cons_self, hb⟩, fun b ⟨x, hx, hb⟩ => ⟨x, List.mem_cons_of_mem _ hx, hb⟩, fun b hb ⟨x, hx, hb2⟩ => a1 x hx b hb hb2, hE.2.1, OwnVals.of_cells hp.2 hl (fun x hx => h x (List.mem_cons_of_mem _ hx)) a2⟩
 | .ptr _ :: _, _ :: _, _, hp, _, _, _ => by simp [plainC] at hp
 | .fn _ _ :: _, _ :: _, _, hp, _, _, _ => by simp [plainC] at hp
 | [], _ :: _, _, _, hl, _, _ => by simp [litsOk] at hl
 | .lit _ :: _, [], _, _, hl, _, _ => by simp [litsOk] at hl
 | .sl _ :: _, [], _, _, hl, _, _ => by simp [litsOk] at hl
theorem cellSets_set : ∀ {cs : List C} {us : List Value} {Es : Nat -> Nat -> Prop} (y : Bk), y ∈ cellSets cs us Es -> ∃ E G, y = .set E G
 | .sl rows :: cs, u :: us, Es, y, h => by
  rcases List.mem_cons.1 h with rfl | h
  ·exact ⟨_, _, rfl⟩
  ·exact cellSets_set y h
 | .lit _ :: cs, _ :: us, Es, y, h => cellSets_set (cs := cs) (us := us) y h
 | .ptr _ :: _, _, _, y, h => by simp [cellSets] at h
 | .fn _ _ :: _, _, _, y, h => by simp [cellSets] at h
 | [], _, _, y, h => by simp [cellSets] at h
 | .lit _ :: _, [], _, y, h => by simp [cellSets] at h
 | .sl _ :: _, [], _, y, h => by simp [cellSets] at h
theorem fd_lits {E : Nat -> Prop} {r : List C} {rest : List (List C)} {us : List Value} {urest : List (List Value)} (hp : r.all plainC = true) : Found (ι := Unit) [.set E (fun w => OwnVs w (r :: rest) E (us :: urest))] (fun _ => litsOk r us) (fun _ => [.set E (fun w => OwnVs w (r :: rest) E (us :: urest))]) := fun w S h ha => by
 obtain ⟨h1, h2, h3⟩ : (∀ b, E b -> b < w.heap.size ∧ ¬ S b) ∧ OwnVs w (r :: rest) E (us :: urest) ∧ _ := h (.set E (fun w => OwnVs w (r :: rest) E (us :: urest))) (by simp)
 obtain ⟨S1, S2, i1, i2, hd, k1, k2⟩ := h2
 obtain ⟨Es, hl, _⟩ := cells_of (S := S) hp k1 (fun b hb => h1 b (i1 b hb))
 exact ⟨(), hl, h, ha, fun _ h => h⟩
theorem fd_row {E : Nat -> Prop} {r : List C} {rest : List (List C)} {us : List Value} {urest : List (List Value)} (hp : r.all plainC = true) : Found (ι := (Nat -> Prop) × (Nat -> Nat -> Prop)) [.set E (fun w => OwnVs w (r :: rest) E (us :: urest))] (fun _ => True) (fun i => .set i.1 (fun w => OwnVs w rest i.1 urest) :: cellSets r us i.2) := fun w S h ha => by
 obtain ⟨h1, h2, h3⟩ : (∀ b, E b -> b < w.heap.size ∧ ¬ S b) ∧ OwnVs w (r :: rest) E (us :: urest) ∧ _ := h (.set E (fun w => OwnVs w (r :: rest) E (us :: urest))) (by simp)
 obtain ⟨S1, S2, i1, i2, hd, k1, k2⟩ := h2
 obtain ⟨Es, hl, q1, q2, q3⟩ := cells_of (S := S) hp k1 (fun b hb => h1 b (i1 b hb))
 refine ⟨(S2, Es), trivial, fun x hx => ?_, ⟨fun y hy g hg hg2 => hd g (q3 g ⟨y, hy, hg2⟩) hg, q2⟩, fun g ⟨x, hx, hg⟩ => ⟨_, List.mem_cons_self, ?_⟩⟩
 ·rcases List.mem_cons.1 hx with rfl | hx
  ·exact ⟨fun b hb => h1 b (i2 b hb), k2, OwnVs.stable _ _ _⟩
  ·exact q1 x hx
 ·rcases List.mem_cons.1 hx with rfl | hx
  ·exact i2 g hg
  ·exact i1 g (q3 g ⟨x, hx, hg⟩)
theorem re_row {E : Nat -> Prop} {done : List (List C)} {ud : List (List Value)} {cs : List C} {us : List Value} {Es : Nat -> Nat -> Prop} (hp : cs.all plainC = true) (hl : litsOk cs us) : Retold (.set E (fun w => OwnVs w done E ud) :: cellSets cs us Es) [.set (fun b => E b ∨ pblks (cellSets cs us Es) b) (fun w => OwnVs w (done ++ [cs]) (fun b => E b ∨ pblks (cellSets cs us Es) b) (ud ++ [us]))] := fun w S h ha => by
 have hE := h (.set E (fun w => OwnVs w done E ud)) List.mem_cons_self
 have hv := OwnVals.of_cells (w := w) (S := S) hp hl (fun x hx => h x (List.mem_cons_of_mem _ hx)) ha.2
 refine ⟨fun x hx => ?_, apart_1 _, fun g ⟨x, hx, hg⟩ => ?_⟩
 ·simp only [List.mem_cons, List.not_mem_nil, or_false] at hx
  subst hx
  refine ⟨fun b hb => ?_, OwnVs.snoc hE.2.1 hv (fun _ h => .inl h) (fun _ h => .inr h) (fun b hb ⟨y, hy, hg⟩ => ha.1 y hy b hb hg), OwnVs.stable _ _ _⟩
  rcases hb with hb | ⟨y, hy, hg⟩
  ·exact hE.1 b hb
  ·obtain ⟨E', G', rfl⟩ := cellSets_set y hy
   exact (h _ (List.mem_cons_of_mem _ hy)).1 b hg
 ·simp only [List.mem_cons, List.not_mem_nil, or_false] at hx
  subst hx
  rcases hg with hg | ⟨y, hy, hg⟩
  ·exact ⟨_, List.mem_cons_self, hg⟩
  ·exact ⟨y, List.mem_cons_of_mem _ hy, hg⟩
end Go.Proofs.YtohilkmdjdfljaaGreat
namespace Go.Proofs.YtohilkmdjdfljaaGreat
open Go.RowKit
theorem litRow4 (u0 u1 u2 u3 : Value) : litRow [u0, u1, u2, u3] = [.lit u0, .lit u1, .lit u2, .lit u3] := rfl
theorem len_lits (uss : List (List Value)) : (uss.map litRow).length = uss.length := List.length_map ..
end Go.Proofs.YtohilkmdjdfljaaGreat
namespace Go.Proofs.YtohilkmdjdfljaaGreat
open Go.RowKit
def MarkS (f : FuncId) (rows : List (List C)) : Prop := ∀ (k : Int) (E : Nat -> Prop) (v : Value), 0 <= k -> k + cntRows rows <= 1000000000 -> ConP e0 f [.one (.lit v), .one (.lit (.int .i64 k))] [.set E (fun w => Own w (.sl rows) E v)] (fun r pm => ∃ E', r = [.one (.lit (.int .i64 (k + cntRows rows)))] ∧ pm = [.set E' (fun w => Own w (.sl (mkRows k rows)) E' v)])
theorem okRows.rowsLen {fs : List F} {rows : List (List C)} (h : okRows fs rows) : rowsLen fs.length rows := fun r hr => by
 obtain ⟨i, hi⟩ := List.getElem?_of_mem hr
 exact ⟨(h.get hi).len, (h.get hi).cells⟩
theorem mkRows_nil (k : Int) : mkRows k [] = [] := by simp only [mkRows]
theorem cnt_nil : cntRows [] = 0 := by simp only [cntRows]
theorem set_get {α : Type} {l : List α} {i : Nat} (h : i < l.length) (x : α) : (l.set i x)[i]? = some x := by simp [h]
theorem set_len {α : Type} (l : List α) (i : Nat) (x : α) : (l.set i x).length = l.length := List.length_set
theorem set_set' {α : Type} (l : List α) (i : Nat) (x y : α) : (l.set i x).set i y = l.set i y := List.set_set ..
theorem set_take {α : Type} {l : List α} {i : Nat} {x : α} (h : i < l.length) : (l.set i x).take (i + 1) = l.take i ++ [x] := by
 rw [tk_snoc (x := x) (by simp [h]), List.take_set_of_le (Nat.le_refl _)]
theorem set_drop {α : Type} (l : List α) (i : Nat) (x : α) : (l.set i x).drop (i + 1) = l.drop (i + 1) := List.drop_set_of_lt (by omega)
set_option maxHeartbeats 8000000 in
set_option maxRecDepth 100000 in
theorem mark_TermS (rows : List (List C)) (hok : okRows (fieldsOf .term) rows) (h : ∀ r ∈ rows, ∀ i0 t1 i2 r3, r = [.lit (.int .i64 i0), .lit (.string t1), .lit (.int .i64 i2), .sl r3] -> MarkS 58 r3) : MarkS 58 rows := by
 intro k E v hk hb
 refine gIP (ts := [.slot 4]) [1000] 563 Tryz.func58 ?_
 (have F := @e0P; refine gG ?_; clear F)
 by_cases hne : rows = []
 ·subst hne
  refine pEx [1000] [1000] fd_nil ?_
  rintro ⟨a, cap⟩ rfl
  (have F := @hk; refine gL (ι := Unit) [1, 5, 9] [] (fun x => [(5, .d (.one (.lit (.int .i64 0)))), (1, .d (.one (.lit (.int .i64 k))))]) (fun x => []) (fun x => True) (fun x => 0) (()) (trivial) (fun x hx => ?_); clear F)
  have q1 : ((0 : Int) < 0) = False := eq_false (by decide)
  have q2 : ((0 : Int) < ((0 : Nat) : Int)) = False := eq_false (by decide)
  (have F := ai @q1 @q2; refine gG ?_; clear F)
  have F := hk
  refine gTP (R := fun r pm => ∃ E', r = [.one (.lit (.int .i64 (k + (cntRows [] : Nat))))] ∧ pm = [.set E' (fun w => Own w (.sl (mkRows k [])) E' (.slice a 0 cap))]) [1000] ⟨E, by simp only [cntRows, Int.natCast_zero, Int.add_zero]; rfl, by simp only [mkRows]; rfl⟩
 ·have hrl : rowsLen 4 rows := okRows.rowsLen hok
  refine pEx [1000] [1000, 1001] (fd_open hne hrl) ?_
  rintro ⟨a, cap, ety, uss, E1⟩ ⟨rfl, hl, hmx⟩
  simp only at hl ⊢
  unfold maxLen at hmx
  refine pE [] [1002] re_none ?_
  (have F := ai @mkRows_nil (ai @cnt_nil (ai @Int.add_zero @Int.natCast_zero)); refine gL (ι := Nat × List (List Value) × (Nat -> Prop) × (Nat -> Prop)) [1, 5, 9] [1000, 1001, 1002] (fun x => [(5, .d (.one (.lit (.int .i64 (x.1 : Int))))), (1, .d (.one (.lit (.int .i64 (k + (cntRows (rows.take x.1) : Nat))))))]) (fun x => [(1000, .buf (some (a, cap)) ety 4 (x.2.1.map litRow)), (1001, .set x.2.2.1 (fun w => OwnVs w (rows.drop x.1) x.2.2.1 (x.2.1.drop x.1))), (1002, .set x.2.2.2 (fun w => OwnVs w (mkRows k (rows.take x.1)) x.2.2.2 (x.2.1.take x.1)))]) (fun x => x.1 <= rows.length ∧ x.2.1.length = rows.length) (fun x => rows.length - x.1) ((0, uss, E1, fun _ => False)) (⟨Nat.zero_le _, hl⟩) (fun x hx => ?_); clear F)
  obtain ⟨i, us, E2, E3⟩ := x
  obtain ⟨hi, hn⟩ := hx
  simp only at hi hn
  dsimp only
  by_cases hlt : i < rows.length
  ·obtain ⟨r, hr⟩ : ∃ r, rows[i]? = some r := ⟨_, List.getElem?_eq_getElem hlt⟩
   obtain ⟨u, hu⟩ : ∃ u, us[i]? = some u := ⟨_, List.getElem?_eq_getElem (by omega)⟩
   obtain ⟨i0, t1, i2, r3, rfl, _, _, _, g3⟩ := okRow_Term (hok.get hr)
   have hm := h _ (List.mem_of_getElem? hr) i0 t1 i2 r3 rfl
   have hc1 : cntRows (rows.take (i + 1)) = cntRows (rows.take i) + (3 + cntRows r3) := by
    rw [tk_snoc hr, cnt_snoc]; simp only [cntRow, cntC]; omega
   have hc2 := cnt_take_le rows (i + 1)
   rw [drop_get hr, drop_get hu]
   refine pEx [1001] [1001] (fd_lits rfl) ?_
   rintro ⟨⟩ hlit
   obtain ⟨u3, rfl⟩ : ∃ u3, u = [.int .i64 i0, .string t1, .int .i64 i2, u3] := by
    match u, hlit with
    | [_, _, _, u3], ⟨rfl, rfl, rfl, _⟩ => exact ⟨u3, rfl⟩
   refine pEx (f := fun (x : (Nat -> Prop) × (Nat -> Nat -> Prop)) => [.set x.1 (fun w => OwnVs w (rows.drop (i + 1)) x.1 (us.drop (i + 1))), .set (x.2 0) (fun w => Own w (.sl r3) (x.2 0) u3)]) [1001] [1001, 1003] (fd_row rfl) ?_
   rintro ⟨E4, Es⟩ -
   dsimp only
   generalize hkk : k + (cntRows (rows.take i) : Int) = kk
   have q1 : ((i : Int) < (rows.length : Int)) = True := eq_true (by omega)
   have q2 : i < rows.length := hlt
   have hs : ∀ X : List C, ((us.map litRow).set i X)[i]? = some X := fun X => set_get (by rw [len_lits, hn]; omega) X
   have w1 : IntKind.i64.wrap (kk + 1) = kk + 1 := IntWalk.i64_in _ (by omega)
   have w2 : IntKind.i64.wrap (kk + 1 + 1) = kk + 1 + 1 := IntWalk.i64_in _ (by omega)
   have w3 : IntKind.i64.wrap (kk + 1 + 1 + 1) = kk + 1 + 1 + 1 := IntWalk.i64_in _ (by omega)
   have w4 : IntKind.i64.wrap ((i : Int) + 1) = (i : Int) + 1 := IntWalk.i64_in _ (by omega)
   (have F := ai @q1 (ai @hl (ai @hn (ai @hu (ai @litRow4 (ai @len_lits (ai @set_len (ai @hs (ai @w1 (ai @w2 (ai @w3 (ai @q2 @set_set'))))))))))); refine gG ?_; clear F)
   refine gB ?_
   (have F := @q1; refine gC (con_markText (kk + 1) (by omega) (by omega)) ?_; clear F)
   (have F := ai @hl (ai @hn (ai @hu (ai @litRow4 (ai @len_lits (ai @set_len (ai @hs (ai @q2 @set_set'))))))); refine gR ?_; clear F)
   (have F := ai @q1 (ai @hl (ai @hn (ai @hu (ai @litRow4 (ai @len_lits (ai @set_len (ai @hs (ai @w1 (ai @w2 (ai @w3 (ai @q2 @set_set'))))))))))); refine gG ?_; clear F)
   refine gB ?_
   (have F := ai @q1 (ai @hl (ai @hn (ai @hu (ai @litRow4 (ai @len_lits (ai @set_len (ai @hs (ai @w1 (ai @w2 (ai @w3 (ai @q2 @set_set'))))))))))); refine gCP [1003] [1003] (hm (kk + 1 + 1 + 1) (Es 0) u3 (by omega) (by omega)) ?_; clear F)
   rintro r pm ⟨E5, rfl, rfl⟩
   simp only [setA, retA, zipM, List.cons_append, List.nil_append]
   (have F := @q1; refine gR ?_; clear F)
   obtain ⟨E6, hre⟩ : ∃ E6, Retold [.set E3 (fun w => OwnVs w (mkRows k (rows.take i)) E3 (us.take i)), .set E5 (fun w => Own w (.sl (mkRows (kk + 1 + 1 + 1) r3)) E5 u3)] [.set E6 (fun w => OwnVs w (mkRows k (rows.take (i + 1))) E6 ((us.set i [.int .i64 kk, .string (txt (kk + 1)), .int .i64 (kk + 1 + 1), u3]).take (i + 1)))] := by
    have hz := re_row (E := E3) (done := mkRows k (rows.take i)) (ud := us.take i) (cs := [.lit (.int .i64 kk), .lit (.string (txt (kk + 1))), .lit (.int .i64 (kk + 1 + 1)), .sl (mkRows (kk + 1 + 1 + 1) r3)]) (us := [.int .i64 kk, .string (txt (kk + 1)), .int .i64 (kk + 1 + 1), u3]) (Es := fun _ => E5) rfl ⟨rfl, rfl, rfl, trivial⟩
    rw [tk_snoc hr, mkRows_snoc, hkk, set_take (by omega)]
    simp only [mkRow, mkC, mkV, cntC, Int.natCast_one]
    exact ⟨_, hz⟩
   refine pE [1002, 1003] [1002] hre ?_
   have e1 : ((us.set i [.int .i64 kk, .string (txt (kk + 1)), .int .i64 (kk + 1 + 1), u3]).map litRow) = (us.map litRow).set i [.lit (.int .i64 kk), .lit (.string (txt (kk + 1))), .lit (.int .i64 (kk + 1 + 1)), .lit u3] := by rw [List.map_set, litRow4]
   have e2 := set_drop us i [.int .i64 kk, .string (txt (kk + 1)), .int .i64 (kk + 1 + 1), u3]
   have e5 : k + (cntRows (rows.take (i + 1)) : Int) = kk + 1 + 1 + 1 + (cntRows r3 : Int) := by rw [hc1]; omega
   have hn2 : (us.set i [.int .i64 kk, .string (txt (kk + 1)), .int .i64 (kk + 1 + 1), u3]).length = rows.length := by rw [set_len, hn]
   generalize us.set i [.int .i64 kk, .string (txt (kk + 1)), .int .i64 (kk + 1 + 1), u3] = us2 at e1 e2 hn2 ⊢
   rw [<- e1, <- e2]
   (have F := ai @w4 (ai @e5 @hl); refine gG ?_; exact ⟨(i + 1, us2, E4, E6), ⟨hlt, hn2⟩, gw, gw, by omega⟩)
  ·obtain rfl : i = rows.length := by omega
   have q1 : ((rows.length : Int) < (rows.length : Int)) = False := eq_false (by omega)
   rw [List.take_length, List.take_of_length_le (Nat.le_of_eq hn)]
   (have F := ai @q1 (ai @hl @hn); refine gG ?_; clear F)
   obtain ⟨E6, hre⟩ : ∃ E6, Retold [.buf (some (a, cap)) ety 4 (us.map litRow), .set E3 (fun w => OwnVs w (mkRows k rows) E3 us)] [.set E6 (fun w => Own w (.sl (mkRows k rows)) E6 (.slice a uss.length cap))] := by
    rw [hl, <- hn]
    exact ⟨_, re_close (fun w h => h) (Own.stable _ _ _)⟩
   refine pE [1000, 1002] [1000] hre ?_
   have F := hk
   exact gTP (R := fun r pm => ∃ E', r = [.one (.lit (.int .i64 (k + (cntRows rows : Nat))))] ∧ pm = [.set E' (fun w => Own w (.sl (mkRows k rows)) E' (.slice a uss.length cap))]) [1000] ⟨E6, rfl, rfl⟩
theorem markTermS_n (n : Nat) : ∀ rows, nodesRows rows < n -> okRows (fieldsOf .term) rows -> MarkS 58 rows := by
 induction n with
 | zero => exact fun _ h => by omega
 | succ n ih =>
  intro rows hn hok
  refine mark_TermS rows hok fun r hr i0 t1 i2 r3 he => ?_
  subst he
  obtain ⟨i, hi⟩ := List.getElem?_of_mem hr
  have h1 := nodes_get hi
  obtain ⟨_, _, _, _, he, _, _, _, g3⟩ := okRow_Term (hok.get hi)
  injection he with _ he; injection he with _ he; injection he with _ he; injection he with he _; injection he with he; subst he
  simp only [nodesRow, nodesC] at h1
  exact ih _ (by omega) g3
theorem markTermS_all {rows : List (List C)} (hok : okRows (fieldsOf .term) rows) : MarkS 58 rows := markTermS_n _ rows (Nat.lt_succ_self _) hok
def mkTop : Int -> List C -> List C
 | _, [] => []
 | k, .sl rows :: cs => .sl (mkRows k rows) :: mkTop (k + cntRows rows) cs
 | k, c :: cs => c :: mkTop k cs
def cntTop : List C -> Nat
 | [] => 0
 | .sl rows :: cs => cntRows rows + cntTop cs
 | _ :: cs => cntTop cs
def MarkV (f : FuncId) (row : List C) : Prop := ∀ (k : Int) (E : Nat -> Prop) (us : List Value), us.length = row.length -> (litRow us).all okCell = true -> 0 <= k -> k + cntTop row <= 1000000000 -> ConP e0 f [.agg (litRow us), .one (.lit (.int .i64 k))] [.set E (fun w => OwnVals w row E us)] (fun r pm => ∃ E', r = [.one (.lit (.int .i64 (k + cntTop row)))] ∧ pm = [.set E' (fun w => OwnVals w (mkTop k row) E' us)])
theorem fd_cells {E : Nat -> Prop} {r : List C} {us : List Value} (hp : r.all plainC = true) : Found (ι := Nat -> Nat -> Prop) [.set E (fun w => OwnVals w r E us)] (fun _ => True) (fun i => cellSets r us i) := fun w S h ha => by
 obtain ⟨h1, h2, h3⟩ : (∀ b, E b -> b < w.heap.size ∧ ¬ S b) ∧ OwnVals w r E us ∧ _ := h (.set E (fun w => OwnVals w r E us)) (by simp)
 obtain ⟨Es, hl, q1, q2, q3⟩ := cells_of (S := S) hp h2 h1
 exact ⟨Es, trivial, q1, q2, fun g hg => ⟨_, List.mem_cons_self, q3 g hg⟩⟩
theorem re_cells {cs : List C} {us : List Value} {Es : Nat -> Nat -> Prop} (hp : cs.all plainC = true) (hl : litsOk cs us) : Retold (cellSets cs us Es) [.set (pblks (cellSets cs us Es)) (fun w => OwnVals w cs (pblks (cellSets cs us Es)) us)] := fun w S h ha => by
 have hv := OwnVals.of_cells (w := w) (S := S) hp hl h ha
 refine ⟨fun x hx => ?_, apart_1 _, fun g ⟨x, hx, hg⟩ => ?_⟩
 ·simp only [List.mem_cons, List.not_mem_nil, or_false] at hx
  subst hx
  refine ⟨fun b ⟨y, hy, hg⟩ => ?_, hv, OwnVals.stable _ _ _⟩
  obtain ⟨E', G', rfl⟩ := cellSets_set y hy
  exact (h _ hy).1 b hg
 ·simp only [List.mem_cons, List.not_mem_nil, or_false] at hx
  subst hx
  exact hg
end Go.Proofs.YtohilkmdjdfljaaGreat
namespace Go.Proofs.YtohilkmdjdfljaaGreat
open Go.RowKit
def HeldS (f : FuncId) (rows : List (List C)) : Prop := ∀ (k : Int), 0 <= k -> k + cntRows rows <= 1000000000 -> Con e0 f [.one (.sl (mkRows k rows)), .one (.lit (.int .i64 k))] [.one (.lit (.int .i64 (k + cntRows rows)))]
theorem mkRows_get : ∀ {rows : List (List C)} {i : Nat} {r : List C} (k : Int), rows[i]? = some r -> (mkRows k rows)[i]? = some (mkRow (k + cntRows (rows.take i)) r)
 | q :: rows, 0, r, k, h => by simp at h; subst h; simp [mkRows, cntRows]
 | q :: rows, i + 1, r, k, h => by
  simp only [List.getElem?_cons_succ] at h
  simp only [mkRows, List.getElem?_cons_succ, List.take_succ_cons, cntRows]
  rw [mkRows_get _ h]
  congr 2
  omega
 | [], _, _, _, h => by simp at h
theorem mkV_ok {v : Value} {k : Int} (h : okCell (.lit v) = true) : okCell (.lit (mkV k v)) = true := by
 cases v <;> first | rfl | exact h
theorem mkRow_cells : ∀ (cs : List C) (k : Int), cs.all okCell = true -> (mkRow k cs).all okCell = true
 | [], _, _ => by simp [mkRow]
 | c :: cs, k, h => by
  simp only [List.all_cons, Bool.and_eq_true] at h
  simp only [mkRow, List.all_cons, Bool.and_eq_true]
  refine ⟨?_, mkRow_cells cs _ h.2⟩
  cases c with
  | lit v => simp only [mkC]; exact mkV_ok h.1
  | _ => simp [mkC, okCell]
theorem rb_mk {n : Nat} : ∀ {rows : List (List C)} (k : Int), rowsLen n rows -> rowsB n (mkRows k rows) = true
 | [], k, _ => by simp [mkRows, rowsB]
 | r :: rows, k, h => by
  have h1 := h r List.mem_cons_self
  have h2 := rb_mk (k + cntRow r) (fun x hx => h x (List.mem_cons_of_mem _ hx) : rowsLen n rows)
  unfold rowsB at h2 ⊢
  simp only [mkRows, List.all_cons, Bool.and_eq_true]
  exact ⟨⟨by rw [mkRow_len, h1.1]; exact beq_self_eq_true n, mkRow_cells _ _ h1.2⟩, h2⟩
end Go.Proofs.YtohilkmdjdfljaaGreat
namespace Go.Proofs.YtohilkmdjdfljaaGreat
open Go.RowKit
set_option maxHeartbeats 16000000 in
set_option maxRecDepth 100000 in
theorem mark_StringS_of {rows : List (List C)} (hok : okRows (fieldsOf .str) rows) : MarkS 30 rows := by
 intro k E v hk hb
 refine gIP (ts := [.slot 4]) [1000] 563 Tryz.func30 ?_
 (have F := @e0P; refine gG ?_; clear F)
 by_cases hne : rows = []
 ·subst hne
  refine pEx [1000] [1000] fd_nil ?_
  rintro ⟨a, cap⟩ rfl
  (have F := @hk; refine gL (ι := Unit) [1, 5, 9] [] (fun x => [(5, .d (.one (.lit (.int .i64 0)))), (1, .d (.one (.lit (.int .i64 k))))]) (fun x => []) (fun x => True) (fun x => 0) (()) (trivial) (fun x hx => ?_); clear F)
  have q1 : ((0 : Int) < 0) = False := eq_false (by decide)
  have q2 : ((0 : Int) < ((0 : Nat) : Int)) = False := eq_false (by decide)
  (have F := ai @q1 @q2; refine gG ?_; clear F)
  have F := hk
  refine gTP (R := fun r pm => ∃ E', r = [.one (.lit (.int .i64 (k + (cntRows [] : Nat))))] ∧ pm = [.set E' (fun w => Own w (.sl (mkRows k [])) E' (.slice a 0 cap))]) [1000] ⟨E, by simp only [cntRows, Int.natCast_zero, Int.add_zero]; rfl, by simp only [mkRows]; rfl⟩
 ·have hrl : rowsLen 1 rows := okRows.rowsLen hok
  refine pEx [1000] [1000, 1001] (fd_open hne hrl) ?_
  rintro ⟨a, cap, ety, uss, E1⟩ ⟨rfl, hl, hmx⟩
  simp only at hl ⊢
  unfold maxLen at hmx
  refine pE [] [1002] re_none ?_
  (have F := ai @mkRows_nil (ai @cnt_nil (ai @Int.add_zero @Int.natCast_zero)); refine gL (ι := Nat × List (List Value) × (Nat -> Prop) × (Nat -> Prop)) [1, 5, 9] [1000, 1001, 1002] (fun x => [(5, .d (.one (.lit (.int .i64 (x.1 : Int))))), (1, .d (.one (.lit (.int .i64 (k + (cntRows (rows.take x.1) : Nat))))))]) (fun x => [(1000, .buf (some (a, cap)) ety 1 (x.2.1.map litRow)), (1001, .set x.2.2.1 (fun w => OwnVs w (rows.drop x.1) x.2.2.1 (x.2.1.drop x.1))), (1002, .set x.2.2.2 (fun w => OwnVs w (mkRows k (rows.take x.1)) x.2.2.2 (x.2.1.take x.1)))]) (fun x => x.1 <= rows.length ∧ x.2.1.length = rows.length) (fun x => rows.length - x.1) ((0, uss, E1, fun _ => False)) (⟨Nat.zero_le _, hl⟩) (fun x hx => ?_); clear F)
  obtain ⟨i, us, E2, E3⟩ := x
  obtain ⟨hi, hn⟩ := hx
  simp only at hi hn
  dsimp only
  by_cases hlt : i < rows.length
  ·obtain ⟨r, hr⟩ : ∃ r, rows[i]? = some r := ⟨_, List.getElem?_eq_getElem hlt⟩
   obtain ⟨u, hu⟩ : ∃ u, us[i]? = some u := ⟨_, List.getElem?_eq_getElem (by omega)⟩
   obtain ⟨t0, rfl, g0⟩ := okRow_String (hok.get hr)
   have hc1 : cntRows (rows.take (i + 1)) = cntRows (rows.take i) + (1) := by
    rw [tk_snoc hr, cnt_snoc]; simp only [cntRow, cntC]; try omega
   have hc2 := cnt_take_le rows (i + 1)
   rw [drop_get hr, drop_get hu]
   refine pEx [1001] [1001] (fd_lits rfl) ?_
   rintro ⟨⟩ hlit
   obtain rfl : u = [.string t0] := by
    match u, hlit with
    | [_], ⟨rfl, _⟩ => rfl
   refine pEx (f := fun (x : (Nat -> Prop) × (Nat -> Nat -> Prop)) => [.set x.1 (fun w => OwnVs w (rows.drop (i + 1)) x.1 (us.drop (i + 1)))]) [1001] [1001] (fd_row rfl) ?_
   rintro ⟨E4, Es⟩ -
   dsimp only
   have hkk0 : 0 <= k + (cntRows (rows.take i) : Int) := by omega
   have hkk1 : k + (cntRows (rows.take i) : Int) + ((1 : Nat) : Int) <= 1000000000 := by omega
   generalize hkk : k + (cntRows (rows.take i) : Int) = kk at hkk0 hkk1 ⊢
   have q1 : ((i : Int) < (rows.length : Int)) = True := eq_true (by omega)
   have q2 : i < rows.length := hlt
   have hs : ∀ X : List C, ((us.map litRow).set i X)[i]? = some X := fun X => set_get (by rw [len_lits, hn]; omega) X
   have lr : litRow [.string t0] = [.lit (.string t0)] := rfl
   have w0 : IntKind.i64.wrap (kk + 1) = kk + 1 := IntWalk.i64_in _ (by omega)
   have wi : IntKind.i64.wrap ((i : Int) + 1) = (i : Int) + 1 := IntWalk.i64_in _ (by omega)
   (have F := ai @q1 (ai @hl (ai @hn (ai @hu (ai @lr (ai @len_lits (ai @set_len (ai @hs (ai @w0 (ai @q2 @set_set'))))))))); refine gG ?_; clear F)
   refine gB ?_
   (have F := ai @q1 (ai @hl (ai @hn (ai @hu (ai @lr (ai @len_lits (ai @set_len (ai @hs (ai @w0 (ai @q2 @set_set'))))))))); refine gC (con_markText (kk) (by omega) (by omega)) ?_; clear F)
   (have F := ai @q1 (ai @hl (ai @hn (ai @hu (ai @lr (ai @len_lits (ai @set_len (ai @hs (ai @w0 (ai @q2 @set_set'))))))))); refine gR ?_; clear F)
   obtain ⟨E6, hre⟩ : ∃ E6, Retold [.set E3 (fun w => OwnVs w (mkRows k (rows.take i)) E3 (us.take i))] [.set E6 (fun w => OwnVs w (mkRows k (rows.take (i + 1))) E6 ((us.set i [.string (txt (kk))]).take (i + 1)))] := by
    have hz := re_row (E := E3) (done := mkRows k (rows.take i)) (ud := us.take i) (cs := [.lit (.string (txt (kk)))]) (us := [.string (txt (kk))]) (Es := fun _ _ => False) rfl ⟨rfl, trivial⟩
    rw [tk_snoc hr, mkRows_snoc, hkk, set_take (by omega)]
    simp only [mkRow, mkC, mkV, cntC, Int.natCast_one]
    exact ⟨_, hz⟩
   refine pE [1002] [1002] hre ?_
   have e1 : ((us.set i [.string (txt (kk))]).map litRow) = (us.map litRow).set i [.lit (.string (txt (kk)))] := by rw [List.map_set]; rfl
   have e2 := set_drop us i [.string (txt (kk))]
   have e5 : k + (cntRows (rows.take (i + 1)) : Int) = kk + 1 := by rw [hc1]; omega
   have hn2 : (us.set i [.string (txt (kk))]).length = rows.length := by rw [set_len, hn]
   generalize us.set i [.string (txt (kk))] = us2 at e1 e2 hn2 ⊢
   rw [<- e1, <- e2]
   (have F := ai @wi (ai @e5 (ai @hl (ai @w0 @hn))); refine gG ?_; exact ⟨(i + 1, us2, E4, E6), ⟨hlt, hn2⟩, gw, gw, by omega⟩)
  ·obtain rfl : i = rows.length := by omega
   have q1 : ((rows.length : Int) < (rows.length : Int)) = False := eq_false (by omega)
   rw [List.take_length, List.take_of_length_le (Nat.le_of_eq hn)]
   (have F := ai @q1 (ai @hl @hn); refine gG ?_; clear F)
   obtain ⟨E6, hre⟩ : ∃ E6, Retold [.buf (some (a, cap)) ety 1 (us.map litRow), .set E3 (fun w => OwnVs w (mkRows k rows) E3 us)] [.set E6 (fun w => Own w (.sl (mkRows k rows)) E6 (.slice a uss.length cap))] := by
    rw [hl, <- hn]
    exact ⟨_, re_close (fun w h => h) (Own.stable _ _ _)⟩
   refine pE [1000, 1002] [1000] hre ?_
   have F := hk
   exact gTP (R := fun r pm => ∃ E', r = [.one (.lit (.int .i64 (k + (cntRows rows : Nat))))] ∧ pm = [.set E' (fun w => Own w (.sl (mkRows k rows)) E' (.slice a uss.length cap))]) [1000] ⟨E6, rfl, rfl⟩
theorem markStringS_all {rows : List (List C)} (hok : okRows (fieldsOf .str) rows) : MarkS 30 rows := mark_StringS_of hok
end Go.Proofs.YtohilkmdjdfljaaGreat
namespace Go.Proofs.YtohilkmdjdfljaaGreat
open Go.RowKit
set_option maxHeartbeats 8000000 in
set_option maxRecDepth 100000 in
theorem heldStringS_all {rows : List (List C)} (hok : okRows (fieldsOf .str) rows) (hmx : rows.length <= 1048576) : HeldS 31 rows := by
 intro k hk hb
 have hrb : rowsB 1 (mkRows k rows) = true := rb_mk k hok.rowsLen
 have hml := mkRows_len k rows
 refine gI (ts := [.slot 4]) 262707 Tryz.func31 ?_
 (have F := @e0P; refine gG ?_; clear F)
 (have F := ai @mkRows_nil (ai @cnt_nil (ai @Int.add_zero @Int.natCast_zero)); refine gL (ι := Nat) [1, 4, 5, 9, 18] [] (fun x => [(5, .d (.one (.lit (.int .i64 (x : Int))))), (1, .d (.one (.lit (.int .i64 (k + (cntRows (rows.take x) : Nat))))))]) (fun x => []) (fun x => x <= rows.length) (fun x => rows.length - x) (0) (Nat.zero_le _) (fun x hx => ?_); clear F)
 by_cases hlt : x < rows.length
 ·obtain ⟨r, hr⟩ : ∃ r, rows[x]? = some r := ⟨_, List.getElem?_eq_getElem hlt⟩
  obtain ⟨t0, rfl, _⟩ := okRow_String (hok.get hr)
  have hc1 : cntRows (rows.take (x + 1)) = cntRows (rows.take x) + 1 := by
   rw [tk_snoc hr, cnt_snoc]; simp only [cntRow, cntC]
  have hc2 := cnt_take_le rows (x + 1)
  have hg := mkRows_get k hr
  simp only [mkRow, mkC, mkV, cntC, Int.natCast_one] at hg
  have e5 : k + (cntRows (rows.take (x + 1)) : Int) = k + (cntRows (rows.take x) : Int) + 1 := by rw [hc1]; omega
  have b1 : k + (cntRows (rows.take x) : Int) + 1 <= 1000000000 := by omega
  have b0 : 0 <= k + (cntRows (rows.take x) : Int) := by omega
  generalize k + (cntRows (rows.take x) : Int) = kk at hg e5 b1 b0 ⊢
  have q1 : ((x : Int) < (rows.length : Int)) = True := eq_true (by omega)
  have w1 : IntKind.i64.wrap (kk + 1) = kk + 1 := IntWalk.i64_in _ (by omega)
  have w4 : IntKind.i64.wrap ((x : Int) + 1) = (x : Int) + 1 := IntWalk.i64_in _ (by omega)
  (have F := ai @q1 (ai @hml (ai @hrb @hg)); refine gG ?_; clear F)
  refine gB ?_
  (have F := ai @q1 (ai @hml (ai @hrb @hg)); refine gC (con_markText kk (by omega) (by omega)) ?_; clear F)
  (have F := @beq_self_eq_true.{0}; refine gR ?_; clear F)
  (have F := ai @beq_self_eq_true.{0} (ai @w1 (ai @w4 @e5)); refine gG ?_; exact ⟨x + 1, hlt, gw, gw, by omega⟩)
 ·obtain rfl : x = rows.length := by omega
  have q1 : ((rows.length : Int) < (rows.length : Int)) = False := eq_false (by omega)
  rw [List.take_length]
  (have F := ai @q1 @hml; refine gG ?_; exact gTd)
end Go.Proofs.YtohilkmdjdfljaaGreat
namespace Go.Proofs.YtohilkmdjdfljaaGreat
open Go.RowKit
end Go.Proofs.YtohilkmdjdfljaaGreat
namespace Go.Proofs.YtohilkmdjdfljaaGreat
open Go.RowKit
def Read1 (pm : List Bk) (l d : D) : Prop := l = d ∨ (∃ us row E, l = .agg (litRow us) ∧ d = .agg row ∧ .set E (fun w => OwnVals w row E us) ∈ pm) ∨ (∃ v rows E, l = .one (.lit v) ∧ d = .one (.sl rows) ∧ .set E (fun w => Own w (.sl rows) E v) ∈ pm)
def Reads (pm : List Bk) : List D -> List D -> Prop
 | [], [] => True
 | l :: ls, d :: ds => Read1 pm l d ∧ Reads pm ls ds
 | _, _ => False
theorem Read1.same {pm : List Bk} {d : D} : Read1 pm d d := .inl rfl
theorem Read1.tree {pm : List Bk} {us : List Value} {row : List C} {E : Nat -> Prop} (h : .set E (fun w => OwnVals w row E us) ∈ pm) : Read1 pm (.agg (litRow us)) (.agg row) := .inr (.inl ⟨us, row, E, rfl, rfl, h⟩)
theorem Read1.treeS {pm : List Bk} {v : Value} {rows : List (List C)} {E : Nat -> Prop} (h : .set E (fun w => Own w (.sl rows) E v) ∈ pm) : Read1 pm (.one (.lit v)) (.one (.sl rows)) := .inr (.inr ⟨v, rows, E, rfl, rfl, h⟩)
theorem Reads.rel {pm : List Bk} : ∀ {lits data : List D}, Reads pm lits data -> ∀ (w : World) (S : Nat -> Prop) (vs : List Value), (∀ x ∈ pm, PinRel w S x) -> DsRel w S lits vs -> DsRel w (fun b => S b ∨ pblks pm b) data vs
 | [], [], _, w, S, [], _, _ => trivial
 | [], [], _, w, S, _ :: _, _, h => h.elim
 | l :: ls, d :: ds, hr, w, S, [], _, h => h.elim
 | l :: ls, d :: ds, ⟨h1, h2⟩, w, S, v :: vs, hp, ⟨hv, hvs⟩ => by
  refine ⟨?_, Reads.rel h2 w S vs hp hvs⟩
  rcases h1 with rfl | ⟨us, row, E, rfl, rfl, hm⟩ | ⟨u, rows, E, rfl, rfl, hm⟩
  ·exact DRel.keep (Nat.le_refl _) (fun _ _ _ => rfl) (fun b hb => .inl hb) hv
  ·obtain ⟨vs', rfl, hr⟩ := hv
   rw [RepVals_lit hr]
   obtain ⟨_, h3, _⟩ := hp _ hm
   exact ⟨us, rfl, OwnVals.rep row E _ us (fun b hb => .inr ⟨_, hm, hb⟩) h3⟩
  ·have hv : v = u := hv
   subst hv
   obtain ⟨_, h3, _⟩ := hp _ hm
   exact (Own.rep _ E v h3).mono fun b hb => .inr ⟨_, hm, hb⟩
 | [], _ :: _, h, _, _, _, _, _ => h.elim
 | _ :: _, [], h, _, _, _, _, _ => h.elim
theorem conP_rd {e : Env} {f : FuncId} {data lits : List D} {R : List D -> List Bk -> Prop} (pm : List Bk) (h : ConP e f data [] R) (hr : Reads pm lits data) (hset : pm.all isSet = true) (hR : ∀ r q, R r q -> r.all litD = true ∧ q.all isSet = true) : ConP e f lits pm (fun r q => ∃ q1, R r q1 ∧ q = q1 ++ pm) :=
 conP_read pm h hset hR hr.rel
theorem con_rd {e : Env} {f : FuncId} {data lits r : List D} (pm : List Bk) (h : Con e f data r) (hr : Reads pm lits data) (hset : pm.all isSet = true) (hl : r.all litD = true) : ConP e f lits pm (fun r' q => r' = r ∧ q = pm) := by
 have hc := conP_rd pm (con_P h) hr hset (fun r' q ⟨h1, h2⟩ => by rw [h1, h2]; exact ⟨hl, rfl⟩)
 refine ⟨hc.1, fun w S vs h1 h2 h3 h4 h5 h6 => (hc.2 w S vs h1 h2 h3 h4 h5 h6).mono ?_⟩
 rintro en w' ⟨v, r', q, k1, ⟨q1, ⟨rfl, rfl⟩, rfl⟩, k3⟩
 exact ⟨v, r', _, k1, ⟨rfl, rfl⟩, k3⟩
theorem litRow_lits (us : List Value) : (litRow us).all litC = true := by
 induction us with
 | nil => rfl
 | cons u us ih => simp only [litRow, List.map_cons, List.all_cons, litC, Bool.true_and]; exact ih
theorem RTree.lits {row : List C} {r : List D} {q : List Bk} (h : RTree row r q) : r.all litD = true ∧ q.all isSet = true := by
 obtain ⟨us, E, rfl, _, _, rfl⟩ := h
 exact ⟨by simp only [List.all_cons, List.all_nil, litD, litRow_lits]; rfl, rfl⟩
theorem RTreeS.lits {rows : List (List C)} {r : List D} {q : List Bk} (h : RTreeS rows r q) : r.all litD = true ∧ q.all isSet = true := by
 obtain ⟨v, E, rfl, _, rfl⟩ := h
 exact ⟨rfl, rfl⟩
def RTreeF (row : List C) (b : Bool) (r : List D) (pm : List Bk) : Prop := ∃ us E, r = [.agg (litRow us), .one (.lit (.bool b))] ∧ us.length = row.length ∧ (litRow us).all okCell = true ∧ pm = [.set E (fun w => OwnVals w row E us)]
theorem RTreeF.lits {row : List C} {b : Bool} {r : List D} {q : List Bk} (h : RTreeF row b r q) : r.all litD = true ∧ q.all isSet = true := by
 obtain ⟨us, E, rfl, _, _, rfl⟩ := h
 exact ⟨by simp only [List.all_cons, List.all_nil, litD, litRow_lits]; rfl, rfl⟩
def RTreeSF (rows : List (List C)) (b : Bool) (r : List D) (pm : List Bk) : Prop := ∃ v E, r = [.one (.lit v), .one (.lit (.bool b))] ∧ okCell (.lit v) = true ∧ pm = [.set E (fun w => Own w (.sl rows) E v)]
theorem RTreeSF.lits {rows : List (List C)} {b : Bool} {r : List D} {q : List Bk} (h : RTreeSF rows b r q) : r.all litD = true ∧ q.all isSet = true := by
 obtain ⟨v, E, rfl, _, rfl⟩ := h
 exact ⟨rfl, rfl⟩
end Go.Proofs.YtohilkmdjdfljaaGreat
namespace Go.Proofs.YtohilkmdjdfljaaGreat
open Go.RowKit
theorem conP_toModule {row : List C} (hok : okRow moduleF row) (hb : bulkRow row <= 1048576) : ConP e0 25 [.agg row] [] (RTree row) :=
 conP_tree (by kernel_rfl) hok.cells fun w S vs h => by
  match vs, h with
  | [v], h =>
   obtain ⟨⟨us, rfl, hu⟩, _⟩ := h
   exact toModule_any row S us w hok hu hb
end Go.Proofs.YtohilkmdjdfljaaGreat
namespace Go.Proofs.YtohilkmdjdfljaaGreat
open Go.RowKit
set_option maxHeartbeats 16000000 in
set_option maxRecDepth 100000 in
theorem mark_SubS_of {rows : List (List C)} (hok : okRows (fieldsOf .sub) rows) : MarkS 102 rows := by
 intro k E v hk hb
 refine gIP (ts := [.slot 4]) [1000] 563 Tryz.func102 ?_
 (have F := @e0P; refine gG ?_; clear F)
 by_cases hne : rows = []
 ·subst hne
  refine pEx [1000] [1000] fd_nil ?_
  rintro ⟨a, cap⟩ rfl
  (have F := @hk; refine gL (ι := Unit) [1, 5, 9] [] (fun x => [(5, .d (.one (.lit (.int .i64 0)))), (1, .d (.one (.lit (.int .i64 k))))]) (fun x => []) (fun x => True) (fun x => 0) (()) (trivial) (fun x hx => ?_); clear F)
  have q1 : ((0 : Int) < 0) = False := eq_false (by decide)
  have q2 : ((0 : Int) < ((0 : Nat) : Int)) = False := eq_false (by decide)
  (have F := ai @q1 @q2; refine gG ?_; clear F)
  have F := hk
  refine gTP (R := fun r pm => ∃ E', r = [.one (.lit (.int .i64 (k + (cntRows [] : Nat))))] ∧ pm = [.set E' (fun w => Own w (.sl (mkRows k [])) E' (.slice a 0 cap))]) [1000] ⟨E, by simp only [cntRows, Int.natCast_zero, Int.add_zero]; rfl, by simp only [mkRows]; rfl⟩
 ·have hrl : rowsLen 2 rows := okRows.rowsLen hok
  refine pEx [1000] [1000, 1001] (fd_open hne hrl) ?_
  rintro ⟨a, cap, ety, uss, E1⟩ ⟨rfl, hl, hmx⟩
  simp only at hl ⊢
  unfold maxLen at hmx
  refine pE [] [1002] re_none ?_
  (have F := ai @mkRows_nil (ai @cnt_nil (ai @Int.add_zero @Int.natCast_zero)); refine gL (ι := Nat × List (List Value) × (Nat -> Prop) × (Nat -> Prop)) [1, 5, 9] [1000, 1001, 1002] (fun x => [(5, .d (.one (.lit (.int .i64 (x.1 : Int))))), (1, .d (.one (.lit (.int .i64 (k + (cntRows (rows.take x.1) : Nat))))))]) (fun x => [(1000, .buf (some (a, cap)) ety 2 (x.2.1.map litRow)), (1001, .set x.2.2.1 (fun w => OwnVs w (rows.drop x.1) x.2.2.1 (x.2.1.drop x.1))), (1002, .set x.2.2.2 (fun w => OwnVs w (mkRows k (rows.take x.1)) x.2.2.2 (x.2.1.take x.1)))]) (fun x => x.1 <= rows.length ∧ x.2.1.length = rows.length) (fun x => rows.length - x.1) ((0, uss, E1, fun _ => False)) (⟨Nat.zero_le _, hl⟩) (fun x hx => ?_); clear F)
  obtain ⟨i, us, E2, E3⟩ := x
  obtain ⟨hi, hn⟩ := hx
  simp only at hi hn
  dsimp only
  by_cases hlt : i < rows.length
  ·obtain ⟨r, hr⟩ : ∃ r, rows[i]? = some r := ⟨_, List.getElem?_eq_getElem hlt⟩
   obtain ⟨u, hu⟩ : ∃ u, us[i]? = some u := ⟨_, List.getElem?_eq_getElem (by omega)⟩
   obtain ⟨i0, i1, rfl, g0, g1⟩ := okRow_Sub (hok.get hr)
   have hc1 : cntRows (rows.take (i + 1)) = cntRows (rows.take i) + (2) := by
    rw [tk_snoc hr, cnt_snoc]; simp only [cntRow, cntC]; try omega
   have hc2 := cnt_take_le rows (i + 1)
   rw [drop_get hr, drop_get hu]
   refine pEx [1001] [1001] (fd_lits rfl) ?_
   rintro ⟨⟩ hlit
   obtain rfl : u = [.int .i64 i0, .int .i64 i1] := by
    match u, hlit with
    | [_, _], ⟨rfl, rfl, _⟩ => rfl
   refine pEx (f := fun (x : (Nat -> Prop) × (Nat -> Nat -> Prop)) => [.set x.1 (fun w => OwnVs w (rows.drop (i + 1)) x.1 (us.drop (i + 1)))]) [1001] [1001] (fd_row rfl) ?_
   rintro ⟨E4, Es⟩ -
   dsimp only
   have hkk0 : 0 <= k + (cntRows (rows.take i) : Int) := by omega
   have hkk1 : k + (cntRows (rows.take i) : Int) + ((2 : Nat) : Int) <= 1000000000 := by omega
   generalize hkk : k + (cntRows (rows.take i) : Int) = kk at hkk0 hkk1 ⊢
   have q1 : ((i : Int) < (rows.length : Int)) = True := eq_true (by omega)
   have q2 : i < rows.length := hlt
   have hs : ∀ X : List C, ((us.map litRow).set i X)[i]? = some X := fun X => set_get (by rw [len_lits, hn]; omega) X
   have lr : litRow [.int .i64 i0, .int .i64 i1] = [.lit (.int .i64 i0), .lit (.int .i64 i1)] := rfl
   have w0 : IntKind.i64.wrap (kk + 1) = kk + 1 := IntWalk.i64_in _ (by omega)
   have w1 : IntKind.i64.wrap (kk + 1 + 1) = kk + 1 + 1 := IntWalk.i64_in _ (by omega)
   have wi : IntKind.i64.wrap ((i : Int) + 1) = (i : Int) + 1 := IntWalk.i64_in _ (by omega)
   (have F := ai @q1 (ai @hl (ai @hn (ai @hu (ai @lr (ai @len_lits (ai @set_len (ai @hs (ai @w0 (ai @w1 (ai @q2 @set_set')))))))))); have NN : StopAt 3 := trivial; refine gGn ?_; clear F NN)
   obtain ⟨E6, hre⟩ : ∃ E6, Retold [.set E3 (fun w => OwnVs w (mkRows k (rows.take i)) E3 (us.take i))] [.set E6 (fun w => OwnVs w (mkRows k (rows.take (i + 1))) E6 ((us.set i [.int .i64 (kk), .int .i64 (kk + 1)]).take (i + 1)))] := by
    have hz := re_row (E := E3) (done := mkRows k (rows.take i)) (ud := us.take i) (cs := [.lit (.int .i64 (kk)), .lit (.int .i64 (kk + 1))]) (us := [.int .i64 (kk), .int .i64 (kk + 1)]) (Es := fun _ _ => False) rfl ⟨rfl, rfl, trivial⟩
    rw [tk_snoc hr, mkRows_snoc, hkk, set_take (by omega)]
    simp only [mkRow, mkC, mkV, cntC, Int.natCast_one]
    exact ⟨_, hz⟩
   refine pE [1002] [1002] hre ?_
   have e1 : ((us.set i [.int .i64 (kk), .int .i64 (kk + 1)]).map litRow) = (us.map litRow).set i [.lit (.int .i64 (kk)), .lit (.int .i64 (kk + 1))] := by rw [List.map_set]; rfl
   have e2 := set_drop us i [.int .i64 (kk), .int .i64 (kk + 1)]
   have e5 : k + (cntRows (rows.take (i + 1)) : Int) = kk + 1 + 1 := by rw [hc1]; omega
   have hn2 : (us.set i [.int .i64 (kk), .int .i64 (kk + 1)]).length = rows.length := by rw [set_len, hn]
   generalize us.set i [.int .i64 (kk), .int .i64 (kk + 1)] = us2 at e1 e2 hn2 ⊢
   rw [<- e1, <- e2]
   (have F := ai @wi (ai @e5 (ai @hl (ai @w0 (ai @w1 @hn)))); refine gG ?_; exact ⟨(i + 1, us2, E4, E6), ⟨hlt, hn2⟩, gw, gw, by omega⟩)
  ·obtain rfl : i = rows.length := by omega
   have q1 : ((rows.length : Int) < (rows.length : Int)) = False := eq_false (by omega)
   rw [List.take_length, List.take_of_length_le (Nat.le_of_eq hn)]
   (have F := ai @q1 (ai @hl @hn); refine gG ?_; clear F)
   obtain ⟨E6, hre⟩ : ∃ E6, Retold [.buf (some (a, cap)) ety 2 (us.map litRow), .set E3 (fun w => OwnVs w (mkRows k rows) E3 us)] [.set E6 (fun w => Own w (.sl (mkRows k rows)) E6 (.slice a uss.length cap))] := by
    rw [hl, <- hn]
    exact ⟨_, re_close (fun w h => h) (Own.stable _ _ _)⟩
   refine pE [1000, 1002] [1000] hre ?_
   have F := hk
   exact gTP (R := fun r pm => ∃ E', r = [.one (.lit (.int .i64 (k + (cntRows rows : Nat))))] ∧ pm = [.set E' (fun w => Own w (.sl (mkRows k rows)) E' (.slice a uss.length cap))]) [1000] ⟨E6, rfl, rfl⟩
theorem markSubS_all {rows : List (List C)} (hok : okRows (fieldsOf .sub) rows) : MarkS 102 rows := mark_SubS_of hok
end Go.Proofs.YtohilkmdjdfljaaGreat
namespace Go.Proofs.YtohilkmdjdfljaaGreat
open Go.RowKit
set_option maxHeartbeats 16000000 in
set_option maxRecDepth 100000 in
theorem markSorts_all {row : List C} (hok : okRow (sortsF) row) : MarkV 56 row := by
 obtain ⟨r0, r1, rfl, g0, g1⟩ := okRow_Sorts hok
 intro kk E us hl hc hk hb
 obtain ⟨u0, u1, rfl⟩ := len2 hl
 have kc : okCell (.lit u0) = true ∧ okCell (.lit u1) = true := by simpa [litRow, Bool.and_eq_true, and_assoc] using hc
 obtain ⟨k0, k1⟩ := kc
 simp only [cntTop, Nat.add_zero] at hb ⊢
 have lr : litRow [u0, u1] = [.lit u0, .lit u1] := rfl
 rw [lr]
 refine gIP (ts := [.slot 4]) [1000] 23 Tryz.func56 ?_
 refine pEx (f := fun (x : Nat -> Nat -> Prop) => [.set (x 0) (fun w => Own w (.sl r0) (x 0) u0), .set (x 1) (fun w => Own w (.sl r1) (x 1) u1)]) [1000] [1003, 1004] (fd_cells rfl) ?_
 rintro Es -
 try dsimp only
 (have F := ai @lr (ai @k0 @k1); refine gG ?_; clear F)
 refine gB ?_
 (have F := ai @lr (ai @k0 @k1); refine gCP [1003] [1003] (markStringS_all g0 (kk) (Es 0) u0 (by omega) (by omega)) ?_; clear F)
 rintro r pm ⟨F0, rfl, rfl⟩
 simp only [setA, retA, zipM, List.cons_append, List.nil_append]
 (have F := ai @lr (ai @k0 @k1); refine gR ?_; clear F)
 (have F := ai @lr (ai @k0 @k1); refine gG ?_; clear F)
 refine gB ?_
 (have F := ai @lr (ai @k0 @k1); refine gCP [1004] [1004] (markSubS_all g1 (kk + (cntRows r0 : Int)) (Es 1) u1 (by omega) (by omega)) ?_; clear F)
 rintro r pm ⟨F1, rfl, rfl⟩
 simp only [setA, retA, zipM, List.cons_append, List.nil_append]
 (have F := ai @lr (ai @k0 @k1); refine gR ?_; clear F)
 (have F := ai @lr (ai @k0 @k1); refine gG ?_; clear F)
 obtain ⟨E6, hre⟩ : ∃ E6, Retold [.set F0 (fun w => Own w (.sl (mkRows (kk) r0)) F0 u0), .set F1 (fun w => Own w (.sl (mkRows (kk + (cntRows r0 : Int)) r1)) F1 u1)] [.set E6 (fun w => OwnVals w [.sl (mkRows (kk) r0), .sl (mkRows (kk + (cntRows r0 : Int)) r1)] E6 [u0, u1])] := ⟨_, re_cells (cs := [.sl (mkRows (kk) r0), .sl (mkRows (kk + (cntRows r0 : Int)) r1)]) (us := [u0, u1]) (Es := fun k => match k with | 0 => F0 | _ => F1) rfl trivial⟩
 refine pE [1003, 1004] [1000] hre ?_
 have F := hk
 have ee : kk + (cntRows r0 : Int) + (cntRows r1 : Int) = kk + ((cntRows r0 + (cntRows r1) : Nat) : Int) := by omega
 rw [ee]
 exact gTP (R := fun r pm => ∃ E', r = [.one (.lit (.int .i64 (kk + ((cntRows r0 + (cntRows r1) : Nat) : Int))))] ∧ pm = [.set E' (fun w => OwnVals w (mkTop kk [.sl r0, .sl r1]) E' [u0, u1])]) [1000] ⟨E6, rfl, by simp only [mkTop]; rfl⟩
end Go.Proofs.YtohilkmdjdfljaaGreat
namespace Go.Proofs.YtohilkmdjdfljaaGreat
open Go.RowKit
theorem litRow1 (u0 : Value) : litRow [u0] = [.lit u0] := rfl
set_option maxHeartbeats 8000000 in
set_option maxRecDepth 100000 in
theorem mark_IntS {rows : List (List C)} (hok : okRows (fieldsOf .int) rows) : MarkS 59 rows := by
 intro k E v hk hb
 refine gIP (ts := [.slot 4]) [1000] 563 Tryz.func59 ?_
 (have F := @e0P; refine gG ?_; clear F)
 by_cases hne : rows = []
 ·subst hne
  refine pEx [1000] [1000] fd_nil ?_
  rintro ⟨a, cap⟩ rfl
  (have F := @hk; refine gL (ι := Unit) [1, 5, 9] [] (fun x => [(5, .d (.one (.lit (.int .i64 0)))), (1, .d (.one (.lit (.int .i64 k))))]) (fun x => []) (fun x => True) (fun x => 0) (()) (trivial) (fun x hx => ?_); clear F)
  have q1 : ((0 : Int) < 0) = False := eq_false (by decide)
  have q2 : ((0 : Int) < ((0 : Nat) : Int)) = False := eq_false (by decide)
  (have F := ai @q1 @q2; refine gG ?_; clear F)
  have F := hk
  refine gTP (R := fun r pm => ∃ E', r = [.one (.lit (.int .i64 (k + (cntRows [] : Nat))))] ∧ pm = [.set E' (fun w => Own w (.sl (mkRows k [])) E' (.slice a 0 cap))]) [1000] ⟨E, by simp only [cntRows, Int.natCast_zero, Int.add_zero]; rfl, by simp only [mkRows]; rfl⟩
 ·have hrl : rowsLen 1 rows := okRows.rowsLen hok
  refine pEx [1000] [1000, 1001] (fd_open hne hrl) ?_
  rintro ⟨a, cap, ety, uss, E1⟩ ⟨rfl, hl, hmx⟩
  simp only at hl ⊢
  unfold maxLen at hmx
  refine pE [] [1002] re_none ?_
  (have F := ai @mkRows_nil (ai @cnt_nil (ai @Int.add_zero @Int.natCast_zero)); refine gL (ι := Nat × List (List Value) × (Nat -> Prop) × (Nat -> Prop)) [1, 5, 9] [1000, 1001, 1002] (fun x => [(5, .d (.one (.lit (.int .i64 (x.1 : Int))))), (1, .d (.one (.lit (.int .i64 (k + (cntRows (rows.take x.1) : Nat))))))]) (fun x => [(1000, .buf (some (a, cap)) ety 1 (x.2.1.map litRow)), (1001, .set x.2.2.1 (fun w => OwnVs w (rows.drop x.1) x.2.2.1 (x.2.1.drop x.1))), (1002, .set x.2.2.2 (fun w => OwnVs w (mkRows k (rows.take x.1)) x.2.2.2 (x.2.1.take x.1)))]) (fun x => x.1 <= rows.length ∧ x.2.1.length = rows.length) (fun x => rows.length - x.1) ((0, uss, E1, fun _ => False)) (⟨Nat.zero_le _, hl⟩) (fun x hx => ?_); clear F)
  obtain ⟨i, us, E2, E3⟩ := x
  obtain ⟨hi, hn⟩ := hx
  simp only at hi hn
  dsimp only
  by_cases hlt : i < rows.length
  ·obtain ⟨r, hr⟩ : ∃ r, rows[i]? = some r := ⟨_, List.getElem?_eq_getElem hlt⟩
   obtain ⟨u, hu⟩ : ∃ u, us[i]? = some u := ⟨_, List.getElem?_eq_getElem (by omega)⟩
   obtain ⟨i0, rfl, _⟩ := okRow_Int (hok.get hr)
   have hc1 : cntRows (rows.take (i + 1)) = cntRows (rows.take i) + 1 := by
    rw [tk_snoc hr, cnt_snoc]; simp only [cntRow, cntC]
   have hc2 := cnt_take_le rows (i + 1)
   rw [drop_get hr, drop_get hu]
   refine pEx [1001] [1001] (fd_lits rfl) ?_
   rintro ⟨⟩ hlit
   obtain rfl : u = [.int .i64 i0] := by
    match u, hlit with
    | [_], ⟨rfl, _⟩ => rfl
   refine pEx (f := fun (x : (Nat -> Prop) × (Nat -> Nat -> Prop)) => [.set x.1 (fun w => OwnVs w (rows.drop (i + 1)) x.1 (us.drop (i + 1)))]) [1001] [1001] (fd_row rfl) ?_
   rintro ⟨E4, Es⟩ -
   dsimp only
   generalize hkk : k + (cntRows (rows.take i) : Int) = kk
   have q1 : ((i : Int) < (rows.length : Int)) = True := eq_true (by omega)
   have q2 : i < rows.length := hlt
   have w1 : IntKind.i64.wrap (kk + 1) = kk + 1 := IntWalk.i64_in _ (by omega)
   have w4 : IntKind.i64.wrap ((i : Int) + 1) = (i : Int) + 1 := IntWalk.i64_in _ (by omega)
   (have F := ai @q1 (ai @hl (ai @hn (ai @hu (ai @litRow1 (ai @len_lits (ai @set_len (ai @w1 @q2))))))); have NN : StopAt 3 := trivial; refine gGn ?_; clear F NN)
   obtain ⟨E6, hre⟩ : ∃ E6, Retold [.set E3 (fun w => OwnVs w (mkRows k (rows.take i)) E3 (us.take i))] [.set E6 (fun w => OwnVs w (mkRows k (rows.take (i + 1))) E6 ((us.set i [.int .i64 kk]).take (i + 1)))] := by
    have hz := re_row (E := E3) (done := mkRows k (rows.take i)) (ud := us.take i) (cs := [.lit (.int .i64 kk)]) (us := [.int .i64 kk]) (Es := fun _ _ => False) rfl ⟨rfl, trivial⟩
    rw [tk_snoc hr, mkRows_snoc, hkk, set_take (by omega)]
    simp only [mkRow, mkC, mkV]
    exact ⟨_, hz⟩
   refine pE [1002] [1002] hre ?_
   have e1 : ((us.set i [.int .i64 kk]).map litRow) = (us.map litRow).set i [.lit (.int .i64 kk)] := by rw [List.map_set, litRow1]
   have e2 := set_drop us i [.int .i64 kk]
   have e5 : k + (cntRows (rows.take (i + 1)) : Int) = kk + 1 := by rw [hc1]; omega
   have hn2 : (us.set i [.int .i64 kk]).length = rows.length := by rw [set_len, hn]
   generalize us.set i [.int .i64 kk] = us2 at e1 e2 hn2 ⊢
   rw [<- e1, <- e2]
   (have F := ai @w4 (ai @e5 @hl); refine gG ?_; exact ⟨(i + 1, us2, E4, E6), ⟨hlt, hn2⟩, gw, gw, by omega⟩)
  ·obtain rfl : i = rows.length := by omega
   have q1 : ((rows.length : Int) < (rows.length : Int)) = False := eq_false (by omega)
   rw [List.take_length, List.take_of_length_le (Nat.le_of_eq hn)]
   (have F := ai @q1 (ai @hl @hn); refine gG ?_; clear F)
   obtain ⟨E6, hre⟩ : ∃ E6, Retold [.buf (some (a, cap)) ety 1 (us.map litRow), .set E3 (fun w => OwnVs w (mkRows k rows) E3 us)] [.set E6 (fun w => Own w (.sl (mkRows k rows)) E6 (.slice a uss.length cap))] := by
    rw [hl, <- hn]
    exact ⟨_, re_close (fun w h => h) (Own.stable _ _ _)⟩
   refine pE [1000, 1002] [1000] hre ?_
   have F := hk
   exact gTP (R := fun r pm => ∃ E', r = [.one (.lit (.int .i64 (k + (cntRows rows : Nat))))] ∧ pm = [.set E' (fun w => Own w (.sl (mkRows k rows)) E' (.slice a uss.length cap))]) [1000] ⟨E6, rfl, rfl⟩
theorem markIntS_all {rows : List (List C)} (hok : okRows (fieldsOf .int) rows) : MarkS 59 rows := mark_IntS hok
end Go.Proofs.YtohilkmdjdfljaaGreat
namespace Go.Proofs.YtohilkmdjdfljaaGreat
open Go.RowKit
set_option maxHeartbeats 16000000 in
set_option maxRecDepth 100000 in
theorem mark_DeclS_of {rows : List (List C)} (hok : okRows (fieldsOf .decl) rows) : MarkS 103 rows := by
 intro k E v hk hb
 refine gIP (ts := [.slot 4]) [1000] 563 Tryz.func103 ?_
 (have F := @e0P; refine gG ?_; clear F)
 by_cases hne : rows = []
 ·subst hne
  refine pEx [1000] [1000] fd_nil ?_
  rintro ⟨a, cap⟩ rfl
  (have F := @hk; refine gL (ι := Unit) [1, 5, 9] [] (fun x => [(5, .d (.one (.lit (.int .i64 0)))), (1, .d (.one (.lit (.int .i64 k))))]) (fun x => []) (fun x => True) (fun x => 0) (()) (trivial) (fun x hx => ?_); clear F)
  have q1 : ((0 : Int) < 0) = False := eq_false (by decide)
  have q2 : ((0 : Int) < ((0 : Nat) : Int)) = False := eq_false (by decide)
  (have F := ai @q1 @q2; refine gG ?_; clear F)
  have F := hk
  refine gTP (R := fun r pm => ∃ E', r = [.one (.lit (.int .i64 (k + (cntRows [] : Nat))))] ∧ pm = [.set E' (fun w => Own w (.sl (mkRows k [])) E' (.slice a 0 cap))]) [1000] ⟨E, by simp only [cntRows, Int.natCast_zero, Int.add_zero]; rfl, by simp only [mkRows]; rfl⟩
 ·have hrl : rowsLen 2 rows := okRows.rowsLen hok
  refine pEx [1000] [1000, 1001] (fd_open hne hrl) ?_
  rintro ⟨a, cap, ety, uss, E1⟩ ⟨rfl, hl, hmx⟩
  simp only at hl ⊢
  unfold maxLen at hmx
  refine pE [] [1002] re_none ?_
  (have F := ai @mkRows_nil (ai @cnt_nil (ai @Int.add_zero @Int.natCast_zero)); refine gL (ι := Nat × List (List Value) × (Nat -> Prop) × (Nat -> Prop)) [1, 5, 9] [1000, 1001, 1002] (fun x => [(5, .d (.one (.lit (.int .i64 (x.1 : Int))))), (1, .d (.one (.lit (.int .i64 (k + (cntRows (rows.take x.1) : Nat))))))]) (fun x => [(1000, .buf (some (a, cap)) ety 2 (x.2.1.map litRow)), (1001, .set x.2.2.1 (fun w => OwnVs w (rows.drop x.1) x.2.2.1 (x.2.1.drop x.1))), (1002, .set x.2.2.2 (fun w => OwnVs w (mkRows k (rows.take x.1)) x.2.2.2 (x.2.1.take x.1)))]) (fun x => x.1 <= rows.length ∧ x.2.1.length = rows.length) (fun x => rows.length - x.1) ((0, uss, E1, fun _ => False)) (⟨Nat.zero_le _, hl⟩) (fun x hx => ?_); clear F)
  obtain ⟨i, us, E2, E3⟩ := x
  obtain ⟨hi, hn⟩ := hx
  simp only at hi hn
  dsimp only
  by_cases hlt : i < rows.length
  ·obtain ⟨r, hr⟩ : ∃ r, rows[i]? = some r := ⟨_, List.getElem?_eq_getElem hlt⟩
   obtain ⟨u, hu⟩ : ∃ u, us[i]? = some u := ⟨_, List.getElem?_eq_getElem (by omega)⟩
   obtain ⟨r0, i1, rfl, g0, g1⟩ := okRow_Decl (hok.get hr)
   have hm0 := markIntS_all g0
   have hc1 : cntRows (rows.take (i + 1)) = cntRows (rows.take i) + (1 + cntRows r0) := by
    rw [tk_snoc hr, cnt_snoc]; simp only [cntRow, cntC]; try omega
   have hc2 := cnt_take_le rows (i + 1)
   rw [drop_get hr, drop_get hu]
   refine pEx [1001] [1001] (fd_lits rfl) ?_
   rintro ⟨⟩ hlit
   obtain ⟨u0, rfl⟩ : ∃ u0, u = [u0, .int .i64 i1] := by
    match u, hlit with
    | [u0, _], ⟨rfl, _⟩ => exact ⟨u0, rfl⟩
   refine pEx (f := fun (x : (Nat -> Prop) × (Nat -> Nat -> Prop)) => [.set x.1 (fun w => OwnVs w (rows.drop (i + 1)) x.1 (us.drop (i + 1))), .set (x.2 0) (fun w => Own w (.sl r0) (x.2 0) u0)]) [1001] [1001, 1003] (fd_row rfl) ?_
   rintro ⟨E4, Es⟩ -
   dsimp only
   have hkk0 : 0 <= k + (cntRows (rows.take i) : Int) := by omega
   have hkk1 : k + (cntRows (rows.take i) : Int) + ((1 + cntRows r0 : Nat) : Int) <= 1000000000 := by omega
   generalize hkk : k + (cntRows (rows.take i) : Int) = kk at hkk0 hkk1 ⊢
   have q1 : ((i : Int) < (rows.length : Int)) = True := eq_true (by omega)
   have q2 : i < rows.length := hlt
   have hs : ∀ X : List C, ((us.map litRow).set i X)[i]? = some X := fun X => set_get (by rw [len_lits, hn]; omega) X
   have lr : litRow [u0, .int .i64 i1] = [.lit (u0), .lit (.int .i64 i1)] := rfl
   have w1 : IntKind.i64.wrap (kk + (cntRows r0 : Int) + 1) = kk + (cntRows r0 : Int) + 1 := IntWalk.i64_in _ (by omega)
   have wi : IntKind.i64.wrap ((i : Int) + 1) = (i : Int) + 1 := IntWalk.i64_in _ (by omega)
   (have F := ai @q1 (ai @hl (ai @hn (ai @hu (ai @lr (ai @len_lits (ai @set_len (ai @hs (ai @w1 (ai @q2 @set_set'))))))))); refine gG ?_; clear F)
   refine gB ?_
   (have F := ai @q1 (ai @hl (ai @hn (ai @hu (ai @lr (ai @len_lits (ai @set_len (ai @hs (ai @w1 (ai @q2 @set_set'))))))))); refine gCP [1003] [1003] (hm0 (kk) (Es 0) u0 (by omega) (by omega)) ?_; clear F)
   rintro r pm ⟨F0, rfl, rfl⟩
   simp only [setA, retA, zipM, List.cons_append, List.nil_append]
   (have F := ai @q1 (ai @hl (ai @hn (ai @hu (ai @lr (ai @len_lits (ai @set_len (ai @hs (ai @w1 (ai @q2 @set_set'))))))))); refine gR ?_; clear F)
   (have F := ai @q1 (ai @hl (ai @hn (ai @hu (ai @lr (ai @len_lits (ai @set_len (ai @hs (ai @w1 (ai @q2 @set_set'))))))))); have NN : StopAt 3 := trivial; refine gGn ?_; clear F NN)
   obtain ⟨E6, hre⟩ : ∃ E6, Retold [.set E3 (fun w => OwnVs w (mkRows k (rows.take i)) E3 (us.take i)), .set F0 (fun w => Own w (.sl (mkRows (kk) r0)) F0 u0)] [.set E6 (fun w => OwnVs w (mkRows k (rows.take (i + 1))) E6 ((us.set i [u0, .int .i64 (kk + (cntRows r0 : Int))]).take (i + 1)))] := by
    have hz := re_row (E := E3) (done := mkRows k (rows.take i)) (ud := us.take i) (cs := [.sl (mkRows (kk) r0), .lit (.int .i64 (kk + (cntRows r0 : Int)))]) (us := [u0, .int .i64 (kk + (cntRows r0 : Int))]) (Es := fun _ => F0) rfl ⟨rfl, trivial⟩
    rw [tk_snoc hr, mkRows_snoc, hkk, set_take (by omega)]
    simp only [mkRow, mkC, mkV, cntC, Int.natCast_one]
    exact ⟨_, hz⟩
   refine pE [1002, 1003] [1002] hre ?_
   have e1 : ((us.set i [u0, .int .i64 (kk + (cntRows r0 : Int))]).map litRow) = (us.map litRow).set i [.lit (u0), .lit (.int .i64 (kk + (cntRows r0 : Int)))] := by rw [List.map_set]; rfl
   have e2 := set_drop us i [u0, .int .i64 (kk + (cntRows r0 : Int))]
   have e5 : k + (cntRows (rows.take (i + 1)) : Int) = kk + (cntRows r0 : Int) + 1 := by rw [hc1]; omega
   have hn2 : (us.set i [u0, .int .i64 (kk + (cntRows r0 : Int))]).length = rows.length := by rw [set_len, hn]
   generalize us.set i [u0, .int .i64 (kk + (cntRows r0 : Int))] = us2 at e1 e2 hn2 ⊢
   rw [<- e1, <- e2]
   (have F := ai @wi (ai @e5 (ai @hl (ai @w1 @hn))); refine gG ?_; exact ⟨(i + 1, us2, E4, E6), ⟨hlt, hn2⟩, gw, gw, by omega⟩)
  ·obtain rfl : i = rows.length := by omega
   have q1 : ((rows.length : Int) < (rows.length : Int)) = False := eq_false (by omega)
   rw [List.take_length, List.take_of_length_le (Nat.le_of_eq hn)]
   (have F := ai @q1 (ai @hl @hn); refine gG ?_; clear F)
   obtain ⟨E6, hre⟩ : ∃ E6, Retold [.buf (some (a, cap)) ety 2 (us.map litRow), .set E3 (fun w => OwnVs w (mkRows k rows) E3 us)] [.set E6 (fun w => Own w (.sl (mkRows k rows)) E6 (.slice a uss.length cap))] := by
    rw [hl, <- hn]
    exact ⟨_, re_close (fun w h => h) (Own.stable _ _ _)⟩
   refine pE [1000, 1002] [1000] hre ?_
   have F := hk
   exact gTP (R := fun r pm => ∃ E', r = [.one (.lit (.int .i64 (k + (cntRows rows : Nat))))] ∧ pm = [.set E' (fun w => Own w (.sl (mkRows k rows)) E' (.slice a uss.length cap))]) [1000] ⟨E6, rfl, rfl⟩
theorem markDeclS_all {rows : List (List C)} (hok : okRows (fieldsOf .decl) rows) : MarkS 103 rows := mark_DeclS_of hok
end Go.Proofs.YtohilkmdjdfljaaGreat
namespace Go.Proofs.YtohilkmdjdfljaaGreat
open Go.RowKit
theorem tmod3Op {k : Int} (h : 0 <= k) : decide (k.tmod 3 = 0) = (k % 3 == 0) := by rw [Int.tmod_eq_emod_of_nonneg h, Bool.eq_iff_iff]; simp
set_option maxHeartbeats 16000000 in
set_option maxRecDepth 100000 in
theorem mark_OpS_of {rows : List (List C)} (hok : okRows (fieldsOf .op) rows) : MarkS 57 rows := by
 intro k E v hk hb
 refine gIP (ts := [.slot 4]) [1000] 563 Tryz.func57 ?_
 (have F := @e0P; refine gG ?_; clear F)
 by_cases hne : rows = []
 ·subst hne
  refine pEx [1000] [1000] fd_nil ?_
  rintro ⟨a, cap⟩ rfl
  (have F := @hk; refine gL (ι := Unit) [1, 5, 9] [] (fun x => [(5, .d (.one (.lit (.int .i64 0)))), (1, .d (.one (.lit (.int .i64 k))))]) (fun x => []) (fun x => True) (fun x => 0) (()) (trivial) (fun x hx => ?_); clear F)
  have q1 : ((0 : Int) < 0) = False := eq_false (by decide)
  have q2 : ((0 : Int) < ((0 : Nat) : Int)) = False := eq_false (by decide)
  (have F := ai @q1 @q2; refine gG ?_; clear F)
  have F := hk
  refine gTP (R := fun r pm => ∃ E', r = [.one (.lit (.int .i64 (k + (cntRows [] : Nat))))] ∧ pm = [.set E' (fun w => Own w (.sl (mkRows k [])) E' (.slice a 0 cap))]) [1000] ⟨E, by simp only [cntRows, Int.natCast_zero, Int.add_zero]; rfl, by simp only [mkRows]; rfl⟩
 ·have hrl : rowsLen 5 rows := okRows.rowsLen hok
  refine pEx [1000] [1000, 1001] (fd_open hne hrl) ?_
  rintro ⟨a, cap, ety, uss, E1⟩ ⟨rfl, hl, hmx⟩
  simp only at hl ⊢
  unfold maxLen at hmx
  refine pE [] [1002] re_none ?_
  (have F := ai @mkRows_nil (ai @cnt_nil (ai @Int.add_zero @Int.natCast_zero)); refine gL (ι := Nat × List (List Value) × (Nat -> Prop) × (Nat -> Prop)) [1, 5, 9] [1000, 1001, 1002] (fun x => [(5, .d (.one (.lit (.int .i64 (x.1 : Int))))), (1, .d (.one (.lit (.int .i64 (k + (cntRows (rows.take x.1) : Nat))))))]) (fun x => [(1000, .buf (some (a, cap)) ety 5 (x.2.1.map litRow)), (1001, .set x.2.2.1 (fun w => OwnVs w (rows.drop x.1) x.2.2.1 (x.2.1.drop x.1))), (1002, .set x.2.2.2 (fun w => OwnVs w (mkRows k (rows.take x.1)) x.2.2.2 (x.2.1.take x.1)))]) (fun x => x.1 <= rows.length ∧ x.2.1.length = rows.length) (fun x => rows.length - x.1) ((0, uss, E1, fun _ => False)) (⟨Nat.zero_le _, hl⟩) (fun x hx => ?_); clear F)
  obtain ⟨i, us, E2, E3⟩ := x
  obtain ⟨hi, hn⟩ := hx
  simp only at hi hn
  dsimp only
  by_cases hlt : i < rows.length
  ·obtain ⟨r, hr⟩ : ∃ r, rows[i]? = some r := ⟨_, List.getElem?_eq_getElem hlt⟩
   obtain ⟨u, hu⟩ : ∃ u, us[i]? = some u := ⟨_, List.getElem?_eq_getElem (by omega)⟩
   obtain ⟨t0, r1, p2, p3, i4, rfl, g0, g1, g2, g3, g4⟩ := okRow_Op (hok.get hr)
   have hm1 := markDeclS_all g1
   have hc1 : cntRows (rows.take (i + 1)) = cntRows (rows.take i) + (4 + cntRows r1) := by
    rw [tk_snoc hr, cnt_snoc]; simp only [cntRow, cntC]; try omega
   have hc2 := cnt_take_le rows (i + 1)
   rw [drop_get hr, drop_get hu]
   refine pEx [1001] [1001] (fd_lits rfl) ?_
   rintro ⟨⟩ hlit
   obtain ⟨u1, rfl⟩ : ∃ u1, u = [.string t0, u1, .bool p2, .bool p3, .int .i64 i4] := by
    match u, hlit with
    | [_, u1, _, _, _], ⟨rfl, rfl, rfl, rfl, _⟩ => exact ⟨u1, rfl⟩
   refine pEx (f := fun (x : (Nat -> Prop) × (Nat -> Nat -> Prop)) => [.set x.1 (fun w => OwnVs w (rows.drop (i + 1)) x.1 (us.drop (i + 1))), .set (x.2 0) (fun w => Own w (.sl r1) (x.2 0) u1)]) [1001] [1001, 1003] (fd_row rfl) ?_
   rintro ⟨E4, Es⟩ -
   dsimp only
   have hkk0 : 0 <= k + (cntRows (rows.take i) : Int) := by omega
   have hkk1 : k + (cntRows (rows.take i) : Int) + ((4 + cntRows r1 : Nat) : Int) <= 1000000000 := by omega
   generalize hkk : k + (cntRows (rows.take i) : Int) = kk at hkk0 hkk1 ⊢
   have q1 : ((i : Int) < (rows.length : Int)) = True := eq_true (by omega)
   have q2 : i < rows.length := hlt
   have hs : ∀ X : List C, ((us.map litRow).set i X)[i]? = some X := fun X => set_get (by rw [len_lits, hn]; omega) X
   have lr : litRow [.string t0, u1, .bool p2, .bool p3, .int .i64 i4] = [.lit (.string t0), .lit (u1), .lit (.bool p2), .lit (.bool p3), .lit (.int .i64 i4)] := rfl
   have w0 : IntKind.i64.wrap (kk + 1) = kk + 1 := IntWalk.i64_in _ (by omega)
   have w2 : IntKind.i64.wrap (kk + 1 + (cntRows r1 : Int) + 1) = kk + 1 + (cntRows r1 : Int) + 1 := IntWalk.i64_in _ (by omega)
   have b2 : decide (((kk + 1 + (cntRows r1 : Int)).tmod 3) = 0) = ((kk + 1 + (cntRows r1 : Int)) % 3 == 0) := tmod3Op (by omega)
   have w3 : IntKind.i64.wrap (kk + 1 + (cntRows r1 : Int) + 1 + 1) = kk + 1 + (cntRows r1 : Int) + 1 + 1 := IntWalk.i64_in _ (by omega)
   have b3 : decide (((kk + 1 + (cntRows r1 : Int) + 1).tmod 3) = 0) = ((kk + 1 + (cntRows r1 : Int) + 1) % 3 == 0) := tmod3Op (by omega)
   have w4 : IntKind.i64.wrap (kk + 1 + (cntRows r1 : Int) + 1 + 1 + 1) = kk + 1 + (cntRows r1 : Int) + 1 + 1 + 1 := IntWalk.i64_in _ (by omega)
   have wi : IntKind.i64.wrap ((i : Int) + 1) = (i : Int) + 1 := IntWalk.i64_in _ (by omega)
   (have F := ai @q1 (ai @hl (ai @hn (ai @hu (ai @lr (ai @len_lits (ai @set_len (ai @hs (ai @w0 (ai @w2 (ai @b2 (ai @w3 (ai @b3 (ai @w4 (ai @q2 @set_set')))))))))))))); refine gG ?_; clear F)
   refine gB ?_
   (have F := ai @q1 (ai @hl (ai @hn (ai @hu (ai @lr (ai @len_lits (ai @set_len (ai @hs (ai @w0 (ai @w2 (ai @b2 (ai @w3 (ai @b3 (ai @w4 (ai @q2 @set_set')))))))))))))); refine gC (con_markText (kk) (by omega) (by omega)) ?_; clear F)
   (have F := ai @q1 (ai @hl (ai @hn (ai @hu (ai @lr (ai @len_lits (ai @set_len (ai @hs (ai @w0 (ai @w2 (ai @b2 (ai @w3 (ai @b3 (ai @w4 (ai @q2 @set_set')))))))))))))); refine gR ?_; clear F)
   (have F := ai @q1 (ai @hl (ai @hn (ai @hu (ai @lr (ai @len_lits (ai @set_len (ai @hs (ai @w0 (ai @w2 (ai @b2 (ai @w3 (ai @b3 (ai @w4 (ai @q2 @set_set')))))))))))))); refine gG ?_; clear F)
   refine gB ?_
   (have F := ai @q1 (ai @hl (ai @hn (ai @hu (ai @lr (ai @len_lits (ai @set_len (ai @hs (ai @w0 (ai @w2 (ai @b2 (ai @w3 (ai @b3 (ai @w4 (ai @q2 @set_set')))))))))))))); refine gCP [1003] [1003] (hm1 (kk + 1) (Es 0) u1 (by omega) (by omega)) ?_; clear F)
   rintro r pm ⟨F1, rfl, rfl⟩
   simp only [setA, retA, zipM, List.cons_append, List.nil_append]
   (have F := ai @q1 (ai @hl (ai @hn (ai @hu (ai @lr (ai @len_lits (ai @set_len (ai @hs (ai @w0 (ai @w2 (ai @b2 (ai @w3 (ai @b3 (ai @w4 (ai @q2 @set_set')))))))))))))); refine gR ?_; clear F)
   (have F := ai @q1 (ai @hl (ai @hn (ai @hu (ai @lr (ai @len_lits (ai @set_len (ai @hs (ai @w0 (ai @w2 (ai @b2 (ai @w3 (ai @b3 (ai @w4 (ai @q2 @set_set')))))))))))))); have NN : StopAt 3 := trivial; refine gGn ?_; clear F NN)
   obtain ⟨E6, hre⟩ : ∃ E6, Retold [.set E3 (fun w => OwnVs w (mkRows k (rows.take i)) E3 (us.take i)), .set F1 (fun w => Own w (.sl (mkRows (kk + 1) r1)) F1 u1)] [.set E6 (fun w => OwnVs w (mkRows k (rows.take (i + 1))) E6 ((us.set i [.string (txt (kk)), u1, .bool ((kk + 1 + (cntRows r1 : Int)) % 3 == 0), .bool ((kk + 1 + (cntRows r1 : Int) + 1) % 3 == 0), .int .i64 (kk + 1 + (cntRows r1 : Int) + 1 + 1)]).take (i + 1)))] := by
    have hz := re_row (E := E3) (done := mkRows k (rows.take i)) (ud := us.take i) (cs := [.lit (.string (txt (kk))), .sl (mkRows (kk + 1) r1), .lit (.bool ((kk + 1 + (cntRows r1 : Int)) % 3 == 0)), .lit (.bool ((kk + 1 + (cntRows r1 : Int) + 1) % 3 == 0)), .lit (.int .i64 (kk + 1 + (cntRows r1 : Int) + 1 + 1))]) (us := [.string (txt (kk)), u1, .bool ((kk + 1 + (cntRows r1 : Int)) % 3 == 0), .bool ((kk + 1 + (cntRows r1 : Int) + 1) % 3 == 0), .int .i64 (kk + 1 + (cntRows r1 : Int) + 1 + 1)]) (Es := fun _ => F1) rfl ⟨rfl, rfl, rfl, rfl, trivial⟩
    rw [tk_snoc hr, mkRows_snoc, hkk, set_take (by omega)]
    simp only [mkRow, mkC, mkV, cntC, Int.natCast_one]
    exact ⟨_, hz⟩
   refine pE [1002, 1003] [1002] hre ?_
   have e1 : ((us.set i [.string (txt (kk)), u1, .bool ((kk + 1 + (cntRows r1 : Int)) % 3 == 0), .bool ((kk + 1 + (cntRows r1 : Int) + 1) % 3 == 0), .int .i64 (kk + 1 + (cntRows r1 : Int) + 1 + 1)]).map litRow) = (us.map litRow).set i [.lit (.string (txt (kk))), .lit (u1), .lit (.bool ((kk + 1 + (cntRows r1 : Int)) % 3 == 0)), .lit (.bool ((kk + 1 + (cntRows r1 : Int) + 1) % 3 == 0)), .lit (.int .i64 (kk + 1 + (cntRows r1 : Int) + 1 + 1))] := by rw [List.map_set]; rfl
   have e2 := set_drop us i [.string (txt (kk)), u1, .bool ((kk + 1 + (cntRows r1 : Int)) % 3 == 0), .bool ((kk + 1 + (cntRows r1 : Int) + 1) % 3 == 0), .int .i64 (kk + 1 + (cntRows r1 : Int) + 1 + 1)]
   have e5 : k + (cntRows (rows.take (i + 1)) : Int) = kk + 1 + (cntRows r1 : Int) + 1 + 1 + 1 := by rw [hc1]; omega
   have hn2 : (us.set i [.string (txt (kk)), u1, .bool ((kk + 1 + (cntRows r1 : Int)) % 3 == 0), .bool ((kk + 1 + (cntRows r1 : Int) + 1) % 3 == 0), .int .i64 (kk + 1 + (cntRows r1 : Int) + 1 + 1)]).length = rows.length := by rw [set_len, hn]
   generalize us.set i [.string (txt (kk)), u1, .bool ((kk + 1 + (cntRows r1 : Int)) % 3 == 0), .bool ((kk + 1 + (cntRows r1 : Int) + 1) % 3 == 0), .int .i64 (kk + 1 + (cntRows r1 : Int) + 1 + 1)] = us2 at e1 e2 hn2 ⊢
   rw [<- e1, <- e2]
   (have F := ai @wi (ai @e5 (ai @hl (ai @w0 (ai @w2 (ai @b2 (ai @w3 (ai @b3 (ai @w4 @hn)))))))); refine gG ?_; exact ⟨(i + 1, us2, E4, E6), ⟨hlt, hn2⟩, gw, gw, by omega⟩)
  ·obtain rfl : i = rows.length := by omega
   have q1 : ((rows.length : Int) < (rows.length : Int)) = False := eq_false (by omega)
   rw [List.take_length, List.take_of_length_le (Nat.le_of_eq hn)]
   (have F := ai @q1 (ai @hl @hn); refine gG ?_; clear F)
   obtain ⟨E6, hre⟩ : ∃ E6, Retold [.buf (some (a, cap)) ety 5 (us.map litRow), .set E3 (fun w => OwnVs w (mkRows k rows) E3 us)] [.set E6 (fun w => Own w (.sl (mkRows k rows)) E6 (.slice a uss.length cap))] := by
    rw [hl, <- hn]
    exact ⟨_, re_close (fun w h => h) (Own.stable _ _ _)⟩
   refine pE [1000, 1002] [1000] hre ?_
   have F := hk
   exact gTP (R := fun r pm => ∃ E', r = [.one (.lit (.int .i64 (k + (cntRows rows : Nat))))] ∧ pm = [.set E' (fun w => Own w (.sl (mkRows k rows)) E' (.slice a uss.length cap))]) [1000] ⟨E6, rfl, rfl⟩
theorem markOpS_all {rows : List (List C)} (hok : okRows (fieldsOf .op) rows) : MarkS 57 rows := mark_OpS_of hok
end Go.Proofs.YtohilkmdjdfljaaGreat
namespace Go.Proofs.YtohilkmdjdfljaaGreat
open Go.RowKit
set_option maxHeartbeats 16000000 in
set_option maxRecDepth 100000 in
theorem markSignature_all {row : List C} (hok : okRow (sigF) row) : MarkV 17 row := by
 obtain ⟨r0, r1, r2, rfl, g0, g1, g2⟩ := okRow_Signature hok
 intro kk E us hl hc hk hb
 obtain ⟨u0, u1, u2, rfl⟩ := len3 hl
 have kc : okCell (.lit u0) = true ∧ okCell (.lit u1) = true ∧ okCell (.lit u2) = true := by simpa [litRow, Bool.and_eq_true, and_assoc] using hc
 obtain ⟨k0, k1, k2⟩ := kc
 simp only [cntTop, Nat.add_zero] at hb ⊢
 have lr : litRow [u0, u1, u2] = [.lit u0, .lit u1, .lit u2] := rfl
 rw [lr]
 refine gIP (ts := [.slot 4]) [1000] 23 Tryz.func17 ?_
 refine pEx (f := fun (x : Nat -> Nat -> Prop) => [.set (x 0) (fun w => Own w (.sl r0) (x 0) u0), .set (x 1) (fun w => Own w (.sl r1) (x 1) u1), .set (x 2) (fun w => Own w (.sl r2) (x 2) u2)]) [1000] [1003, 1004, 1005] (fd_cells rfl) ?_
 rintro Es -
 try dsimp only
 obtain ⟨G0, hre0⟩ : ∃ G, Retold [.set (Es 0) (fun w => Own w (.sl r0) (Es 0) u0), .set (Es 1) (fun w => Own w (.sl r1) (Es 1) u1)] [.set G (fun w => OwnVals w [.sl r0, .sl r1] G [u0, u1])] := ⟨_, re_cells (cs := [.sl r0, .sl r1]) (us := [u0, u1]) (Es := fun k => Es (k + 0)) rfl trivial⟩
 refine pE [1003, 1004] [1003] hre0 ?_
 have lr0 : litRow [u0, u1] = [.lit u0, .lit u1] := rfl
 have hm0 := markSorts_all (row := [.sl r0, .sl r1]) (mkRow_Sorts g0 g1) (kk) G0 [u0, u1] rfl (by rw [lr0]; simp only [List.all_cons, List.all_nil, k0, k1, Bool.and_self]) (by omega) (by simp only [cntTop]; omega)
 rw [lr0] at hm0
 simp only [cntTop, mkTop, Nat.add_zero, Int.natCast_add, <- Int.add_assoc] at hm0
 (have F := ai @lr (ai @k0 (ai @k1 @k2)); refine gG ?_; clear F)
 refine gB ?_
 (have F := ai @lr (ai @k0 (ai @k1 @k2)); refine gCP [1003] [1003] (hm0) ?_; clear F)
 rintro r pm ⟨G0', rfl, rfl⟩
 simp only [setA, retA, zipM, List.cons_append, List.nil_append]
 (have F := ai @lr (ai @k0 (ai @k1 @k2)); refine gR ?_; clear F)
 refine pEx (f := fun (x : Nat -> Nat -> Prop) => [.set (x 0) (fun w => Own w (.sl (mkRows (kk) r0)) (x 0) u0), .set (x 1) (fun w => Own w (.sl (mkRows (kk + (cntRows r0 : Int)) r1)) (x 1) u1)]) [1003] [1003, 1004] (fd_cells (r := [.sl (mkRows (kk) r0), .sl (mkRows (kk + (cntRows r0 : Int)) r1)]) rfl) ?_
 rintro Fs0 -
 try dsimp only
 (have F := ai @lr (ai @k0 (ai @k1 @k2)); refine gG ?_; clear F)
 refine gB ?_
 (have F := ai @lr (ai @k0 (ai @k1 @k2)); refine gCP [1005] [1005] (markOpS_all g2 (kk + (cntRows r0 : Int) + (cntRows r1 : Int)) (Es 2) u2 (by omega) (by omega)) ?_; clear F)
 rintro r pm ⟨F2, rfl, rfl⟩
 simp only [setA, retA, zipM, List.cons_append, List.nil_append]
 (have F := ai @lr (ai @k0 (ai @k1 @k2)); refine gR ?_; clear F)
 (have F := ai @lr (ai @k0 (ai @k1 @k2)); refine gG ?_; clear F)
 obtain ⟨E6, hre⟩ : ∃ E6, Retold [.set (Fs0 0) (fun w => Own w (.sl (mkRows (kk) r0)) (Fs0 0) u0), .set (Fs0 1) (fun w => Own w (.sl (mkRows (kk + (cntRows r0 : Int)) r1)) (Fs0 1) u1), .set F2 (fun w => Own w (.sl (mkRows (kk + (cntRows r0 : Int) + (cntRows r1 : Int)) r2)) F2 u2)] [.set E6 (fun w => OwnVals w [.sl (mkRows (kk) r0), .sl (mkRows (kk + (cntRows r0 : Int)) r1), .sl (mkRows (kk + (cntRows r0 : Int) + (cntRows r1 : Int)) r2)] E6 [u0, u1, u2])] := ⟨_, re_cells (cs := [.sl (mkRows (kk) r0), .sl (mkRows (kk + (cntRows r0 : Int)) r1), .sl (mkRows (kk + (cntRows r0 : Int) + (cntRows r1 : Int)) r2)]) (us := [u0, u1, u2]) (Es := fun k => match k with | 0 => Fs0 0 | 1 => Fs0 1 | _ => F2) rfl trivial⟩
 refine pE [1003, 1004, 1005] [1000] hre ?_
 have F := hk
 have ee : kk + (cntRows r0 : Int) + (cntRows r1 : Int) + (cntRows r2 : Int) = kk + ((cntRows r0 + (cntRows r1 + (cntRows r2)) : Nat) : Int) := by omega
 rw [ee]
 exact gTP (R := fun r pm => ∃ E', r = [.one (.lit (.int .i64 (kk + ((cntRows r0 + (cntRows r1 + (cntRows r2)) : Nat) : Int))))] ∧ pm = [.set E' (fun w => OwnVals w (mkTop kk [.sl r0, .sl r1, .sl r2]) E' [u0, u1, u2])]) [1000] ⟨E6, rfl, by simp only [mkTop]; rfl⟩
end Go.Proofs.YtohilkmdjdfljaaGreat
namespace Go.Proofs.YtohilkmdjdfljaaGreat
open Go.RowKit
set_option maxHeartbeats 16000000 in
set_option maxRecDepth 100000 in
theorem mark_ConditionS_of {rows : List (List C)} (hok : okRows (fieldsOf .cond) rows) : MarkS 120 rows := by
 intro k E v hk hb
 refine gIP (ts := [.slot 4]) [1000] 563 Tryz.func120 ?_
 (have F := @e0P; refine gG ?_; clear F)
 by_cases hne : rows = []
 ·subst hne
  refine pEx [1000] [1000] fd_nil ?_
  rintro ⟨a, cap⟩ rfl
  (have F := @hk; refine gL (ι := Unit) [1, 5, 9] [] (fun x => [(5, .d (.one (.lit (.int .i64 0)))), (1, .d (.one (.lit (.int .i64 k))))]) (fun x => []) (fun x => True) (fun x => 0) (()) (trivial) (fun x hx => ?_); clear F)
  have q1 : ((0 : Int) < 0) = False := eq_false (by decide)
  have q2 : ((0 : Int) < ((0 : Nat) : Int)) = False := eq_false (by decide)
  (have F := ai @q1 @q2; refine gG ?_; clear F)
  have F := hk
  refine gTP (R := fun r pm => ∃ E', r = [.one (.lit (.int .i64 (k + (cntRows [] : Nat))))] ∧ pm = [.set E' (fun w => Own w (.sl (mkRows k [])) E' (.slice a 0 cap))]) [1000] ⟨E, by simp only [cntRows, Int.natCast_zero, Int.add_zero]; rfl, by simp only [mkRows]; rfl⟩
 ·have hrl : rowsLen 8 rows := okRows.rowsLen hok
  refine pEx [1000] [1000, 1001] (fd_open hne hrl) ?_
  rintro ⟨a, cap, ety, uss, E1⟩ ⟨rfl, hl, hmx⟩
  simp only at hl ⊢
  unfold maxLen at hmx
  refine pE [] [1002] re_none ?_
  (have F := ai @mkRows_nil (ai @cnt_nil (ai @Int.add_zero @Int.natCast_zero)); refine gL (ι := Nat × List (List Value) × (Nat -> Prop) × (Nat -> Prop)) [1, 5, 9] [1000, 1001, 1002] (fun x => [(5, .d (.one (.lit (.int .i64 (x.1 : Int))))), (1, .d (.one (.lit (.int .i64 (k + (cntRows (rows.take x.1) : Nat))))))]) (fun x => [(1000, .buf (some (a, cap)) ety 8 (x.2.1.map litRow)), (1001, .set x.2.2.1 (fun w => OwnVs w (rows.drop x.1) x.2.2.1 (x.2.1.drop x.1))), (1002, .set x.2.2.2 (fun w => OwnVs w (mkRows k (rows.take x.1)) x.2.2.2 (x.2.1.take x.1)))]) (fun x => x.1 <= rows.length ∧ x.2.1.length = rows.length) (fun x => rows.length - x.1) ((0, uss, E1, fun _ => False)) (⟨Nat.zero_le _, hl⟩) (fun x hx => ?_); clear F)
  obtain ⟨i, us, E2, E3⟩ := x
  obtain ⟨hi, hn⟩ := hx
  simp only at hi hn
  dsimp only
  by_cases hlt : i < rows.length
  ·obtain ⟨r, hr⟩ : ∃ r, rows[i]? = some r := ⟨_, List.getElem?_eq_getElem hlt⟩
   obtain ⟨u, hu⟩ : ∃ u, us[i]? = some u := ⟨_, List.getElem?_eq_getElem (by omega)⟩
   obtain ⟨i0, t1, i2, r3, i4, t5, i6, r7, rfl, g0, g1, g2, g3, g4, g5, g6, g7⟩ := okRow_Condition (hok.get hr)
   have hm3 := markTermS_all g3
   have hm7 := markTermS_all g7
   have hc1 : cntRows (rows.take (i + 1)) = cntRows (rows.take i) + (6 + cntRows r3 + cntRows r7) := by
    rw [tk_snoc hr, cnt_snoc]; simp only [cntRow, cntC]; try omega
   have hc2 := cnt_take_le rows (i + 1)
   rw [drop_get hr, drop_get hu]
   refine pEx [1001] [1001] (fd_lits rfl) ?_
   rintro ⟨⟩ hlit
   obtain ⟨u3, u7, rfl⟩ : ∃ u3 u7, u = [.int .i64 i0, .string t1, .int .i64 i2, u3, .int .i64 i4, .string t5, .int .i64 i6, u7] := by
    match u, hlit with
    | [_, _, _, u3, _, _, _, u7], ⟨rfl, rfl, rfl, rfl, rfl, rfl, _⟩ => exact ⟨u3, u7, rfl⟩
   refine pEx (f := fun (x : (Nat -> Prop) × (Nat -> Nat -> Prop)) => [.set x.1 (fun w => OwnVs w (rows.drop (i + 1)) x.1 (us.drop (i + 1))), .set (x.2 0) (fun w => Own w (.sl r3) (x.2 0) u3), .set (x.2 1) (fun w => Own w (.sl r7) (x.2 1) u7)]) [1001] [1001, 1003, 1004] (fd_row rfl) ?_
   rintro ⟨E4, Es⟩ -
   dsimp only
   have hkk0 : 0 <= k + (cntRows (rows.take i) : Int) := by omega
   have hkk1 : k + (cntRows (rows.take i) : Int) + ((6 + cntRows r3 + cntRows r7 : Nat) : Int) <= 1000000000 := by omega
   generalize hkk : k + (cntRows (rows.take i) : Int) = kk at hkk0 hkk1 ⊢
   have q1 : ((i : Int) < (rows.length : Int)) = True := eq_true (by omega)
   have q2 : i < rows.length := hlt
   have hs : ∀ X : List C, ((us.map litRow).set i X)[i]? = some X := fun X => set_get (by rw [len_lits, hn]; omega) X
   have lr : litRow [.int .i64 i0, .string t1, .int .i64 i2, u3, .int .i64 i4, .string t5, .int .i64 i6, u7] = [.lit (.int .i64 i0), .lit (.string t1), .lit (.int .i64 i2), .lit (u3), .lit (.int .i64 i4), .lit (.string t5), .lit (.int .i64 i6), .lit (u7)] := rfl
   have w0 : IntKind.i64.wrap (kk + 1) = kk + 1 := IntWalk.i64_in _ (by omega)
   have w1 : IntKind.i64.wrap (kk + 1 + 1) = kk + 1 + 1 := IntWalk.i64_in _ (by omega)
   have w2 : IntKind.i64.wrap (kk + 1 + 1 + 1) = kk + 1 + 1 + 1 := IntWalk.i64_in _ (by omega)
   have w4 : IntKind.i64.wrap (kk + 1 + 1 + 1 + (cntRows r3 : Int) + 1) = kk + 1 + 1 + 1 + (cntRows r3 : Int) + 1 := IntWalk.i64_in _ (by omega)
   have w5 : IntKind.i64.wrap (kk + 1 + 1 + 1 + (cntRows r3 : Int) + 1 + 1) = kk + 1 + 1 + 1 + (cntRows r3 : Int) + 1 + 1 := IntWalk.i64_in _ (by omega)
   have w6 : IntKind.i64.wrap (kk + 1 + 1 + 1 + (cntRows r3 : Int) + 1 + 1 + 1) = kk + 1 + 1 + 1 + (cntRows r3 : Int) + 1 + 1 + 1 := IntWalk.i64_in _ (by omega)
   have wi : IntKind.i64.wrap ((i : Int) + 1) = (i : Int) + 1 := IntWalk.i64_in _ (by omega)
   (have F := ai @q1 (ai @hl (ai @hn (ai @hu (ai @lr (ai @len_lits (ai @set_len (ai @hs (ai @w0 (ai @w1 (ai @w2 (ai @w4 (ai @w5 (ai @w6 (ai @q2 @set_set')))))))))))))); refine gG ?_; clear F)
   refine gB ?_
   (have F := ai @q1 (ai @hl (ai @hn (ai @hu (ai @lr (ai @len_lits (ai @set_len (ai @hs (ai @w0 (ai @w1 (ai @w2 (ai @w4 (ai @w5 (ai @w6 (ai @q2 @set_set')))))))))))))); refine gC (con_markText (kk + 1) (by omega) (by omega)) ?_; clear F)
   (have F := ai @q1 (ai @hl (ai @hn (ai @hu (ai @lr (ai @len_lits (ai @set_len (ai @hs (ai @w0 (ai @w1 (ai @w2 (ai @w4 (ai @w5 (ai @w6 (ai @q2 @set_set')))))))))))))); refine gR ?_; clear F)
   (have F := ai @q1 (ai @hl (ai @hn (ai @hu (ai @lr (ai @len_lits (ai @set_len (ai @hs (ai @w0 (ai @w1 (ai @w2 (ai @w4 (ai @w5 (ai @w6 (ai @q2 @set_set')))))))))))))); refine gG ?_; clear F)
   refine gB ?_
   (have F := ai @q1 (ai @hl (ai @hn (ai @hu (ai @lr (ai @len_lits (ai @set_len (ai @hs (ai @w0 (ai @w1 (ai @w2 (ai @w4 (ai @w5 (ai @w6 (ai @q2 @set_set')))))))))))))); refine gCP [1003] [1003] (hm3 (kk + 1 + 1 + 1) (Es 0) u3 (by omega) (by omega)) ?_; clear F)
   rintro r pm ⟨F3, rfl, rfl⟩
   simp only [setA, retA, zipM, List.cons_append, List.nil_append]
   (have F := ai @q1 (ai @hl (ai @hn (ai @hu (ai @lr (ai @len_lits (ai @set_len (ai @hs (ai @w0 (ai @w1 (ai @w2 (ai @w4 (ai @w5 (ai @w6 (ai @q2 @set_set')))))))))))))); refine gR ?_; clear F)
   (have F := ai @q1 (ai @hl (ai @hn (ai @hu (ai @lr (ai @len_lits (ai @set_len (ai @hs (ai @w0 (ai @w1 (ai @w2 (ai @w4 (ai @w5 (ai @w6 (ai @q2 @set_set')))))))))))))); refine gG ?_; clear F)
   refine gB ?_
   (have F := ai @q1 (ai @hl (ai @hn (ai @hu (ai @lr (ai @len_lits (ai @set_len (ai @hs (ai @w0 (ai @w1 (ai @w2 (ai @w4 (ai @w5 (ai @w6 (ai @q2 @set_set')))))))))))))); refine gC (con_markText (kk + 1 + 1 + 1 + (cntRows r3 : Int) + 1) (by omega) (by omega)) ?_; clear F)
   (have F := ai @q1 (ai @hl (ai @hn (ai @hu (ai @lr (ai @len_lits (ai @set_len (ai @hs (ai @w0 (ai @w1 (ai @w2 (ai @w4 (ai @w5 (ai @w6 (ai @q2 @set_set')))))))))))))); refine gR ?_; clear F)
   (have F := ai @q1 (ai @hl (ai @hn (ai @hu (ai @lr (ai @len_lits (ai @set_len (ai @hs (ai @w0 (ai @w1 (ai @w2 (ai @w4 (ai @w5 (ai @w6 (ai @q2 @set_set')))))))))))))); refine gG ?_; clear F)
   refine gB ?_
   (have F := ai @q1 (ai @hl (ai @hn (ai @hu (ai @lr (ai @len_lits (ai @set_len (ai @hs (ai @w0 (ai @w1 (ai @w2 (ai @w4 (ai @w5 (ai @w6 (ai @q2 @set_set')))))))))))))); refine gCP [1004] [1004] (hm7 (kk + 1 + 1 + 1 + (cntRows r3 : Int) + 1 + 1 + 1) (Es 1) u7 (by omega) (by omega)) ?_; clear F)
   rintro r pm ⟨F7, rfl, rfl⟩
   simp only [setA, retA, zipM, List.cons_append, List.nil_append]
   (have F := ai @q1 (ai @hl (ai @hn (ai @hu (ai @lr (ai @len_lits (ai @set_len (ai @hs (ai @w0 (ai @w1 (ai @w2 (ai @w4 (ai @w5 (ai @w6 (ai @q2 @set_set')))))))))))))); refine gR ?_; clear F)
   obtain ⟨E6, hre⟩ : ∃ E6, Retold [.set E3 (fun w => OwnVs w (mkRows k (rows.take i)) E3 (us.take i)), .set F3 (fun w => Own w (.sl (mkRows (kk + 1 + 1 + 1) r3)) F3 u3), .set F7 (fun w => Own w (.sl (mkRows (kk + 1 + 1 + 1 + (cntRows r3 : Int) + 1 + 1 + 1) r7)) F7 u7)] [.set E6 (fun w => OwnVs w (mkRows k (rows.take (i + 1))) E6 ((us.set i [.int .i64 (kk), .string (txt (kk + 1)), .int .i64 (kk + 1 + 1), u3, .int .i64 (kk + 1 + 1 + 1 + (cntRows r3 : Int)), .string (txt (kk + 1 + 1 + 1 + (cntRows r3 : Int) + 1)), .int .i64 (kk + 1 + 1 + 1 + (cntRows r3 : Int) + 1 + 1), u7]).take (i + 1)))] := by
    have hz := re_row (E := E3) (done := mkRows k (rows.take i)) (ud := us.take i) (cs := [.lit (.int .i64 (kk)), .lit (.string (txt (kk + 1))), .lit (.int .i64 (kk + 1 + 1)), .sl (mkRows (kk + 1 + 1 + 1) r3), .lit (.int .i64 (kk + 1 + 1 + 1 + (cntRows r3 : Int))), .lit (.string (txt (kk + 1 + 1 + 1 + (cntRows r3 : Int) + 1))), .lit (.int .i64 (kk + 1 + 1 + 1 + (cntRows r3 : Int) + 1 + 1)), .sl (mkRows (kk + 1 + 1 + 1 + (cntRows r3 : Int) + 1 + 1 + 1) r7)]) (us := [.int .i64 (kk), .string (txt (kk + 1)), .int .i64 (kk + 1 + 1), u3, .int .i64 (kk + 1 + 1 + 1 + (cntRows r3 : Int)), .string (txt (kk + 1 + 1 + 1 + (cntRows r3 : Int) + 1)), .int .i64 (kk + 1 + 1 + 1 + (cntRows r3 : Int) + 1 + 1), u7]) (Es := fun k => match k with | 0 => F3 | _ => F7) rfl ⟨rfl, rfl, rfl, rfl, rfl, rfl, trivial⟩
    rw [tk_snoc hr, mkRows_snoc, hkk, set_take (by omega)]
    simp only [mkRow, mkC, mkV, cntC, Int.natCast_one]
    exact ⟨_, hz⟩
   refine pE [1002, 1003, 1004] [1002] hre ?_
   have e1 : ((us.set i [.int .i64 (kk), .string (txt (kk + 1)), .int .i64 (kk + 1 + 1), u3, .int .i64 (kk + 1 + 1 + 1 + (cntRows r3 : Int)), .string (txt (kk + 1 + 1 + 1 + (cntRows r3 : Int) + 1)), .int .i64 (kk + 1 + 1 + 1 + (cntRows r3 : Int) + 1 + 1), u7]).map litRow) = (us.map litRow).set i [.lit (.int .i64 (kk)), .lit (.string (txt (kk + 1))), .lit (.int .i64 (kk + 1 + 1)), .lit (u3), .lit (.int .i64 (kk + 1 + 1 + 1 + (cntRows r3 : Int))), .lit (.string (txt (kk + 1 + 1 + 1 + (cntRows r3 : Int) + 1))), .lit (.int .i64 (kk + 1 + 1 + 1 + (cntRows r3 : Int) + 1 + 1)), .lit (u7)] := by rw [List.map_set]; rfl
   have e2 := set_drop us i [.int .i64 (kk), .string (txt (kk + 1)), .int .i64 (kk + 1 + 1), u3, .int .i64 (kk + 1 + 1 + 1 + (cntRows r3 : Int)), .string (txt (kk + 1 + 1 + 1 + (cntRows r3 : Int) + 1)), .int .i64 (kk + 1 + 1 + 1 + (cntRows r3 : Int) + 1 + 1), u7]
   have e5 : k + (cntRows (rows.take (i + 1)) : Int) = kk + 1 + 1 + 1 + (cntRows r3 : Int) + 1 + 1 + 1 + (cntRows r7 : Int) := by rw [hc1]; omega
   have hn2 : (us.set i [.int .i64 (kk), .string (txt (kk + 1)), .int .i64 (kk + 1 + 1), u3, .int .i64 (kk + 1 + 1 + 1 + (cntRows r3 : Int)), .string (txt (kk + 1 + 1 + 1 + (cntRows r3 : Int) + 1)), .int .i64 (kk + 1 + 1 + 1 + (cntRows r3 : Int) + 1 + 1), u7]).length = rows.length := by rw [set_len, hn]
   generalize us.set i [.int .i64 (kk), .string (txt (kk + 1)), .int .i64 (kk + 1 + 1), u3, .int .i64 (kk + 1 + 1 + 1 + (cntRows r3 : Int)), .string (txt (kk + 1 + 1 + 1 + (cntRows r3 : Int) + 1)), .int .i64 (kk + 1 + 1 + 1 + (cntRows r3 : Int) + 1 + 1), u7] = us2 at e1 e2 hn2 ⊢
   rw [<- e1, <- e2]
   (have F := ai @wi (ai @e5 (ai @hl (ai @w0 (ai @w1 (ai @w2 (ai @w4 (ai @w5 (ai @w6 @hn)))))))); refine gG ?_; exact ⟨(i + 1, us2, E4, E6), ⟨hlt, hn2⟩, gw, gw, by omega⟩)
  ·obtain rfl : i = rows.length := by omega
   have q1 : ((rows.length : Int) < (rows.length : Int)) = False := eq_false (by omega)
   rw [List.take_length, List.take_of_length_le (Nat.le_of_eq hn)]
   (have F := ai @q1 (ai @hl @hn); refine gG ?_; clear F)
   obtain ⟨E6, hre⟩ : ∃ E6, Retold [.buf (some (a, cap)) ety 8 (us.map litRow), .set E3 (fun w => OwnVs w (mkRows k rows) E3 us)] [.set E6 (fun w => Own w (.sl (mkRows k rows)) E6 (.slice a uss.length cap))] := by
    rw [hl, <- hn]
    exact ⟨_, re_close (fun w h => h) (Own.stable _ _ _)⟩
   refine pE [1000, 1002] [1000] hre ?_
   have F := hk
   exact gTP (R := fun r pm => ∃ E', r = [.one (.lit (.int .i64 (k + (cntRows rows : Nat))))] ∧ pm = [.set E' (fun w => Own w (.sl (mkRows k rows)) E' (.slice a uss.length cap))]) [1000] ⟨E6, rfl, rfl⟩
theorem markConditionS_all {rows : List (List C)} (hok : okRows (fieldsOf .cond) rows) : MarkS 120 rows := mark_ConditionS_of hok
end Go.Proofs.YtohilkmdjdfljaaGreat
namespace Go.Proofs.YtohilkmdjdfljaaGreat
open Go.RowKit
set_option maxHeartbeats 16000000 in
set_option maxRecDepth 100000 in
theorem mark_EquationS_of {rows : List (List C)} (hok : okRows (fieldsOf .eqn) rows) : MarkS 74 rows := by
 intro k E v hk hb
 refine gIP (ts := [.slot 4]) [1000] 563 Tryz.func74 ?_
 (have F := @e0P; refine gG ?_; clear F)
 by_cases hne : rows = []
 ·subst hne
  refine pEx [1000] [1000] fd_nil ?_
  rintro ⟨a, cap⟩ rfl
  (have F := @hk; refine gL (ι := Unit) [1, 5, 9] [] (fun x => [(5, .d (.one (.lit (.int .i64 0)))), (1, .d (.one (.lit (.int .i64 k))))]) (fun x => []) (fun x => True) (fun x => 0) (()) (trivial) (fun x hx => ?_); clear F)
  have q1 : ((0 : Int) < 0) = False := eq_false (by decide)
  have q2 : ((0 : Int) < ((0 : Nat) : Int)) = False := eq_false (by decide)
  (have F := ai @q1 @q2; refine gG ?_; clear F)
  have F := hk
  refine gTP (R := fun r pm => ∃ E', r = [.one (.lit (.int .i64 (k + (cntRows [] : Nat))))] ∧ pm = [.set E' (fun w => Own w (.sl (mkRows k [])) E' (.slice a 0 cap))]) [1000] ⟨E, by simp only [cntRows, Int.natCast_zero, Int.add_zero]; rfl, by simp only [mkRows]; rfl⟩
 ·have hrl : rowsLen 9 rows := okRows.rowsLen hok
  refine pEx [1000] [1000, 1001] (fd_open hne hrl) ?_
  rintro ⟨a, cap, ety, uss, E1⟩ ⟨rfl, hl, hmx⟩
  simp only at hl ⊢
  unfold maxLen at hmx
  refine pE [] [1002] re_none ?_
  (have F := ai @mkRows_nil (ai @cnt_nil (ai @Int.add_zero @Int.natCast_zero)); refine gL (ι := Nat × List (List Value) × (Nat -> Prop) × (Nat -> Prop)) [1, 5, 9] [1000, 1001, 1002] (fun x => [(5, .d (.one (.lit (.int .i64 (x.1 : Int))))), (1, .d (.one (.lit (.int .i64 (k + (cntRows (rows.take x.1) : Nat))))))]) (fun x => [(1000, .buf (some (a, cap)) ety 9 (x.2.1.map litRow)), (1001, .set x.2.2.1 (fun w => OwnVs w (rows.drop x.1) x.2.2.1 (x.2.1.drop x.1))), (1002, .set x.2.2.2 (fun w => OwnVs w (mkRows k (rows.take x.1)) x.2.2.2 (x.2.1.take x.1)))]) (fun x => x.1 <= rows.length ∧ x.2.1.length = rows.length) (fun x => rows.length - x.1) ((0, uss, E1, fun _ => False)) (⟨Nat.zero_le _, hl⟩) (fun x hx => ?_); clear F)
  obtain ⟨i, us, E2, E3⟩ := x
  obtain ⟨hi, hn⟩ := hx
  simp only at hi hn
  dsimp only
  by_cases hlt : i < rows.length
  ·obtain ⟨r, hr⟩ : ∃ r, rows[i]? = some r := ⟨_, List.getElem?_eq_getElem hlt⟩
   obtain ⟨u, hu⟩ : ∃ u, us[i]? = some u := ⟨_, List.getElem?_eq_getElem (by omega)⟩
   obtain ⟨i0, t1, i2, r3, i4, t5, i6, r7, r8, rfl, g0, g1, g2, g3, g4, g5, g6, g7, g8⟩ := okRow_Equation (hok.get hr)
   have hm3 := markTermS_all g3
   have hm7 := markTermS_all g7
   have hm8 := markConditionS_all g8
   have hc1 : cntRows (rows.take (i + 1)) = cntRows (rows.take i) + (6 + cntRows r3 + cntRows r7 + cntRows r8) := by
    rw [tk_snoc hr, cnt_snoc]; simp only [cntRow, cntC]; try omega
   have hc2 := cnt_take_le rows (i + 1)
   rw [drop_get hr, drop_get hu]
   refine pEx [1001] [1001] (fd_lits rfl) ?_
   rintro ⟨⟩ hlit
   obtain ⟨u3, u7, u8, rfl⟩ : ∃ u3 u7 u8, u = [.int .i64 i0, .string t1, .int .i64 i2, u3, .int .i64 i4, .string t5, .int .i64 i6, u7, u8] := by
    match u, hlit with
    | [_, _, _, u3, _, _, _, u7, u8], ⟨rfl, rfl, rfl, rfl, rfl, rfl, _⟩ => exact ⟨u3, u7, u8, rfl⟩
   refine pEx (f := fun (x : (Nat -> Prop) × (Nat -> Nat -> Prop)) => [.set x.1 (fun w => OwnVs w (rows.drop (i + 1)) x.1 (us.drop (i + 1))), .set (x.2 0) (fun w => Own w (.sl r3) (x.2 0) u3), .set (x.2 1) (fun w => Own w (.sl r7) (x.2 1) u7), .set (x.2 2) (fun w => Own w (.sl r8) (x.2 2) u8)]) [1001] [1001, 1003, 1004, 1005] (fd_row rfl) ?_
   rintro ⟨E4, Es⟩ -
   dsimp only
   have hkk0 : 0 <= k + (cntRows (rows.take i) : Int) := by omega
   have hkk1 : k + (cntRows (rows.take i) : Int) + ((6 + cntRows r3 + cntRows r7 + cntRows r8 : Nat) : Int) <= 1000000000 := by omega
   generalize hkk : k + (cntRows (rows.take i) : Int) = kk at hkk0 hkk1 ⊢
   have q1 : ((i : Int) < (rows.length : Int)) = True := eq_true (by omega)
   have q2 : i < rows.length := hlt
   have hs : ∀ X : List C, ((us.map litRow).set i X)[i]? = some X := fun X => set_get (by rw [len_lits, hn]; omega) X
   have lr : litRow [.int .i64 i0, .string t1, .int .i64 i2, u3, .int .i64 i4, .string t5, .int .i64 i6, u7, u8] = [.lit (.int .i64 i0), .lit (.string t1), .lit (.int .i64 i2), .lit (u3), .lit (.int .i64 i4), .lit (.string t5), .lit (.int .i64 i6), .lit (u7), .lit (u8)] := rfl
   have w0 : IntKind.i64.wrap (kk + 1) = kk + 1 := IntWalk.i64_in _ (by omega)
   have w1 : IntKind.i64.wrap (kk + 1 + 1) = kk + 1 + 1 := IntWalk.i64_in _ (by omega)
   have w2 : IntKind.i64.wrap (kk + 1 + 1 + 1) = kk + 1 + 1 + 1 := IntWalk.i64_in _ (by omega)
   have w4 : IntKind.i64.wrap (kk + 1 + 1 + 1 + (cntRows r3 : Int) + 1) = kk + 1 + 1 + 1 + (cntRows r3 : Int) + 1 := IntWalk.i64_in _ (by omega)
   have w5 : IntKind.i64.wrap (kk + 1 + 1 + 1 + (cntRows r3 : Int) + 1 + 1) = kk + 1 + 1 + 1 + (cntRows r3 : Int) + 1 + 1 := IntWalk.i64_in _ (by omega)
   have w6 : IntKind.i64.wrap (kk + 1 + 1 + 1 + (cntRows r3 : Int) + 1 + 1 + 1) = kk + 1 + 1 + 1 + (cntRows r3 : Int) + 1 + 1 + 1 := IntWalk.i64_in _ (by omega)
   have wi : IntKind.i64.wrap ((i : Int) + 1) = (i : Int) + 1 := IntWalk.i64_in _ (by omega)
   (have F := ai @q1 (ai @hl (ai @hn (ai @hu (ai @lr (ai @len_lits (ai @set_len (ai @hs (ai @w0 (ai @w1 (ai @w2 (ai @w4 (ai @w5 (ai @w6 (ai @q2 @set_set')))))))))))))); refine gG ?_; clear F)
   refine gB ?_
   (have F := ai @q1 (ai @hl (ai @hn (ai @hu (ai @lr (ai @len_lits (ai @set_len (ai @hs (ai @w0 (ai @w1 (ai @w2 (ai @w4 (ai @w5 (ai @w6 (ai @q2 @set_set')))))))))))))); refine gC (con_markText (kk + 1) (by omega) (by omega)) ?_; clear F)
   (have F := ai @q1 (ai @hl (ai @hn (ai @hu (ai @lr (ai @len_lits (ai @set_len (ai @hs (ai @w0 (ai @w1 (ai @w2 (ai @w4 (ai @w5 (ai @w6 (ai @q2 @set_set')))))))))))))); refine gR ?_; clear F)
   (have F := ai @q1 (ai @hl (ai @hn (ai @hu (ai @lr (ai @len_lits (ai @set_len (ai @hs (ai @w0 (ai @w1 (ai @w2 (ai @w4 (ai @w5 (ai @w6 (ai @q2 @set_set')))))))))))))); refine gG ?_; clear F)
   refine gB ?_
   (have F := ai @q1 (ai @hl (ai @hn (ai @hu (ai @lr (ai @len_lits (ai @set_len (ai @hs (ai @w0 (ai @w1 (ai @w2 (ai @w4 (ai @w5 (ai @w6 (ai @q2 @set_set')))))))))))))); refine gCP [1003] [1003] (hm3 (kk + 1 + 1 + 1) (Es 0) u3 (by omega) (by omega)) ?_; clear F)
   rintro r pm ⟨F3, rfl, rfl⟩
   simp only [setA, retA, zipM, List.cons_append, List.nil_append]
   (have F := ai @q1 (ai @hl (ai @hn (ai @hu (ai @lr (ai @len_lits (ai @set_len (ai @hs (ai @w0 (ai @w1 (ai @w2 (ai @w4 (ai @w5 (ai @w6 (ai @q2 @set_set')))))))))))))); refine gR ?_; clear F)
   (have F := ai @q1 (ai @hl (ai @hn (ai @hu (ai @lr (ai @len_lits (ai @set_len (ai @hs (ai @w0 (ai @w1 (ai @w2 (ai @w4 (ai @w5 (ai @w6 (ai @q2 @set_set')))))))))))))); refine gG ?_; clear F)
   refine gB ?_
   (have F := ai @q1 (ai @hl (ai @hn (ai @hu (ai @lr (ai @len_lits (ai @set_len (ai @hs (ai @w0 (ai @w1 (ai @w2 (ai @w4 (ai @w5 (ai @w6 (ai @q2 @set_set')))))))))))))); refine gC (con_markText (kk + 1 + 1 + 1 + (cntRows r3 : Int) + 1) (by omega) (by omega)) ?_; clear F)
   (have F := ai @q1 (ai @hl (ai @hn (ai @hu (ai @lr (ai @len_lits (ai @set_len (ai @hs (ai @w0 (ai @w1 (ai @w2 (ai @w4 (ai @w5 (ai @w6 (ai @q2 @set_set')))))))))))))); refine gR ?_; clear F)
   (have F := ai @q1 (ai @hl (ai @hn (ai @hu (ai @lr (ai @len_lits (ai @set_len (ai @hs (ai @w0 (ai @w1 (ai @w2 (ai @w4 (ai @w5 (ai @w6 (ai @q2 @set_set')))))))))))))); refine gG ?_; clear F)
   refine gB ?_
   (have F := ai @q1 (ai @hl (ai @hn (ai @hu (ai @lr (ai @len_lits (ai @set_len (ai @hs (ai @w0 (ai @w1 (ai @w2 (ai @w4 (ai @w5 (ai @w6 (ai @q2 @set_set')))))))))))))); refine gCP [1004] [1004] (hm7 (kk + 1 + 1 + 1 + (cntRows r3 : Int) + 1 + 1 + 1) (Es 1) u7 (by omega) (by omega)) ?_; clear F)
   rintro r pm ⟨F7, rfl, rfl⟩
   simp only [setA, retA, zipM, List.cons_append, List.nil_append]
   (have F := ai @q1 (ai @hl (ai @hn (ai @hu (ai @lr (ai @len_lits (ai @set_len (ai @hs (ai @w0 (ai @w1 (ai @w2 (ai @w4 (ai @w5 (ai @w6 (ai @q2 @set_set')))))))))))))); refine gR ?_; clear F)
   (have F := ai @q1 (ai @hl (ai @hn (ai @hu (ai @lr (ai @len_lits (ai @set_len (ai @hs (ai @w0 (ai @w1 (ai @w2 (ai @w4 (ai @w5 (ai @w6 (ai @q2 @set_set')))))))))))))); refine gG ?_; clear F)
   refine gB ?_
   (have F := ai @q1 (ai @hl (ai @hn (ai @hu (ai @lr (ai @len_lits (ai @set_len (ai @hs (ai @w0 (ai @w1 (ai @w2 (ai @w4 (ai @w5 (ai @w6 (ai @q2 @set_set')))))))))))))); refine gCP [1005] [1005] (hm8 (kk + 1 + 1 + 1 + (cntRows r3 : Int) + 1 + 1 + 1 + (cntRows r7 : Int)) (Es 2) u8 (by omega) (by omega)) ?_; clear F)
   rintro r pm ⟨F8, rfl, rfl⟩
   simp only [setA, retA, zipM, List.cons_append, List.nil_append]
   (have F := ai @q1 (ai @hl (ai @hn (ai @hu (ai @lr (ai @len_lits (ai @set_len (ai @hs (ai @w0 (ai @w1 (ai @w2 (ai @w4 (ai @w5 (ai @w6 (ai @q2 @set_set')))))))))))))); refine gR ?_; clear F)
   obtain ⟨E6, hre⟩ : ∃ E6, Retold [.set E3 (fun w => OwnVs w (mkRows k (rows.take i)) E3 (us.take i)), .set F3 (fun w => Own w (.sl (mkRows (kk + 1 + 1 + 1) r3)) F3 u3), .set F7 (fun w => Own w (.sl (mkRows (kk + 1 + 1 + 1 + (cntRows r3 : Int) + 1 + 1 + 1) r7)) F7 u7), .set F8 (fun w => Own w (.sl (mkRows (kk + 1 + 1 + 1 + (cntRows r3 : Int) + 1 + 1 + 1 + (cntRows r7 : Int)) r8)) F8 u8)] [.set E6 (fun w => OwnVs w (mkRows k (rows.take (i + 1))) E6 ((us.set i [.int .i64 (kk), .string (txt (kk + 1)), .int .i64 (kk + 1 + 1), u3, .int .i64 (kk + 1 + 1 + 1 + (cntRows r3 : Int)), .string (txt (kk + 1 + 1 + 1 + (cntRows r3 : Int) + 1)), .int .i64 (kk + 1 + 1 + 1 + (cntRows r3 : Int) + 1 + 1), u7, u8]).take (i + 1)))] := by
    have hz := re_row (E := E3) (done := mkRows k (rows.take i)) (ud := us.take i) (cs := [.lit (.int .i64 (kk)), .lit (.string (txt (kk + 1))), .lit (.int .i64 (kk + 1 + 1)), .sl (mkRows (kk + 1 + 1 + 1) r3), .lit (.int .i64 (kk + 1 + 1 + 1 + (cntRows r3 : Int))), .lit (.string (txt (kk + 1 + 1 + 1 + (cntRows r3 : Int) + 1))), .lit (.int .i64 (kk + 1 + 1 + 1 + (cntRows r3 : Int) + 1 + 1)), .sl (mkRows (kk + 1 + 1 + 1 + (cntRows r3 : Int) + 1 + 1 + 1) r7), .sl (mkRows (kk + 1 + 1 + 1 + (cntRows r3 : Int) + 1 + 1 + 1 + (cntRows r7 : Int)) r8)]) (us := [.int .i64 (kk), .string (txt (kk + 1)), .int .i64 (kk + 1 + 1), u3, .int .i64 (kk + 1 + 1 + 1 + (cntRows r3 : Int)), .string (txt (kk + 1 + 1 + 1 + (cntRows r3 : Int) + 1)), .int .i64 (kk + 1 + 1 + 1 + (cntRows r3 : Int) + 1 + 1), u7, u8]) (Es := fun k => match k with | 0 => F3 | 1 => F7 | _ => F8) rfl ⟨rfl, rfl, rfl, rfl, rfl, rfl, trivial⟩
    rw [tk_snoc hr, mkRows_snoc, hkk, set_take (by omega)]
    simp only [mkRow, mkC, mkV, cntC, Int.natCast_one]
    exact ⟨_, hz⟩
   refine pE [1002, 1003, 1004, 1005] [1002] hre ?_
   have e1 : ((us.set i [.int .i64 (kk), .string (txt (kk + 1)), .int .i64 (kk + 1 + 1), u3, .int .i64 (kk + 1 + 1 + 1 + (cntRows r3 : Int)), .string (txt (kk + 1 + 1 + 1 + (cntRows r3 : Int) + 1)), .int .i64 (kk + 1 + 1 + 1 + (cntRows r3 : Int) + 1 + 1), u7, u8]).map litRow) = (us.map litRow).set i [.lit (.int .i64 (kk)), .lit (.string (txt (kk + 1))), .lit (.int .i64 (kk + 1 + 1)), .lit (u3), .lit (.int .i64 (kk + 1 + 1 + 1 + (cntRows r3 : Int))), .lit (.string (txt (kk + 1 + 1 + 1 + (cntRows r3 : Int) + 1))), .lit (.int .i64 (kk + 1 + 1 + 1 + (cntRows r3 : Int) + 1 + 1)), .lit (u7), .lit (u8)] := by rw [List.map_set]; rfl
   have e2 := set_drop us i [.int .i64 (kk), .string (txt (kk + 1)), .int .i64 (kk + 1 + 1), u3, .int .i64 (kk + 1 + 1 + 1 + (cntRows r3 : Int)), .string (txt (kk + 1 + 1 + 1 + (cntRows r3 : Int) + 1)), .int .i64 (kk + 1 + 1 + 1 + (cntRows r3 : Int) + 1 + 1), u7, u8]
   have e5 : k + (cntRows (rows.take (i + 1)) : Int) = kk + 1 + 1 + 1 + (cntRows r3 : Int) + 1 + 1 + 1 + (cntRows r7 : Int) + (cntRows r8 : Int) := by rw [hc1]; omega
   have hn2 : (us.set i [.int .i64 (kk), .string (txt (kk + 1)), .int .i64 (kk + 1 + 1), u3, .int .i64 (kk + 1 + 1 + 1 + (cntRows r3 : Int)), .string (txt (kk + 1 + 1 + 1 + (cntRows r3 : Int) + 1)), .int .i64 (kk + 1 + 1 + 1 + (cntRows r3 : Int) + 1 + 1), u7, u8]).length = rows.length := by rw [set_len, hn]
   generalize us.set i [.int .i64 (kk), .string (txt (kk + 1)), .int .i64 (kk + 1 + 1), u3, .int .i64 (kk + 1 + 1 + 1 + (cntRows r3 : Int)), .string (txt (kk + 1 + 1 + 1 + (cntRows r3 : Int) + 1)), .int .i64 (kk + 1 + 1 + 1 + (cntRows r3 : Int) + 1 + 1), u7, u8] = us2 at e1 e2 hn2 ⊢
   rw [<- e1, <- e2]
   (have F := ai @wi (ai @e5 (ai @hl (ai @w0 (ai @w1 (ai @w2 (ai @w4 (ai @w5 (ai @w6 @hn)))))))); refine gG ?_; exact ⟨(i + 1, us2, E4, E6), ⟨hlt, hn2⟩, gw, gw, by omega⟩)
  ·obtain rfl : i = rows.length := by omega
   have q1 : ((rows.length : Int) < (rows.length : Int)) = False := eq_false (by omega)
   rw [List.take_length, List.take_of_length_le (Nat.le_of_eq hn)]
   (have F := ai @q1 (ai @hl @hn); refine gG ?_; clear F)
   obtain ⟨E6, hre⟩ : ∃ E6, Retold [.buf (some (a, cap)) ety 9 (us.map litRow), .set E3 (fun w => OwnVs w (mkRows k rows) E3 us)] [.set E6 (fun w => Own w (.sl (mkRows k rows)) E6 (.slice a uss.length cap))] := by
    rw [hl, <- hn]
    exact ⟨_, re_close (fun w h => h) (Own.stable _ _ _)⟩
   refine pE [1000, 1002] [1000] hre ?_
   have F := hk
   exact gTP (R := fun r pm => ∃ E', r = [.one (.lit (.int .i64 (k + (cntRows rows : Nat))))] ∧ pm = [.set E' (fun w => Own w (.sl (mkRows k rows)) E' (.slice a uss.length cap))]) [1000] ⟨E6, rfl, rfl⟩
theorem markEquationS_all {rows : List (List C)} (hok : okRows (fieldsOf .eqn) rows) : MarkS 74 rows := mark_EquationS_of hok
end Go.Proofs.YtohilkmdjdfljaaGreat
namespace Go.Proofs.YtohilkmdjdfljaaGreat
open Go.RowKit
set_option maxHeartbeats 16000000 in
set_option maxRecDepth 100000 in
theorem markModule_all {row : List C} (hok : okRow (moduleF) row) : MarkV 29 row := by
 obtain ⟨r0, r1, r2, r3, r4, rfl, g0, g1, g2, g3, g4⟩ := okRow_Module hok
 intro kk E us hl hc hk hb
 obtain ⟨u0, u1, u2, u3, u4, rfl⟩ := len5 hl
 have kc : okCell (.lit u0) = true ∧ okCell (.lit u1) = true ∧ okCell (.lit u2) = true ∧ okCell (.lit u3) = true ∧ okCell (.lit u4) = true := by simpa [litRow, Bool.and_eq_true, and_assoc] using hc
 obtain ⟨k0, k1, k2, k3, k4⟩ := kc
 simp only [cntTop, Nat.add_zero] at hb ⊢
 have lr : litRow [u0, u1, u2, u3, u4] = [.lit u0, .lit u1, .lit u2, .lit u3, .lit u4] := rfl
 rw [lr]
 refine gIP (ts := [.slot 4]) [1000] 23 Tryz.func29 ?_
 refine pEx (f := fun (x : Nat -> Nat -> Prop) => [.set (x 0) (fun w => Own w (.sl r0) (x 0) u0), .set (x 1) (fun w => Own w (.sl r1) (x 1) u1), .set (x 2) (fun w => Own w (.sl r2) (x 2) u2), .set (x 3) (fun w => Own w (.sl r3) (x 3) u3), .set (x 4) (fun w => Own w (.sl r4) (x 4) u4)]) [1000] [1003, 1004, 1005, 1006, 1007] (fd_cells rfl) ?_
 rintro Es -
 try dsimp only
 obtain ⟨G0, hre0⟩ : ∃ G, Retold [.set (Es 0) (fun w => Own w (.sl r0) (Es 0) u0), .set (Es 1) (fun w => Own w (.sl r1) (Es 1) u1), .set (Es 2) (fun w => Own w (.sl r2) (Es 2) u2)] [.set G (fun w => OwnVals w [.sl r0, .sl r1, .sl r2] G [u0, u1, u2])] := ⟨_, re_cells (cs := [.sl r0, .sl r1, .sl r2]) (us := [u0, u1, u2]) (Es := fun k => Es (k + 0)) rfl trivial⟩
 refine pE [1003, 1004, 1005] [1003] hre0 ?_
 have lr0 : litRow [u0, u1, u2] = [.lit u0, .lit u1, .lit u2] := rfl
 have hm0 := markSignature_all (row := [.sl r0, .sl r1, .sl r2]) (mkRow_Signature g0 g1 g2) (kk) G0 [u0, u1, u2] rfl (by rw [lr0]; simp only [List.all_cons, List.all_nil, k0, k1, k2, Bool.and_self]) (by omega) (by simp only [cntTop]; omega)
 rw [lr0] at hm0
 simp only [cntTop, mkTop, Nat.add_zero, Int.natCast_add, <- Int.add_assoc] at hm0
 (have F := ai @lr (ai @k0 (ai @k1 (ai @k2 (ai @k3 @k4)))); refine gG ?_; clear F)
 refine gB ?_
 (have F := ai @lr (ai @k0 (ai @k1 (ai @k2 (ai @k3 @k4)))); refine gCP [1003] [1003] (hm0) ?_; clear F)
 rintro r pm ⟨G0', rfl, rfl⟩
 simp only [setA, retA, zipM, List.cons_append, List.nil_append]
 (have F := ai @lr (ai @k0 (ai @k1 (ai @k2 (ai @k3 @k4)))); refine gR ?_; clear F)
 refine pEx (f := fun (x : Nat -> Nat -> Prop) => [.set (x 0) (fun w => Own w (.sl (mkRows (kk) r0)) (x 0) u0), .set (x 1) (fun w => Own w (.sl (mkRows (kk + (cntRows r0 : Int)) r1)) (x 1) u1), .set (x 2) (fun w => Own w (.sl (mkRows (kk + (cntRows r0 : Int) + (cntRows r1 : Int)) r2)) (x 2) u2)]) [1003] [1003, 1004, 1005] (fd_cells (r := [.sl (mkRows (kk) r0), .sl (mkRows (kk + (cntRows r0 : Int)) r1), .sl (mkRows (kk + (cntRows r0 : Int) + (cntRows r1 : Int)) r2)]) rfl) ?_
 rintro Fs0 -
 try dsimp only
 (have F := ai @lr (ai @k0 (ai @k1 (ai @k2 (ai @k3 @k4)))); refine gG ?_; clear F)
 refine gB ?_
 (have F := ai @lr (ai @k0 (ai @k1 (ai @k2 (ai @k3 @k4)))); refine gCP [1006] [1006] (markEquationS_all g3 (kk + (cntRows r0 : Int) + (cntRows r1 : Int) + (cntRows r2 : Int)) (Es 3) u3 (by omega) (by omega)) ?_; clear F)
 rintro r pm ⟨F3, rfl, rfl⟩
 simp only [setA, retA, zipM, List.cons_append, List.nil_append]
 (have F := ai @lr (ai @k0 (ai @k1 (ai @k2 (ai @k3 @k4)))); refine gR ?_; clear F)
 (have F := ai @lr (ai @k0 (ai @k1 (ai @k2 (ai @k3 @k4)))); refine gG ?_; clear F)
 refine gB ?_
 (have F := ai @lr (ai @k0 (ai @k1 (ai @k2 (ai @k3 @k4)))); refine gCP [1007] [1007] (markEquationS_all g4 (kk + (cntRows r0 : Int) + (cntRows r1 : Int) + (cntRows r2 : Int) + (cntRows r3 : Int)) (Es 4) u4 (by omega) (by omega)) ?_; clear F)
 rintro r pm ⟨F4, rfl, rfl⟩
 simp only [setA, retA, zipM, List.cons_append, List.nil_append]
 (have F := ai @lr (ai @k0 (ai @k1 (ai @k2 (ai @k3 @k4)))); refine gR ?_; clear F)
 (have F := ai @lr (ai @k0 (ai @k1 (ai @k2 (ai @k3 @k4)))); refine gG ?_; clear F)
 obtain ⟨E6, hre⟩ : ∃ E6, Retold [.set (Fs0 0) (fun w => Own w (.sl (mkRows (kk) r0)) (Fs0 0) u0), .set (Fs0 1) (fun w => Own w (.sl (mkRows (kk + (cntRows r0 : Int)) r1)) (Fs0 1) u1), .set (Fs0 2) (fun w => Own w (.sl (mkRows (kk + (cntRows r0 : Int) + (cntRows r1 : Int)) r2)) (Fs0 2) u2), .set F3 (fun w => Own w (.sl (mkRows (kk + (cntRows r0 : Int) + (cntRows r1 : Int) + (cntRows r2 : Int)) r3)) F3 u3), .set F4 (fun w => Own w (.sl (mkRows (kk + (cntRows r0 : Int) + (cntRows r1 : Int) + (cntRows r2 : Int) + (cntRows r3 : Int)) r4)) F4 u4)] [.set E6 (fun w => OwnVals w [.sl (mkRows (kk) r0), .sl (mkRows (kk + (cntRows r0 : Int)) r1), .sl (mkRows (kk + (cntRows r0 : Int) + (cntRows r1 : Int)) r2), .sl (mkRows (kk + (cntRows r0 : Int) + (cntRows r1 : Int) + (cntRows r2 : Int)) r3), .sl (mkRows (kk + (cntRows r0 : Int) + (cntRows r1 : Int) + (cntRows r2 : Int) + (cntRows r3 : Int)) r4)] E6 [u0, u1, u2, u3, u4])] := ⟨_, re_cells (cs := [.sl (mkRows (kk) r0), .sl (mkRows (kk + (cntRows r0 : Int)) r1), .sl (mkRows (kk + (cntRows r0 : Int) + (cntRows r1 : Int)) r2), .sl (mkRows (kk + (cntRows r0 : Int) + (cntRows r1 : Int) + (cntRows r2 : Int)) r3), .sl (mkRows (kk + (cntRows r0 : Int) + (cntRows r1 : Int) + (cntRows r2 : Int) + (cntRows r3 : Int)) r4)]) (us := [u0, u1, u2, u3, u4]) (Es := fun k => match k with | 0 => Fs0 0 | 1 => Fs0 1 | 2 => Fs0 2 | 3 => F3 | _ => F4) rfl trivial⟩
 refine pE [1003, 1004, 1005, 1006, 1007] [1000] hre ?_
 have F := hk
 have ee : kk + (cntRows r0 : Int) + (cntRows r1 : Int) + (cntRows r2 : Int) + (cntRows r3 : Int) + (cntRows r4 : Int) = kk + ((cntRows r0 + (cntRows r1 + (cntRows r2 + (cntRows r3 + (cntRows r4)))) : Nat) : Int) := by omega
 rw [ee]
 exact gTP (R := fun r pm => ∃ E', r = [.one (.lit (.int .i64 (kk + ((cntRows r0 + (cntRows r1 + (cntRows r2 + (cntRows r3 + (cntRows r4)))) : Nat) : Int))))] ∧ pm = [.set E' (fun w => OwnVals w (mkTop kk [.sl r0, .sl r1, .sl r2, .sl r3, .sl r4]) E' [u0, u1, u2, u3, u4])]) [1000] ⟨E6, rfl, by simp only [mkTop]; rfl⟩
end Go.Proofs.YtohilkmdjdfljaaGreat
namespace Go.Proofs.YtohilkmdjdfljaaGreat
open Go.RowKit
theorem fields_le (t : TN) : (fieldsOf t).length <= 16 := by cases t <;> decide
mutual
theorem cnt_okC : ∀ (f : F) (c : C), okC f c -> cntC c <= 1 + 16 * bulkC c
 | f, .lit v, _ => by simp only [cntC]; omega
 | .sl t, .sl rows, h => by
  have := cnt_okRows (fieldsOf t) rows (fields_le t) (by simpa [okC] using h)
  simp only [cntC, bulkC]
  omega
 | .int, .sl _, h => by simp [okC] at h
 | .str, .sl _, h => by simp [okC] at h
 | .bool, .sl _, h => by simp [okC] at h
 | f, .ptr _, _ => by simp [cntC]
 | f, .fn _ _, _ => by simp [cntC]
theorem cnt_okRows : ∀ (fs : List F) (rows : List (List C)), fs.length <= 16 -> okRows fs rows -> cntRows rows <= 16 * (rows.length + bulkRows rows)
 | fs, [], _, _ => by simp [cntRows]
 | fs, r :: rs, hl, h => by
  simp only [okRows] at h
  have h1 := cnt_okRow fs r h.1
  have h2 := cnt_okRows fs rs hl h.2
  simp only [cntRows, bulkRows, List.length_cons]
  omega
theorem cnt_okRow : ∀ (fs : List F) (cs : List C), okRow fs cs -> cntRow cs <= fs.length + 16 * bulkRow cs
 | [], [], _ => by simp [cntRow]
 | f :: fs, c :: cs, h => by
  simp only [okRow] at h
  have h1 := cnt_okC f c h.1
  have h2 := cnt_okRow fs cs h.2
  simp only [cntRow, bulkRow, List.length_cons]
  omega
 | [], _ :: _, h => by simp [okRow] at h
 | _ :: _, [], h => by simp [okRow] at h
end
theorem cntTop_ok : ∀ (fs : List F) (cs : List C), okRow fs cs -> cntTop cs <= 16 * bulkRow cs
 | [], [], _ => by simp [cntTop]
 | f :: fs, c :: cs, h => by
  simp only [okRow] at h
  have h2 := cntTop_ok fs cs h.2
  cases c with
  | lit v => simp only [cntTop, bulkRow]; omega
  | sl rows =>
   cases f with
   | sl t =>
    have := cnt_okRows (fieldsOf t) rows (fields_le t) (by simpa [okC] using h.1)
    simp only [cntTop, bulkRow, bulkC]
    omega
   | _ => simp [okC] at h
  | ptr _ => simp only [cntTop, bulkRow]; omega
  | fn _ _ => simp only [cntTop, bulkRow]; omega
 | [], _ :: _, h => by simp [okRow] at h
 | _ :: _, [], h => by simp [okRow] at h
theorem lits_len {us : List Value} {n : Nat} (h : us.length = n) : (litRow us).length = n ∧ (litRow us).take n = litRow us ∧ (litRow us).drop n = [] := by
 have hl : (litRow us).length = n := by unfold litRow; rw [List.length_map]; exact h
 exact ⟨hl, List.take_of_length_le (Nat.le_of_eq hl), List.drop_of_length_le (Nat.le_of_eq hl)⟩
end Go.Proofs.YtohilkmdjdfljaaGreat
namespace Go.Proofs.YtohilkmdjdfljaaGreat
open Go.RowKit
theorem con_szModule {row : List C} (hok : okRow (moduleF) row) {left : Int} (h0 : 0 <= left) (h1 : left <= 1048576) : Con e0 23 [.agg row, .one (.lit (.int .i64 left))] [.one (.lit (.int .i64 (sub left (bulkRow row))))] := by
 refine con_below e0_ok (by kernel_rfl) fun w S vs h => ?_
 match vs, h with
 | [v, u], h =>
  obtain ⟨⟨us, rfl, hu⟩, h2, _⟩ := h
  have h2 : u = .int .i64 left := by simpa [DRel, Rep] using h2
  subst h2
  exact (szModule_any row S us left w hok hu h0 h1).mono fun e w' ⟨h1, h2⟩ => ⟨_, h1, h2, by simp [retA, ARel, DRel, Rep]⟩
theorem con_toModule {row : List C} (hok : okRow (moduleF) row) (hb : bulkRow row <= 1048576) : Con e0 25 [.agg row] [.agg row] := by
 refine con_below e0_ok (by kernel_rfl) fun w S vs h => ?_
 match vs, h with
 | [v], h =>
  obtain ⟨⟨us, rfl, hu⟩, _⟩ := h
  exact (toModule_any row S us w hok hu hb).mono fun e w' ⟨us', h1, h2, h3⟩ => ⟨_, h1, h3, us', rfl, OwnVals.rep row _ _ us' (fun x hx => .inr hx) h2⟩
theorem con_eqModule {row : List C} (hok : okRow (moduleF) row) : Con e0 28 [.agg row, .agg row] [.one (.lit (.bool true))] := by
 refine con_below e0_ok (by kernel_rfl) fun w S vs h => ?_
 match vs, h with
 | [v, u], h =>
  obtain ⟨⟨us, rfl, hu⟩, ⟨us', rfl, hu'⟩, _⟩ := h
  exact (eqModule_any row S S us us' w hok hu hu').mono fun e w' ⟨h1, h2⟩ => ⟨_, h1, h2, by simp [retA, ARel, DRel, Rep]⟩
end Go.Proofs.YtohilkmdjdfljaaGreat
namespace Go.Proofs.YtohilkmdjdfljaaGreat
open Go.RowKit
theorem con_eqStringS {rows : List (List C)} (hok : okRows (fieldsOf .str) rows) : Con e0 27 [.one (.sl rows), .one (.sl rows)] [.one (.lit (.bool true))] := by
 refine con_below e0_ok (by kernel_rfl) fun w S vs h => ?_
 match vs, h with
 | [v, u], h =>
  obtain ⟨hv, hu, _⟩ := h
  exact (eqStringS_any rows S S v u w hok hv hu).mono fun e w' ⟨h1, h2⟩ => ⟨_, h1, h2, by simp [retA, ARel, DRel, Rep]⟩
end Go.Proofs.YtohilkmdjdfljaaGreat
