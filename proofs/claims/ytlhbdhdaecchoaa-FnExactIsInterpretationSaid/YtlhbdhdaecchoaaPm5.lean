/-
  The plain machine is sound: regions and code. No function of the program is named here.
-/
import Derived.Test.YtlhbdhdaecchoaaPm4
set_option linter.unusedSimpArgs false
set_option linter.unusedVariables false
namespace Go.Proofs.Ytlhbdhdaecchoaa
open Go.RowKit

section
variable {e : Env} {w0 : World} {S0 : Nat → Prop} {nt : Nat} {σ : St} {a : Act} {w : World} {S : Nat → Prop} {B : Nat → Nat} {o : Oper}

/-- What follows holds in a state that the plain machine describes. -/
def Then (e : Env) (w0 : World) (S0 : Nat → Prop) (nt : Nat) (K : St → Prop) (a : Act) (w : World) : Prop := ∃ σ, K σ ∧ SimE e w0 S0 nt σ a w

theorem popV_wp (h : Sim e w0 S0 nt σ a w S B) (he : e.Ok) {K : St → Prop} {Q : Exit → Act → World → Prop} (hd : ∀ d, o.dst = some d → d < nt) (hp : popV e σ.m (evA σ.s) (fun α => K ⟨setA σ.s o.dst α, σ.m⟩) o.op) :
    o.wp e.P a w (Then e w0 S0 nt K) Q := by
  obtain ⟨α, hK, hG⟩ := popV_sound (base := w0.heap.size) (S0 := S0) he hp (fun f => rfl)
  refine gives_wp (hG w S B a.eval h.cls (fun x _ => h.eval x)) fun v w' ⟨S', hS, hC, hk, hr⟩ => ?_
  exact ⟨_, hK, S', B, (h.later hC hk hS).put hr hd⟩
theorem popE_wp (h : Sim e w0 S0 nt σ a w S B) (he : e.Ok) {K : St → Prop} {Q : Exit → Act → World → Prop} (hd : ∀ d, o.dst = some d → d < nt) (hp : popE e σ o K) : o.wp e.P a w (Then e w0 S0 nt K) Q := by
  unfold popE at hp
  cases ho : o.op
  case alloc t =>
    rw [ho] at hp
    simp only at hp
    split at hp
    · rename_i d cs hds hz
      unfold zeroT at hz
      simp only [Option.map_eq_some_iff, Option.bind_eq_some_iff] at hz
      obtain ⟨v, ⟨i, hi, hv⟩, rfl⟩ := hz
      have hn := h.new he (us := v.cells) (ty := t) (hd d hds) (RepVals_zero v.cells.toList)
      unfold Oper.wp
      have hrun : (execOp a.eval o).run e.P w = .ok (.value (.pointer (some ⟨w.heap.size, 0, none⟩))) (w.alloc (.cells v.cells t)) := by
        simp [execOp, ho, Instr.alloc, zeroValue, typeInfo, hi, hv, newVar, newRow, Result.andThen]
      rw [hrun, Oper.upon_value, hds]
      exact ⟨_, hp, hn⟩
    · exact hp.elim
  case box t x =>
    rw [ho] at hp
    simp only at hp
    split at hp
    · rename_i d cs hds hz
      obtain ⟨h1, _⟩ := cellsA_spec hz (h.eval x)
      have hn := h.new he (us := (a.eval x).cells) (ty := t) (hd d hds) h1
      unfold Oper.wp
      have hrun : (execOp a.eval o).run e.P w = .ok (.value (.pointer (some ⟨w.heap.size, 0, none⟩))) (w.alloc (.cells (a.eval x).cells t)) := by
        simp [execOp, ho, Instr.box, newVar, newRow, Result.andThen]
      rw [hrun, Oper.upon_value, hds]
      exact ⟨_, hp, hn⟩
    · exact hp.elim
  case store t x y =>
    rw [ho] at hp
    simp only at hp
    split at hp
    · rename_i k off us n hds hx hy hn
      split at hp
      · rename_i cs hm
        obtain ⟨hl1, hl2, hp⟩ := hp
        obtain ⟨h1, h2⟩ := cellsA_spec hy (h.eval y)
        have h3 := h.eval x
        rw [hx] at h3
        have h3 : a.eval x = .pointer (some ⟨B k, off, none⟩) := h3
        obtain ⟨w', h4, h5⟩ := h.store (off := off) he hm (by omega) h1 h2
        simp only [sizeT, Option.map_eq_some_iff] at hn
        obtain ⟨i, hi, hin⟩ := hn
        have hsz : (a.eval y).cells.size = i.size := by rw [hin, ← hl1, ← h1.len, Array.length_toList]
        unfold Oper.wp
        have hrun : (execOp a.eval o).run e.P w = .ok .skip w' := by
          simp only [execOp, ho, h3, Instr.storeAt, Instr.sureAddr, storeVar, Sem.run_bind, Sem.run_pure, Result.andThen_ok, sizeOf, typeInfo, hi, run_program, hsz, ne_eq, not_true_eq_false, if_false, h4]
        rw [hrun, Oper.upon_skip, hds]
        rw [hl1] at h5
        exact ⟨_, hp, h5⟩
      · exact hp.elim
    · exact hp.elim
  all_goals
    rw [ho] at hp
    simp only at hp
    refine popV_wp h he hd ?_
    rw [ho]
    exact hp

theorem ARel.bool {b : Bool} {v : Value} (h : ARel w S B (.d (.one (.lit (.bool b)))) v) : v = .bool b := by simpa [ARel, DRel, Rep] using h
theorem getD_bool {l : Array Value} {d : Nat} {b : Bool} (h : l.getD d undef = .bool b) : l[d]? = some (.bool b) := by
  by_cases hd : d < l.size
  · simp [hd] at h; simp [hd, h]
  · simp [hd, undef] at h
/-- Whether a guarded operation is wanted. -/
theorem wanted_of (h : Sim e w0 S0 nt σ a w S B) {ops : List Oper} {j : Nat} {want b : Bool} (hg : o.guard = some (j, want)) (hs : (guardSlot ops j).map (gs σ.s) = some (.d (.one (.lit (.bool b))))) : Region.wanted o (yielded ops.toArray a.tmps) = decide (b = want) := by
  simp only [Option.map_eq_some_iff] at hs
  obtain ⟨d, h1, h2⟩ := hs
  have h3 := h.rel d
  rw [h2] at h3
  have h4 := getD_bool h3.bool
  unfold guardSlot at h1
  have h5 : ((ops.toArray[j]?).bind (·.dst)) = some d := by simpa using h1
  have h6 : yielded ops.toArray a.tmps j = some b := by unfold yielded; rw [h5]; simp only [Option.bind_some, h4]
  simp only [Region.wanted, hg, h6]
  cases b <;> cases want <;> rfl

theorem getD_undef {l : Array Value} {d : Nat} (h : l.getD d undef = undef) : l[d]? = some undef ∨ l[d]? = none := by
  by_cases hd : d < l.size
  · simp [hd] at h; simp [hd, h]
  · simp [hd]
theorem wanted_no {ops : Array Oper} {tmps : Array Value} {j d : Nat} {want : Bool} (hg : o.guard = some (j, want)) (hs : (ops[j]?).bind (·.dst) = some d) (h : tmps.getD d undef = undef) : Region.wanted o (yielded ops tmps) = false := by
  have h6 : yielded ops tmps j = none := by
    unfold yielded
    rw [hs]
    rcases getD_undef h with h1 | h1 <;> simp only [Option.bind_some, h1]
    rfl
  simp only [Region.wanted, hg, h6]
  cases want <;> rfl
theorem pops_wp (he : e.Ok) (ops : List Oper) {K : St → Prop} {Q : Exit → Act → World → Prop} (hQ : ∀ a w, Then e w0 S0 nt K a w → Q .normal a w) : ∀ (os : List Oper) (σ : St) (a : Act) (w : World), (∀ o ∈ os, ∀ d, o.dst = some d → d < nt) → SimE e w0 S0 nt σ a w → pops e ops os σ K → wpList e.P ops.toArray Q os a w
  | [], σ, a, w, _, h, hp => hQ a w ⟨σ, hp, h⟩
  | o :: os, σ, a, w, hd, h, hp => by
    obtain ⟨S, B, h⟩ := h
    have ih := fun σ' a' w' => pops_wp he ops hQ os σ' a' w' (fun o' ho' => hd o' (by simp [ho']))
    simp only [pops] at hp
    unfold wpList
    cases hg : o.guard with
    | none =>
      rw [hg] at hp
      simp only at hp
      have hw : Region.wanted o (yielded ops.toArray a.tmps) = true := by simp [Region.wanted, hg]
      rw [if_pos hw]
      exact .inl (Oper.wp_mono (fun a' w' ⟨σ', hK, hS⟩ => ih σ' a' w' hS hK) (popE_wp h he (hd o (by simp)) hp))
    | some jw =>
      obtain ⟨j, want⟩ := jw
      rw [hg] at hp
      simp only at hp
      split at hp
      · rename_i b hb
        rw [wanted_of h hg hb]
        by_cases hbw : b = want
        · rw [if_pos hbw] at hp
          simp only [hbw, decide_true, if_true]
          exact .inl (Oper.wp_mono (fun a' w' ⟨σ', hK, hS⟩ => ih σ' a' w' hS hK) (popE_wp h he (hd o (by simp)) hp))
        · rw [if_neg hbw] at hp
          simp only [hbw, decide_false, Bool.false_eq_true, if_false]
          exact ih _ _ _ ⟨S, B, h.put (α := .no) rfl (hd o (by simp))⟩ hp
      · rename_i hb
        simp only [Option.map_eq_some_iff] at hb
        obtain ⟨d, hb1, hb2⟩ := hb
        have h3 := h.rel d
        rw [hb2] at h3
        rw [wanted_no (d := d) hg (by simpa [guardSlot] using hb1) h3]
        simp only [Bool.false_eq_true, if_false]
        exact ih _ _ _ ⟨S, B, h.put (α := .no) rfl (hd o (by simp))⟩ hp
      · exact hp.elim
end
end Go.Proofs.Ytlhbdhdaecchoaa
