/-
  The plain machine is sound: regions that draw their order. No function of the program is named here.
-/
import Derived.Test.YtlhbdhdaecchoaaPm5
set_option linter.unusedSimpArgs false
set_option linter.unusedVariables false
namespace Go.Proofs.Ytlhbdhdaecchoaa
open Go.RowKit

def quietOp : Op → Bool
  | .alloc _ => false
  | .box _ _ => false
  | .store _ _ _ => false
  | _ => true
/-- The first n operations change no memory, each has a place of its own, and looks at no other's place but of one that it waits for. -/
def headB (ops : Array Oper) (n : Nat) : Bool :=
  (List.range n).all fun i => match ops[i]? with
    | none => false
    | some o => o.dst.isSome && quietOp o.op && o.after.all (fun e => !Region.binds .any e || decide (e.on < i)) &&
      (match o.guard with
       | none => true
       | some (j, _) => decide (j < n) && Region.waitsFor .any ops i j) &&
      (List.range n).all fun j => match ops[j]? with
        | none => false
        | some p => (j == i || p.dst != o.dst) && (!(slotsOf o).any (fun t => p.dst == some t) || Region.waitsFor .any ops i j)
def regB (ops : Array Oper) (n : Nat) : Bool :=
  headB ops n && decide (n ≤ ops.size) && (decide (n = ops.size) || (Region.sinkB .any ops n && Region.chainB .any ops n)) && Region.seqB .any ops (ops.size - n) n (headArr ops.size n)
def drawB (ops : Array Oper) : Bool := (List.range (ops.size + 1)).any fun k => regB ops (ops.size - k)

section
variable {e : Env} {w0 : World} {S0 : Nat → Prop} {nt : Nat} {ops : Array Oper} {n : Nat}
structure HeadAt (ops : Array Oper) (n i : Nat) (o : Oper) (d : Nat) : Prop where
  op : ops[i]? = some o
  dst : o.dst = some d
  quiet : quietOp o.op = true
  back : ∀ e ∈ o.after, Region.binds .any e = true → e.on < i
  guard : ∀ j want, o.guard = some (j, want) → j < n ∧ Region.waitsFor .any ops i j = true
  dep : ∀ (j : Nat) (p : Oper), j < n → ops[j]? = some p → (j ≠ i → p.dst ≠ some d) ∧ (∀ t ∈ slotsOf o, p.dst = some t → Region.waitsFor .any ops i j = true)
theorem headB.get (h : headB ops n = true) {i : Nat} (hi : i < n) : ∃ o d, HeadAt ops n i o d := by
  have h1 := List.all_eq_true.1 h i (List.mem_range.2 hi)
  cases ho : ops[i]? with
  | none => rw [ho] at h1; simp at h1
  | some o =>
    rw [ho] at h1
    simp only [Bool.and_eq_true] at h1
    obtain ⟨⟨⟨⟨h2, h0⟩, h3⟩, h5⟩, h4⟩ := h1
    obtain ⟨d, hd⟩ := Option.isSome_iff_exists.1 h2
    refine ⟨o, d, ho, hd, h0, fun e he hb => ?_, fun j want hg => ?_, fun j p hj hp => ?_⟩
    · have := Array.all_eq_true'.1 h3 e he
      simpa [hb] using this
    · rw [hg] at h5
      simpa using h5
    · have h5 := List.all_eq_true.1 h4 j (List.mem_range.2 hj)
      rw [hp] at h5
      simp only [Bool.and_eq_true, Bool.or_eq_true, beq_iff_eq, bne_iff_ne, ne_eq, Bool.not_eq_true'] at h5
      refine ⟨fun hne hpd => ?_, fun t ht hpt => ?_⟩
      · rcases h5.1 with h | h
        · exact hne h
        · exact h (hpd.trans hd.symm)
      · rcases h5.2 with h | h
        · have := List.any_eq_false.1 h t ht
          simp [hpt] at this
        · exact h
theorem HeadAt.waits {i : Nat} {o : Oper} {d j : Nat} (h : HeadAt ops n i o d) (hw : Region.waitsFor .any ops i j = true) : ∃ e ∈ o.after, Region.binds .any e = true ∧ e.on = j := by
  obtain ⟨p3, hp3, e, he, hbe, hon⟩ := Region.waitsFor_spec hw
  rw [h.op] at hp3
  injection hp3 with hp3
  subst hp3
  exact ⟨e, he, hbe, hon⟩

/-- What the head's operations give, one after the other in the order of the text. -/
def StepA (e : Env) (base : Nat) (S0 : Nat → Prop) (m : List (Nat × List C)) (ops : List Oper) (o : Oper) (s : List (Nat × A)) (α : A) : Prop :=
  match o.guard with
  | none => GivesA e base S0 m o (evA s) α
  | some (j, want) => (∃ b, (guardSlot ops j).map (gs s) = some (.d (.one (.lit (.bool b)))) ∧ if b = want then GivesA e base S0 m o (evA s) α else α = .no) ∨ ((guardSlot ops j).map (gs s) = some .no ∧ α = .no)
def Chain (e : Env) (base : Nat) (S0 : Nat → Prop) (m : List (Nat × List C)) (ops : List Oper) : List Oper → List (Nat × A) → List A → Prop
  | [], _, [] => True
  | o :: os, s, α :: αs => StepA e base S0 m ops o s α ∧ Chain e base S0 m ops os (setA s o.dst α) αs
  | _, _, _ => False
def after : List (Nat × A) → List Oper → List A → List (Nat × A)
  | s, o :: os, α :: αs => after (setA s o.dst α) os αs
  | s, _, _ => s
theorem pops_chain (he : e.Ok) (base : Nat) (S0 : Nat → Prop) (l : List Oper) {K : St → Prop} (rest : List Oper) : ∀ (os : List Oper) (σ : St), (∀ o ∈ os, quietOp o.op = true) → pops e l (os ++ rest) σ K →
    ∃ αs, αs.length = os.length ∧ Chain e base S0 σ.m l os σ.s αs ∧ pops e l rest ⟨after σ.s os αs, σ.m⟩ K
  | [], σ, _, h => ⟨[], rfl, trivial, h⟩
  | o :: os, σ, hq, h => by
    have quiet : ∀ K', popE e σ o K' → popV e σ.m (evA σ.s) (fun α => K' ⟨setA σ.s o.dst α, σ.m⟩) o.op := fun K' h => by
      have := hq o (by simp)
      unfold popE at h
      cases ho : o.op <;> rw [ho] at h this <;> first | (simp [quietOp] at this; done) | exact h
    have ih := fun (σ' : St) (h' : pops e l (os ++ rest) σ' K) => pops_chain he base S0 l rest os σ' (fun o' ho' => hq o' (by simp [ho'])) h'
    simp only [List.cons_append, pops] at h
    cases hg : o.guard with
    | none =>
      rw [hg] at h
      simp only at h
      obtain ⟨α, h1, h2⟩ := popV_sound (base := base) (S0 := S0) he (quiet _ h) (fun f => rfl)
      obtain ⟨αs, h3, h4, h5⟩ := ih _ h1
      exact ⟨α :: αs, by simp [h3], ⟨by unfold StepA; rw [hg]; exact h2, h4⟩, h5⟩
    | some jw =>
      obtain ⟨j, want⟩ := jw
      rw [hg] at h
      simp only at h
      split at h
      · rename_i b hb
        by_cases hbw : b = want
        · rw [if_pos hbw] at h
          obtain ⟨α, h1, h2⟩ := popV_sound (base := base) (S0 := S0) he (quiet _ h) (fun f => rfl)
          obtain ⟨αs, h3, h4, h5⟩ := ih _ h1
          exact ⟨α :: αs, by simp [h3], ⟨by unfold StepA; rw [hg]; exact .inl ⟨b, hb, by rw [if_pos hbw]; exact h2⟩, h4⟩, h5⟩
        · rw [if_neg hbw] at h
          obtain ⟨αs, h3, h4, h5⟩ := ih _ h
          exact ⟨.no :: αs, by simp [h3], ⟨by unfold StepA; rw [hg]; exact .inl ⟨b, hb, by rw [if_neg hbw]⟩, h4⟩, h5⟩
      · rename_i hb
        obtain ⟨αs, h3, h4, h5⟩ := ih _ h
        exact ⟨.no :: αs, by simp [h3], ⟨by unfold StepA; rw [hg]; exact .inr ⟨hb, rfl⟩, h4⟩, h5⟩
      · exact h.elim
theorem Chain.get {base : Nat} {m : List (Nat × List C)} {l : List Oper} : ∀ {os : List Oper} {s : List (Nat × A)} {αs : List A}, Chain e base S0 m l os s αs → ∀ (i : Nat) (o : Oper), os[i]? = some o → ∃ α, αs[i]? = some α ∧ StepA e base S0 m l o (after s (os.take i) (αs.take i)) α
  | [], _, _, _, i, o, h => by simp at h
  | p :: os, s, [], h, _, _, _ => by simp [Chain] at h
  | p :: os, s, α :: αs, h, 0, o, ho => by
    simp at ho
    subst ho
    exact ⟨α, by simp, by simpa [after] using h.1⟩
  | p :: os, s, α :: αs, h, i + 1, o, ho => by
    obtain ⟨β, h1, h2⟩ := Chain.get h.2 i o (by simpa using ho)
    exact ⟨β, by simpa using h1, by simpa [after] using h2⟩
/-- What lies in a slot after some operations. -/
theorem gs_after_out {t : Nat} : ∀ (os : List Oper) (αs : List A) (s : List (Nat × A)), (∀ o ∈ os, o.dst ≠ some t) → gs (after s os αs) t = gs s t
  | [], αs, s, _ => by cases αs <;> rfl
  | o :: os, [], s, _ => rfl
  | o :: os, α :: αs, s, h => by
    simp only [after]
    rw [gs_after_out os αs _ (fun p hp => h p (by simp [hp]))]
    cases hd : o.dst with
    | none => rfl
    | some d =>
      have : t ≠ d := fun e => h o (by simp) (by rw [hd, e])
      simp [setA, gs, this]
theorem gs_after_in {t : Nat} : ∀ (os : List Oper) (αs : List A) (s : List (Nat × A)) (i : Nat) (o : Oper) (α : A), os[i]? = some o → αs[i]? = some α → o.dst = some t → (∀ (j : Nat) (p : Oper), j ≠ i → os[j]? = some p → p.dst ≠ some t) → gs (after s os αs) t = α
  | [], _, _, _, _, _, h, _, _, _ => by simp at h
  | _ :: _, [], _, _, _, _, _, h, _, _ => by simp at h
  | p :: os, β :: αs, s, 0, o, α, h1, h2, h3, h4 => by
    simp at h1 h2
    subst h1 h2
    simp only [after]
    rw [gs_after_out os αs _ (fun q hq => by obtain ⟨j, hj⟩ := List.mem_iff_getElem?.1 hq; exact h4 (j + 1) q (by omega) (by simpa using hj))]
    simp [h3, setA, gs]
  | p :: os, β :: αs, s, i + 1, o, α, h1, h2, h3, h4 => by
    simp only [after]
    exact gs_after_in os αs _ i o α (by simpa using h1) (by simpa using h2) h3 (fun j q hj hq => h4 (j + 1) q (by omega) (by simpa using hq))

structure InvA (e : Env) (w0 : World) (S0 : Nat → Prop) (nt : Nat) (m : List (Nat × List C)) (ops : Array Oper) (n : Nat) (s : List (Nat × A)) (αs : List A) (B : Nat → Nat) (listed : Array Bool) (a : Act) (w : World) (S : Nat → Prop) : Prop where
  head : HeadInv .any ops n listed
  size : a.tmps.size = nt
  defers : a.defers = []
  cls : Cls e w0.heap.size S0 m w S B
  kept : Kept e.E w0.heap.size w0 w
  out : ∀ t, (∀ (i : Nat) (o : Oper), i < n → ops[i]? = some o → o.dst ≠ some t) → ARel w S B (gs s t) (a.tmps.getD t undef)
  done : ∀ (i : Nat) (o : Oper) (d : Nat) (α : A), i < n → listed.getD i false = true → ops[i]? = some o → o.dst = some d → αs[i]? = some α → ARel w S B α (a.tmps.getD d undef)

variable {m : List (Nat × List C)} {s : List (Nat × A)} {αs : List A} {B : Nat → Nat}
/-- Where an operation of the head comes up, its operands are what they are in the order of the text. -/
theorem InvA.operand (hH : headB ops n = true) (hn : n ≤ ops.size) {listed : Array Bool} {a : Act} {w : World} {S : Nat → Prop} (hI : InvA e w0 S0 nt m ops n s αs B listed a w S) (hal : αs.length = n) {i : Nat} {o : Oper} {d : Nat} (hA : HeadAt ops n i o d) (hi : i < n)
    (hall : ∀ e ∈ o.after, Region.binds .any e = true → listed.getD e.on false = true) {t : Nat} (hw : ∀ (j : Nat) (p : Oper), j < n → ops[j]? = some p → p.dst = some t → Region.waitsFor .any ops i j = true) :
    ARel w S B (gs (after s (ops.toList.take i) (αs.take i)) t) (a.tmps.getD t undef) := by
  by_cases hex : ∃ (j : Nat) (p : Oper), j < n ∧ ops[j]? = some p ∧ p.dst = some t
  · obtain ⟨j, p, hj, hp, hpt⟩ := hex
    obtain ⟨e', he', hbe, hon⟩ := hA.waits (hw j p hj hp hpt)
    have hl := hall e' he' hbe
    rw [hon] at hl
    have hji := hA.back e' he' hbe
    rw [hon] at hji
    obtain ⟨α, hα⟩ : ∃ α, αs[j]? = some α := ⟨αs[j], List.getElem?_eq_getElem (by omega)⟩
    obtain ⟨p', d', hP⟩ := headB.get hH hj
    have hpp : p' = p := by have := hP.op; rw [hp] at this; injection this with this; exact this.symm
    subst hpp
    have hdt : d' = t := by have := hP.dst; rw [hpt] at this; injection this with this; exact this.symm
    subst hdt
    rw [gs_after_in (ops.toList.take i) (αs.take i) s j p' α (by rw [List.getElem?_take, if_pos hji]; simpa using hp) (by rw [List.getElem?_take, if_pos hji]; exact hα) hpt (fun k q hk hq => by
      rw [List.getElem?_take] at hq
      split at hq
      · exact (hP.dep k q (by omega) (by simpa using hq)).1 hk
      · cases hq)]
    exact hI.done j p' d' α hj hl hp hpt hα
  · have hno : ∀ (j : Nat) (p : Oper), j < n → ops[j]? = some p → p.dst ≠ some t := fun j p hj hp hd => hex ⟨j, p, hj, hp, hd⟩
    rw [gs_after_out _ _ _ (fun p hp => by
      obtain ⟨j, hj⟩ := List.mem_iff_getElem?.1 hp
      rw [List.getElem?_take] at hj
      split at hj
      · exact hno j p (by omega) (by simpa using hj)
      · cases hj)]
    exact hI.out t hno
theorem InvA.put (hH : headB ops n = true) {listed : Array Bool} {a : Act} {w w' : World} {S S' : Nat → Prop} (hI : InvA e w0 S0 nt m ops n s αs B listed a w S) {i : Nat} {o : Oper} {d : Nat} {α : A} {v : Value} (hA : HeadAt ops n i o d) (hi : i < n) (hr : i ∈ Region.ready .any ops listed) (hdn : d < nt)
    (hα : αs[i]? = some α) (hS : ∀ b, S b → S' b) (hC : Cls e w0.heap.size S0 m w' S' B) (hk : Kept e.E w.heap.size w w') (hv : ARel w' S' B α v) :
    InvA e w0 S0 nt m ops n s αs B (listed.setIfInBounds i true) (a.put o.dst v) w' S' := by
  have hlt : d < a.tmps.size := by rw [hI.size]; exact hdn
  rw [hA.dst]
  refine ⟨hI.head.set hr hi, by simp [Act.put, hI.size], by simp [Act.put, hI.defers], hC, hI.kept.trans (hk.mono hI.cls.bsz), fun t ht => ?_, fun j p dj β hj hl hp hdj hβ => ?_⟩
  · rw [getD_put hlt]
    have : t ≠ d := fun eq => ht i o hi hA.op (by rw [hA.dst, eq])
    rw [if_neg this]
    exact (hI.out t ht).keep hk.size (hI.cls.cell hk) hS
  · rw [getD_put hlt]
    by_cases hji : j = i
    · subst hji
      rw [hA.op] at hp
      injection hp with hp
      subst hp
      rw [hA.dst] at hdj
      injection hdj with hdj
      subst hdj
      rw [hα] at hβ
      injection hβ with hβ
      subst hβ
      simpa using hv
    · have hne : dj ≠ d := fun eq => (hA.dep j p hj hp).1 hji (by rw [hdj, eq])
      rw [if_neg hne]
      rw [getD_set_ne false (Ne.symm hji)] at hl
      exact (hI.done j p dj β hj hl hp hdj hβ).keep hk.size (hI.cls.cell hk) hS

theorem first_readyA (hH : headB ops n = true) {listed : Array Bool} (hh : HeadInv .any ops n listed) {i : Nat} (hi : i < n) (hun : listed.getD i true = false) : Region.ready .any ops listed ≠ [] := by
  induction i using Nat.strongRecOn with
  | _ i ih =>
    obtain ⟨o, d, hA⟩ := headB.get hH hi
    by_cases hall : ∀ e ∈ o.after, Region.binds .any e = true → listed.getD e.on false = true
    · intro h0
      have := mem_ready.2 ⟨hun, o, hA.op, hall⟩
      rw [h0] at this
      cases this
    · simp only [Classical.not_forall] at hall
      obtain ⟨e, he, hb, hl⟩ := hall
      have hlt := hA.back e he hb
      have hs : e.on < listed.size := by rw [hh.size]; have := (Array.getElem?_eq_some_iff.1 hA.op).1; omega
      exact ih e.on hlt (by omega) (by rw [getD_ftt hs]; simpa using hl)

theorem wpAny_headA (he : e.Ok) (hH : headB ops n = true) (hn : n ≤ ops.size) (hs : n < ops.size → Region.sinkB .any ops n = true ∧ Region.chainB .any ops n = true) (hsq : Region.seqB .any ops (ops.size - n) n (headArr ops.size n) = true)
    (hsz : ∀ (i : Nat) (o : Oper) (d : Nat), i < n → ops[i]? = some o → o.dst = some d → d < nt) (hal : αs.length = n) (hch : Chain e w0.heap.size S0 m ops.toList (ops.toList.take n) s αs) {Q : Exit → Act → World → Prop}
    (hend : ∀ listed a w S, InvA e w0 S0 nt m ops n s αs B listed a w S → (∀ i, i < n → listed.getD i false = true) → wpList e.P ops Q (ops.toList.drop n) a w) :
    ∀ (k : Nat) (listed : Array Bool) (a : Act) (w : World) (S : Nat → Prop), InvA e w0 S0 nt m ops n s αs B listed a w S → (List.range n).countP (fun i => !listed.getD i true) = k → wpAny e.P .any ops Q (k + (ops.size - n)) listed a w
  | 0, listed, a, w, S, hI, hc => by
    have hall : ∀ i, i < n → listed.getD i true = true := fun i hi => by
      have := List.countP_eq_zero.1 hc i (List.mem_range.2 hi)
      simpa using this
    have heq := listed_eq hI.head hn hall
    have hdl : (ops.toList.drop n).length = ops.size - n := by simp
    have hE := hend listed a w S hI (fun i hi => by
      have hl : i < listed.size := by rw [hI.head.size]; omega
      rw [← getD_ftt hl]; exact hall i hi)
    have := wpAny_of_seq (md := .any) (Q' := Q) (ops.toList.drop n) n listed a w (fun j => by simp [List.getElem?_drop]) (by rw [hdl, heq]; exact hsq) hE
    rw [hdl] at this
    simpa using this
  | k + 1, listed, a, w, S, hI, hc => by
    obtain ⟨i0, hi0, hu0⟩ : ∃ i, i < n ∧ listed.getD i true = false := by
      have : 0 < (List.range n).countP (fun i => !listed.getD i true) := by omega
      obtain ⟨i, hi, hp⟩ := List.countP_pos_iff.1 this
      exact ⟨i, List.mem_range.1 hi, by simpa using hp⟩
    rw [show k + 1 + (ops.size - n) = (k + (ops.size - n)) + 1 by omega]
    refine ⟨fun h0 => absurd h0 (first_readyA hH hI.head hi0 hu0), fun i hr => ?_⟩
    obtain ⟨hun, oi, hoi, hall⟩ := mem_ready.1 hr
    have hin : i < n := by
      rcases Nat.lt_or_ge i n with h | h
      · exact h
      · have hns : n < ops.size := Nat.lt_of_le_of_lt h (Array.getElem?_eq_some_iff.1 hoi).1
        exact absurd hr (tail_waits (hs hns).1 (hs hns).2 hns hI.head _ i0 rfl hi0 hu0 i h)
    obtain ⟨o, d, hA⟩ := headB.get hH hin
    have hoo : oi = o := by have := hA.op; rw [hoi] at this; injection this
    subst hoo
    have hls : i < listed.size := by rw [hI.head.size]; exact (Array.getElem?_eq_some_iff.1 hoi).1
    obtain ⟨α, hα, hst⟩ := hch.get i oi (by rw [List.getElem?_take, if_pos hin]; simpa using hoi)
    have htk : (ops.toList.take n).take i = ops.toList.take i := by rw [List.take_take, Nat.min_eq_left (by omega)]
    rw [htk] at hst
    have hdn := hsz i oi d hin hoi hA.dst
    have hcount : (List.range n).countP (fun j => !(listed.setIfInBounds i true).getD j true) = k := by
      have h1 : (List.range n).countP (fun j => !(listed.setIfInBounds i true).getD j true) + 1 = (List.range n).countP (fun j => !listed.getD j true) := by
        have hperm := List.perm_cons_erase (List.mem_range.2 hin)
        rw [hperm.countP_eq, hperm.countP_eq, List.countP_cons, List.countP_cons]
        have hcong : ((List.range n).erase i).countP (fun j => !(listed.setIfInBounds i true).getD j true) = ((List.range n).erase i).countP (fun j => !listed.getD j true) := by
          refine List.countP_congr fun j hj => ?_
          have hne : j ≠ i := fun e => by
            subst e
            exact List.Nodup.not_mem_erase (List.nodup_range) hj
          rw [getD_set_ne true (Ne.symm hne)]
        rw [hcong, hun]
        simp [hls]
      omega
    have hop : ∀ x ∈ oi.op.operands, ARel w S B (evA (after s (ops.toList.take i) (αs.take i)) x) (a.eval x) := fun x hx => by
      cases x with
      | tmp t =>
        exact hI.operand hH hn hal hA hin hall (fun j p hj hp hpt => (hA.dep j p hj hp).2 t (List.mem_filterMap.2 ⟨.tmp t, by simpa using hx, rfl⟩) hpt)
      | const v =>
        simp only [evA, Act.eval, ARel, DRel]
        unfold toC
        split
        · simp only [Rep]; exact ⟨none, 0, 0, rfl, rfl, Nat.le_refl _, by decide, fun h => absurd h (by decide)⟩
        · simp [Rep]
      | func f => simp [evA, Act.eval, ARel, DRel, Rep]
      | global g => trivial
    have go : GivesA e w0.heap.size S0 m oi (evA (after s (ops.toList.take i) (αs.take i))) α → oi.wp e.P a w (wpAny e.P .any ops Q (k + (ops.size - n)) (listed.setIfInBounds i true)) Q := fun hG =>
      gives_wp (hG w S B a.eval hI.cls hop) fun v w' ⟨S', hS, hC, hk, hv⟩ =>
        wpAny_headA he hH hn hs hsq hsz hal hch hend k _ _ _ S' (hI.put hH hA hin hr hdn hα hS hC hk hv) hcount
    unfold wpOp
    simp only [hoi]
    unfold StepA at hst
    cases hg : oi.guard with
    | none =>
      rw [hg] at hst
      have hwt : Region.wanted oi (yielded ops a.tmps) = true := by simp [Region.wanted, hg]
      rw [if_pos hwt]
      exact .inl (go hst)
    | some jw =>
      obtain ⟨j, want⟩ := jw
      rw [hg] at hst
      obtain ⟨hjn, hjw⟩ := hA.guard j want hg
      have hrelD : ∀ dj, ((ops[j]?).bind (·.dst)) = some dj → ARel w S B (gs (after s (ops.toList.take i) (αs.take i)) dj) (a.tmps.getD dj undef) := fun dj hdj => hI.operand hH hn hal hA hin hall (t := dj) (fun j' p hj' hp hpt => by
        obtain ⟨p0, d0, hP0⟩ := headB.get hH hjn
        have hd0 : d0 = dj := by have := hdj; rw [hP0.op] at this; simp [hP0.dst] at this; exact this
        by_cases hjj : j' = j
        · rw [hjj]; exact hjw
        · exact absurd (by rw [hpt, hd0]) ((hP0.dep j' p hj' hp).1 hjj))
      rcases hst with ⟨b, hb1, hb2⟩ | ⟨hb1, hb2⟩
      rotate_left
      · simp only [Option.map_eq_some_iff] at hb1
        obtain ⟨dj, hd1, hd2⟩ := hb1
        have hdj : ((ops[j]?).bind (·.dst)) = some dj := by simpa [guardSlot] using hd1
        have hrel := hrelD dj hdj
        rw [hd2] at hrel
        rw [wanted_no hg hdj hrel]
        subst hb2
        simp only [Bool.false_eq_true, if_false]
        exact wpAny_headA he hH hn hs hsq hsz hal hch hend k _ _ _ S (hI.put hH hA hin hr hdn hα (fun _ h => h) hI.cls (Kept.refl _ _ _) rfl) hcount
      simp only [Option.map_eq_some_iff] at hb1
      obtain ⟨dj, hd1, hd2⟩ := hb1
      have hdj : ((ops[j]?).bind (·.dst)) = some dj := by simpa [guardSlot] using hd1
      have hrel := hrelD dj hdj
      rw [hd2] at hrel
      have h4 := getD_bool hrel.bool
      have hwt : Region.wanted oi (yielded ops a.tmps) = decide (b = want) := by
        have h6 : yielded ops a.tmps j = some b := by unfold yielded; rw [hdj]; simp only [Option.bind_some, h4]
        simp only [Region.wanted, hg, h6]
        cases b <;> cases want <;> rfl
      rw [hwt]
      by_cases hbw : b = want
      · rw [if_pos hbw] at hb2
        simp only [hbw, decide_true, if_true]
        exact .inl (go hb2)
      · rw [if_neg hbw] at hb2
        subst hb2
        simp only [hbw, decide_false, Bool.false_eq_true, if_false]
        exact wpAny_headA he hH hn hs hsq hsz hal hch hend k _ _ _ S (hI.put hH hA hin hr hdn hα (fun _ h => h) hI.cls (Kept.refl _ _ _) rfl) hcount
end
end Go.Proofs.Ytlhbdhdaecchoaa
