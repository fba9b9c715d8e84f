/-
  Part of a proof: Region, Order, Decls, Axioms, Sgn, LInts, LAlgebra, Alg0, Qm, Qm2, Qm3, Qm4.
-/
import Derived.Test.YtpbikjkjfojjiaaGreatBBase0
import Derived.StillTail
import Derived.Deep.DeepCutAuto
import Derived.Lib.QuietBelow
import Derived.Test.YtpbikjkjfojjiaaGreatRows
import Derived.Deep.RegionHeld3
import Derived.Great.BuildSlice
set_option linter.unusedSimpArgs false
set_option linter.unusedVariables false
namespace Go.Proofs.YtpbikjkjfojjiaaGreat
open Go.RowKit
/-- What an operation gives, from the operands' values: a value and a world. -/
def gives (P : Program) (o : Oper) (ρ : Operand → Value) (w : World) (R : Value → World → Prop) : Prop :=
  match (execOp ρ o).run P w with
  | .ok (.value v) w' => R v w'
  | .ok .skip w' => R undef w'
  | .ok (.enter f args) w' => Calls P f args w' (fun e w'' => ∃ v, e = .returned v ∧ R v w'')
  | _ => False
theorem gives_wp {P : Program} {o : Oper} {a : Act} {w : World} {R : Value → World → Prop} {K : Act → World → Prop} {Q : Exit → Act → World → Prop} (h : gives P o a.eval w R) (hK : ∀ v w', R v w' → K (a.put o.dst v) w') : o.wp P a w K Q := by
  unfold gives at h
  unfold Oper.wp
  generalize (execOp a.eval o).run P w = r at *
  cases r with
  | ok n w' =>
    cases n <;> simp only at h <;> simp only [Oper.upon]
    case value u => exact hK _ _ h
    case skip => exact hK _ _ h
    case enter f args => exact h.mono fun e w'' ⟨v, he, hr⟩ => by subst he; exact hK _ _ hr
  | halt x w' => simp only at h
def slotsOf (o : Oper) : List Nat := o.op.operands.toList.filterMap fun | .tmp t => some t | _ => none
abbrev Says := Value → List Value → Nat → Nat → World → Prop
/-- The first n operations: none is guarded, each has a place of its own, and looks at no other's place but of one that it waits for. -/
def depB (ops : Array Oper) (n : Nat) : Bool :=
  (List.range n).all fun i => match ops[i]? with
    | none => false
    | some o => o.guard.isNone && o.dst.isSome && o.after.all (fun e => !Region.binds .any e || decide (e.on < i)) &&
      (List.range n).all fun j => match ops[j]? with
        | none => false
        | some p => (j == i || p.dst != o.dst) && (!(slotsOf o).any (fun t => p.dst == some t) || Region.waitsFor .any ops i j)
/-- The values of the slots: in the places of the operations those that were given, elsewhere the old ones. -/
def putAll (a : Act) : List (Nat × Value) → Act
  | [] => a
  | (d, v) :: r => putAll (a.put (some d) v) r
structure Inv (P : Program) (ops : Array Oper) (n : Nat) (Gs : List Says) (C : World → Prop) (a0 : Act) (w0 : World) (listed : Array Bool) (a : Act) (w : World) (lo hi : Nat → Nat) : Prop where
  head : HeadInv .any ops n listed
  size : a.tmps.size = a0.tmps.size
  defers : a.defers = a0.defers
  out : ∀ t, (∀ (i : Nat) (o : Oper), i < n → ops[i]? = some o → o.dst ≠ some t) → a.tmps.getD t undef = a0.tmps.getD t undef
  cls : C w
  below : Below w0.heap.size w0 w
  done : ∀ (i : Nat) (o : Oper) (d : Nat) (g : Says), i < n → listed.getD i false = true → ops[i]? = some o → o.dst = some d → Gs[i]? = some g →
    g (a.tmps.getD d undef) ((slotsOf o).map (fun t => a.tmps.getD t undef)) (lo i) (hi i) w ∧ w0.heap.size ≤ lo i ∧ lo i ≤ hi i ∧ hi i ≤ w.heap.size
  apart : ∀ i j, i < n → j < n → i ≠ j → listed.getD i false = true → listed.getD j false = true → hi i ≤ lo j ∨ hi j ≤ lo i
/-- One operation: from what is said of its operands, what it gives. -/
def StepD (P : Program) (ops : Array Oper) (n : Nat) (Gs : List Says) (C : World → Prop) (a0 : Act) (o : Oper) (g : Says) : Prop :=
  ∀ (a : Act) (w : World), C w →
    (∀ t, (∀ (i : Nat) (o' : Oper), i < n → ops[i]? = some o' → o'.dst ≠ some t) → a.tmps.getD t undef = a0.tmps.getD t undef) →
    (∀ (i : Nat) (o' : Oper) (d : Nat) (g' : Says), i < n → ops[i]? = some o' → o'.dst = some d → d ∈ slotsOf o → Gs[i]? = some g' → ∃ lo hi, g' (a.tmps.getD d undef) ((slotsOf o').map (fun t => a.tmps.getD t undef)) lo hi w) →
    gives P o a.eval w (fun v w' => C w' ∧ Below w.heap.size w w' ∧ g v ((slotsOf o).map (fun t => a.tmps.getD t undef)) w.heap.size w'.heap.size w')
theorem getD_put_self {a : Act} {d : Nat} {v : Value} (h : d < a.tmps.size) : (a.put (some d) v).tmps.getD d undef = v := by simp [Act.put, h]
theorem getD_put_ne {a : Act} {d t : Nat} {v : Value} (h : d ≠ t) : (a.put (some d) v).tmps.getD t undef = a.tmps.getD t undef := by simp [Act.put, Array.getElem?_setIfInBounds_ne h]
theorem getD_ftt {listed : Array Bool} {i : Nat} (h : i < listed.size) : listed.getD i true = listed.getD i false := by simp [h]
section
variable {P : Program} {ops : Array Oper} {n : Nat} {Gs : List Says} {C : World → Prop} {a0 : Act} {w0 : World}
theorem depB.get (h : depB ops n = true) {i : Nat} (hi : i < n) : ∃ o d, ops[i]? = some o ∧ o.guard = none ∧ o.dst = some d ∧ (∀ e ∈ o.after, Region.binds .any e = true → e.on < i) ∧
    ∀ (j : Nat) (p : Oper), j < n → ops[j]? = some p → (j ≠ i → p.dst ≠ some d) ∧ (∀ t ∈ slotsOf o, p.dst = some t → Region.waitsFor .any ops i j = true) := by
  have h1 := List.all_eq_true.1 h i (List.mem_range.2 hi)
  cases ho : ops[i]? with
  | none => rw [ho] at h1; simp at h1
  | some o =>
    rw [ho] at h1
    simp only [Bool.and_eq_true] at h1
    obtain ⟨⟨⟨h1, h2⟩, h3⟩, h4⟩ := h1
    obtain ⟨d, hd⟩ := Option.isSome_iff_exists.1 h2
    refine ⟨o, d, rfl, by simpa using h1, hd, fun e he hb => ?_, fun j p hj hp => ?_⟩
    · have := Array.all_eq_true'.1 h3 e he
      simpa [hb] using this
    · have h5 := List.all_eq_true.1 h4 j (List.mem_range.2 hj)
      rw [hp] at h5
      simp only [Bool.and_eq_true, Bool.or_eq_true, beq_iff_eq, bne_iff_ne, ne_eq, Bool.not_eq_true'] at h5
      refine ⟨fun hne hpd => ?_, fun t ht hpt => ?_⟩
      · rcases h5.1 with h | h
        · exact hne h
        · exact h (hpd.trans hd.symm)
      · rcases h5.2 with h | h
        · have := List.any_eq_false.1 h t ht
          simp [hpt] at this
        · exact h
theorem Inv.step (hD : depB ops n = true) (hlen : Gs.length = n) (hsz : ∀ (i : Nat) (o : Oper) (d : Nat), i < n → ops[i]? = some o → o.dst = some d → d < a0.tmps.size)
    (hG : ∀ (i : Nat) (g : Says), Gs[i]? = some g → ∀ v ds lo hi w w', Below w.heap.size w w' → g v ds lo hi w → g v ds lo hi w')
    {listed : Array Bool} {a : Act} {w w' : World} {lo hi : Nat → Nat} {i : Nat} {o : Oper} {d : Nat} {g : Says} {v : Value} (hI : Inv P ops n Gs C a0 w0 listed a w lo hi) (hi' : i < n) (ho : ops[i]? = some o) (hd : o.dst = some d) (hg : Gs[i]? = some g)
    (hr : i ∈ Region.ready .any ops listed) (hC : C w') (hb : Below w.heap.size w w') (hv : g v ((slotsOf o).map (fun t => a.tmps.getD t undef)) w.heap.size w'.heap.size w') :
    Inv P ops n Gs C a0 w0 (listed.setIfInBounds i true) (a.put o.dst v) w' (fun j => if j = i then w.heap.size else lo j) (fun j => if j = i then w'.heap.size else hi j) := by
  obtain ⟨hun, _, _, hall⟩ := mem_ready.1 hr
  obtain ⟨o2, d2, ho2, _, hd2, _, hdep⟩ := depB.get hD hi'
  rw [ho] at ho2
  injection ho2 with ho2
  subst ho2
  rw [hd] at hd2
  injection hd2 with hd2
  subst hd2
  have hdl : d < a.tmps.size := by rw [hI.size]; exact hsz i o d hi' ho hd
  have hls : i < listed.size := by
    rw [hI.head.size]; exact (Array.getElem?_eq_some_iff.1 ho).1
  rw [hd]
  have old : ∀ j, j ≠ i → (listed.setIfInBounds i true).getD j false = listed.getD j false := fun j hj => getD_set_ne false (Ne.symm hj)
  -- the operands of what is listed do not lie in the new place
  have safe : ∀ (j : Nat) (p : Oper), j < n → ops[j]? = some p → (listed.getD j false = true ∨ j = i) → ∀ t ∈ slotsOf p, d ≠ t := by
    intro j p hj hp hl t ht e
    subst e
    obtain ⟨p2, _, hp2, _, _, hback, hdep2⟩ := depB.get hD hj
    rw [hp] at hp2
    injection hp2 with hp2
    subst hp2
    have hw := (hdep2 i o hi' ho).2 d ht hd
    obtain ⟨p3, hp3, e, he, hbe, hon⟩ := Region.waitsFor_spec hw
    rw [hp] at hp3
    injection hp3 with hp3
    subst hp3
    rcases hl with hl | rfl
    · have := hI.head.closed j p hp hl e he hbe
      rw [hon, ← getD_ftt hls, hun] at this
      cases this
    · have := hback e he hbe
      omega
  have same : ∀ (j : Nat) (p : Oper), j < n → ops[j]? = some p → (listed.getD j false = true ∨ j = i) → (slotsOf p).map (fun t => (a.put (some d) v).tmps.getD t undef) = (slotsOf p).map (fun t => a.tmps.getD t undef) := fun j p hj hp hl =>
    List.map_congr_left fun t ht => getD_put_ne (safe j p hj hp hl t ht)
  have hwz := hb.size
  refine ⟨hI.head.set hr hi', by simp [Act.put, hI.size], by simp [Act.put, hI.defers], fun t ht => ?_, hC, hI.below.trans (hb.mono hI.below.size), fun j p dj gj hj hl hp hdj hgj => ?_, fun j k hj hk hne hlj hlk => ?_⟩
  · rw [getD_put_ne (fun e => ht i o hi' ho (by rw [hd, e]))]
    exact hI.out t ht
  · by_cases hji : j = i
    · subst hji
      rw [ho] at hp
      injection hp with hp
      subst hp
      rw [hd] at hdj
      injection hdj with hdj
      subst hdj
      rw [hg] at hgj
      injection hgj with hgj
      subst hgj
      rw [same j o hj ho (.inr rfl), getD_put_self hdl]
      simp only [if_true]
      exact ⟨hv, hI.below.size, hwz, Nat.le_refl _⟩
    · rw [old j hji] at hl
      simp only [hji, if_false]
      obtain ⟨h1, h2, h3, h4⟩ := hI.done j p dj gj hj hl hp hdj hgj
      have hne : d ≠ dj := fun e => (hdep j p hj hp).1 hji (by rw [hdj, e])
      rw [same j p hj hp (.inl hl), getD_put_ne hne]
      exact ⟨hG j gj hgj _ _ _ _ w w' hb h1, h2, h3, by omega⟩
  · by_cases hji : j = i
    · by_cases hki : k = i
      · omega
      · rw [old k hki] at hlk
        simp only [hji, hki, if_true, if_false]
        obtain ⟨p, dk, hp, _, hdk, _, _⟩ := depB.get hD hk
        have hgk : Gs[k]? = some Gs[k] := List.getElem?_eq_getElem (by omega)
        have := hI.done k p dk _ hk hlk hp hdk hgk
        omega
    · rw [old j hji] at hlj
      by_cases hki : k = i
      · simp only [hji, hki, if_true, if_false]
        obtain ⟨p, dk, hp, _, hdk, _, _⟩ := depB.get hD hj
        have hgk : Gs[j]? = some Gs[j] := List.getElem?_eq_getElem (by omega)
        have := hI.done j p dk _ hj hlj hp hdk hgk
        omega
      · rw [old k hki] at hlk
        simp only [hji, hki, if_false]
        exact hI.apart j k hj hk hne hlj hlk
/-- Of the operations that are not yet listed, the first can come up. -/
theorem first_ready (hD : depB ops n = true) {listed : Array Bool} (hh : HeadInv .any ops n listed) {i : Nat} (hi : i < n) (hun : listed.getD i true = false) : Region.ready .any ops listed ≠ [] := by
  induction i using Nat.strongRecOn with
  | _ i ih =>
    obtain ⟨o, d, ho, _, _, hback, _⟩ := depB.get hD hi
    by_cases hall : ∀ e ∈ o.after, Region.binds .any e = true → listed.getD e.on false = true
    · intro h0
      have := mem_ready.2 ⟨hun, o, ho, hall⟩
      rw [h0] at this
      cases this
    · simp only [Classical.not_forall] at hall
      obtain ⟨e, he, hb, hl⟩ := hall
      have hlt := hback e he hb
      have hs : e.on < listed.size := by rw [hh.size]; have := (Array.getElem?_eq_some_iff.1 ho).1; omega
      exact ih e.on hlt (by omega) (by rw [getD_ftt hs]; simpa using hl)
def headArr (m n : Nat) : Array Bool := (Array.range m).map fun i => decide (i < n)
theorem listed_eq {listed : Array Bool} (hh : HeadInv .any ops n listed) (hn : n ≤ ops.size) (h : ∀ i, i < n → listed.getD i true = true) : listed = headArr ops.size n := by
  apply Array.ext
  · simp [headArr, hh.size]
  · intro i h1 h2
    have e : listed[i] = listed.getD i true := by simp [h1]
    rw [e]
    by_cases hi : i < n
    · rw [h i hi]; simp [headArr, hi]
    · rw [hh.tail i (by omega) (by rw [← hh.size]; exact h1)]; simp [headArr, hi]
theorem wpAny_head (hD : depB ops n = true) (hlen : Gs.length = n) (hn : n ≤ ops.size) (hs : n < ops.size → Region.sinkB .any ops n = true ∧ Region.chainB .any ops n = true) (hsq : Region.seqB .any ops (ops.size - n) n (headArr ops.size n) = true)
    (hsz : ∀ (i : Nat) (o : Oper) (d : Nat), i < n → ops[i]? = some o → o.dst = some d → d < a0.tmps.size)
    (hG : ∀ (i : Nat) (g : Says), Gs[i]? = some g → ∀ v ds lo hi w w', Below w.heap.size w w' → g v ds lo hi w → g v ds lo hi w')
    (hst : ∀ (i : Nat) (o : Oper) (g : Says), i < n → ops[i]? = some o → Gs[i]? = some g → StepD P ops n Gs C a0 o g) {Q : Exit → Act → World → Prop}
    (hend : ∀ listed a w lo hi, Inv P ops n Gs C a0 w0 listed a w lo hi → (∀ i, i < n → listed.getD i false = true) → wpList P ops Q (ops.toList.drop n) a w) :
    ∀ (m : Nat) (listed : Array Bool) (a : Act) (w : World) (lo hi : Nat → Nat), Inv P ops n Gs C a0 w0 listed a w lo hi → (List.range n).countP (fun i => !listed.getD i true) = m → wpAny P .any ops Q (m + (ops.size - n)) listed a w
  | 0, listed, a, w, lo, hi, hI, hc => by
    have hall : ∀ i, i < n → listed.getD i true = true := fun i hi => by
      have := List.countP_eq_zero.1 hc i (List.mem_range.2 hi)
      simpa using this
    have he := listed_eq hI.head hn hall
    have hdl : (ops.toList.drop n).length = ops.size - n := by simp
    have hE := hend listed a w lo hi hI (fun i hi => by
      have hl : i < listed.size := by rw [hI.head.size]; omega
      rw [← getD_ftt hl]; exact hall i hi)
    have := wpAny_of_seq (md := .any) (Q' := Q) (ops.toList.drop n) n listed a w (fun j => by simp [List.getElem?_drop]) (by rw [hdl, he]; exact hsq) hE
    rw [hdl] at this
    simpa using this
  | m + 1, listed, a, w, lo, hi, hI, hc => by
    obtain ⟨i0, hi0, hu0⟩ : ∃ i, i < n ∧ listed.getD i true = false := by
      have : 0 < (List.range n).countP (fun i => !listed.getD i true) := by omega
      obtain ⟨i, hi, hp⟩ := List.countP_pos_iff.1 this
      exact ⟨i, List.mem_range.1 hi, by simpa using hp⟩
    rw [show m + 1 + (ops.size - n) = (m + (ops.size - n)) + 1 by omega]
    refine ⟨fun h0 => absurd h0 (first_ready hD hI.head hi0 hu0), fun i hr => ?_⟩
    obtain ⟨hun, oi, hoi, hall⟩ := mem_ready.1 hr
    have hin : i < n := by
      rcases Nat.lt_or_ge i n with h | h
      · exact h
      · have hns : n < ops.size := Nat.lt_of_le_of_lt h (Array.getElem?_eq_some_iff.1 hoi).1
        exact absurd hr (tail_waits (hs hns).1 (hs hns).2 hns hI.head _ i0 rfl hi0 hu0 i h)
    obtain ⟨o, d, ho, hgd, hd, _, _⟩ := depB.get hD hin
    have hg : Gs[i]? = some Gs[i] := List.getElem?_eq_getElem (by omega)
    have hls : i < listed.size := by rw [hI.head.size]; exact (Array.getElem?_eq_some_iff.1 ho).1
    have hS := hst i o _ hin ho hg a w hI.cls hI.out (fun j o' d' g' hj ho' hd' hmem hg' => by
      obtain ⟨o2, _, ho2, _, _, _, hdep⟩ := depB.get hD hin
      rw [ho] at ho2
      injection ho2 with ho2
      subst ho2
      have hw := (hdep j o' hj ho').2 d' hmem hd'
      obtain ⟨p3, hp3, e, he, hbe, hon⟩ := Region.waitsFor_spec hw
      rw [hoi] at hp3
      injection hp3 with hp3
      subst hp3
      have hl := hall e he hbe
      rw [hon] at hl
      exact ⟨_, _, (hI.done j o' d' g' hj hl ho' hd' hg').1⟩)
    unfold wpOp
    simp only [ho]
    have hwt : Region.wanted o (yielded ops a.tmps) = true := by simp [Region.wanted, hgd]
    rw [if_pos hwt]
    refine .inl (gives_wp hS fun v w' ⟨hC, hb, hv⟩ => ?_)
    refine wpAny_head hD hlen hn hs hsq hsz hG hst hend m _ _ _ _ _ (hI.step hD hlen hsz hG hin ho hd hg hr hC hb hv) ?_
    have h1 : (List.range n).countP (fun j => !(listed.setIfInBounds i true).getD j true) + 1 = (List.range n).countP (fun j => !listed.getD j true) := by
      have hperm := List.perm_cons_erase (List.mem_range.2 hin)
      rw [hperm.countP_eq, hperm.countP_eq, List.countP_cons, List.countP_cons]
      have hcong : ((List.range n).erase i).countP (fun j => !(listed.setIfInBounds i true).getD j true) = ((List.range n).erase i).countP (fun j => !listed.getD j true) := by
        refine List.countP_congr fun j hj => ?_
        have hne : j ≠ i := fun e => by
          subst e
          exact List.Nodup.not_mem_erase (List.nodup_range) hj
        rw [getD_set_ne true (Ne.symm hne)]
      rw [hcong, hun]
      simp [hls]
    omega
/-- All the facts on the operations' places, once they are done. -/
structure DoneD (ops : Array Oper) (n : Nat) (Gs : List Says) (w0 : World) (f : Nat → Value) (w : World) (lo hi : Nat → Nat) : Prop where
  done : ∀ (i : Nat) (o : Oper) (d : Nat) (g : Says), i < n → ops[i]? = some o → o.dst = some d → Gs[i]? = some g →
    g (f d) ((slotsOf o).map f) (lo i) (hi i) w ∧ w0.heap.size ≤ lo i ∧ lo i ≤ hi i ∧ hi i ≤ w.heap.size
  apart : ∀ i j, i < n → j < n → i ≠ j → hi i ≤ lo j ∨ hi j ≤ lo i
def dstsOf (l : List Oper) : List Nat := l.filterMap (·.dst)
theorem putAll_defers : ∀ (l : List (Nat × Value)) (a : Act), (putAll a l).defers = a.defers
  | [], a => rfl
  | (d, v) :: r, a => by simp only [putAll]; rw [putAll_defers r]; simp [Act.put]
theorem putAll_out : ∀ (l : List (Nat × Value)) (a : Act) (t : Nat), (∀ p ∈ l, p.1 ≠ t) → (putAll a l).tmps[t]? = a.tmps[t]?
  | [], a, t, _ => rfl
  | (d, v) :: r, a, t, h => by
    simp only [putAll]
    rw [putAll_out r _ t (fun p hp => h p (by simp [hp]))]
    simp [Act.put, Array.getElem?_setIfInBounds_ne (h (d, v) (by simp))]
theorem putAll_in (f : Nat → Value) : ∀ (ds : List Nat) (a : Act) (t : Nat), t ∈ ds → t < a.tmps.size → (putAll a (ds.map fun d => (d, f d))).tmps[t]? = some (f t)
  | [], _, _, h, _ => by simp at h
  | d :: ds, a, t, h, ht => by
    simp only [List.map_cons, putAll]
    by_cases hm : t ∈ ds
    · exact putAll_in f ds _ t hm (by simpa [Act.put] using ht)
    · have hdt : t = d := by
        rcases List.mem_cons.1 h with h | h
        · exact h
        · exact absurd h hm
      subst hdt
      rw [putAll_out _ _ _ (by intro p hp; obtain ⟨x, hx, rfl⟩ := List.mem_map.1 hp; intro e; have e' : x = t := e; exact hm (e' ▸ hx))]
      simp [Act.put, ht]
/-- **A region that draws its order, by what its operations say.** -/
theorem wp_region_dep {id : Nat} {l : List Oper} {Q : Exit → Act → World → Prop} (n : Nat) (Gs : List Says) (C : World → Prop) (hm : P.follows .mixedOrders = true)
    (hB : (depB l.toArray n && decide (n ≤ l.length) && (decide (n = l.length) || (Region.sinkB .any l.toArray n && Region.chainB .any l.toArray n)) && Region.seqB .any l.toArray (l.length - n) n (headArr l.length n)) = true)
    (hlen : Gs.length = n) (hsz : (dstsOf (l.take n)).all (fun d => decide (d < a0.tmps.size)) = true)
    (hC : C w0.drew)
    (hG : ∀ g ∈ Gs, ∀ v ds lo hi w w', Below w.heap.size w w' → g v ds lo hi w → g v ds lo hi w')
    (hst : ∀ (i : Nat) (o : Oper) (g : Says), i < n → l[i]? = some o → Gs[i]? = some g → StepD P l.toArray n Gs C a0 o g)
    (hend : ∀ (f : Nat → Value) w lo hi, C w → Below w0.heap.size w0 w → (∀ t, t ∉ dstsOf (l.take n) → f t = a0.tmps.getD t undef) → DoneD l.toArray n Gs w0 f w lo hi → wpList P l.toArray Q (l.drop n) (putAll a0 ((dstsOf (l.take n)).map fun d => (d, f d))) w) :
    (Code.region id l.toArray true).wp P Q a0 w0 := by
  simp only [Bool.and_eq_true, Bool.or_eq_true, decide_eq_true_eq] at hB
  obtain ⟨⟨⟨hD, hn⟩, hs⟩, hsq⟩ := hB
  have mem : ∀ (i : Nat) (o : Oper) (d : Nat), i < n → l.toArray[i]? = some o → o.dst = some d → d ∈ dstsOf (l.take n) := fun i o d hi ho hd =>
    List.mem_filterMap.2 ⟨o, List.mem_of_getElem? (i := i) (by rw [List.getElem?_take]; simpa [hi] using ho), hd⟩
  have hsz' : ∀ (i : Nat) (o : Oper) (d : Nat), i < n → l.toArray[i]? = some o → o.dst = some d → d < a0.tmps.size := fun i o d hi ho hd => by
    have := List.all_eq_true.1 hsz d (mem i o d hi ho hd)
    simpa using this
  refine wp_region_any hm ?_
  have inv0 : Inv P l.toArray n Gs C a0 w0.drew (Array.replicate l.toArray.size false) a0 w0.drew (fun _ => 0) (fun _ => 0) :=
    ⟨⟨by simp, fun j oj _ hl => (by rw [getD_replicate_false] at hl; cases hl), fun t _ ht => getD_in (by simpa using ht) (getD_replicate_false _ _)⟩, rfl, rfl, fun _ _ => rfl, hC, Below.refl _ _,
      fun i o d g _ hl => (by rw [getD_replicate_false] at hl; cases hl), fun i j _ _ _ hl => (by rw [getD_replicate_false] at hl; cases hl)⟩
  have H := wpAny_head (P := P) (C := C) (a0 := a0) (w0 := w0.drew) (Q := Q) hD hlen (by simpa using hn) (fun h => by
      rcases hs with hs | hs
      · simp at h; omega
      · exact hs) (by simpa using hsq) hsz' (fun i g hg => hG g (List.mem_of_getElem? hg)) (fun i o g hi ho hg => hst i o g hi (by simpa using ho) hg) (fun listed a w lo hi hI hall => ?_) n _ a0 w0.drew _ _ inv0 ?_
  · have e : n + (l.toArray.size - n) = l.toArray.size := by simp; omega
    rw [e] at H
    exact H
  · have ea : a = putAll a0 ((dstsOf (l.take n)).map fun d => (d, a.tmps.getD d undef)) := by
      have et : a.tmps = (putAll a0 ((dstsOf (l.take n)).map fun d => (d, a.tmps.getD d undef))).tmps := by
        apply Array.ext_getElem?
        intro t
        by_cases ht : t ∈ dstsOf (l.take n)
        · have hlt : t < a0.tmps.size := by
            have := List.all_eq_true.1 hsz t ht
            simpa using this
          rw [putAll_in _ _ _ _ ht hlt]
          have : t < a.tmps.size := by rw [hI.size]; exact hlt
          simp [this]
        · rw [putAll_out _ _ _ (by intro p hp; obtain ⟨x, hx, rfl⟩ := List.mem_map.1 hp; intro e; have e' : x = t := e; exact ht (e' ▸ hx))]
          have ho := hI.out t (fun i o hi ho hd => ht (mem i o t hi ho hd))
          by_cases hlt : t < a0.tmps.size
          · have : t < a.tmps.size := by rw [hI.size]; exact hlt
            simp [this, hlt] at ho
            simp [this, hlt, ho]
          · have : ¬ t < a.tmps.size := by rw [hI.size]; exact hlt
            rw [Array.getElem?_eq_none (by omega), Array.getElem?_eq_none (by omega)]
      have ed : a.defers = (putAll a0 ((dstsOf (l.take n)).map fun d => (d, a.tmps.getD d undef))).defers := by rw [putAll_defers]; exact hI.defers
      obtain ⟨at', ad⟩ := a
      generalize putAll a0 _ = b at et ed ⊢
      obtain ⟨bt, bd⟩ := b
      simp only at et ed
      rw [et, ed]
    have := hend (fun d => a.tmps.getD d undef) w lo hi hI.cls ((belowD w0).trans hI.below) (fun t ht => hI.out t (fun i o hi ho hd => ht (mem i o t hi ho hd)))
      ⟨fun i o d g hi ho hd hg => hI.done i o d g hi (hall i hi) ho hd hg, fun i j hi hj hne => hI.apart i j hi hj hne (hall i hi) (hall j hj)⟩
    rw [← ea] at this
    simpa using this
  · rw [List.countP_eq_length.2]
    · simp
    · intro i hi
      have hi' := List.mem_range.1 hi
      have hs : i < (Array.replicate l.toArray.size false).size := by simp; omega
      rw [getD_ftt hs, getD_replicate_false]
      rfl
theorem out_of {t : Nat} (h : (List.range n).all (fun i => (ops[i]?).all (fun o => o.dst != some t)) = true) : ∀ (i : Nat) (o' : Oper), i < n → ops[i]? = some o' → o'.dst ≠ some t := by
  intro i o hi ho
  have := List.all_eq_true.1 h i (List.mem_range.2 hi)
  rw [ho] at this
  simpa using this
/-- What the steps are, one after the other. -/
def StepsD (P : Program) (ops : Array Oper) (n : Nat) (Gs : List Says) (C : World → Prop) (a0 : Act) : List Oper → List Says → Prop
  | o :: os, g :: gs => StepD P ops n Gs C a0 o g ∧ StepsD P ops n Gs C a0 os gs
  | _, _ => True
theorem StepsD.get : ∀ {os : List Oper} {gs : List Says}, StepsD P ops n Gs C a0 os gs → ∀ (i : Nat) (o : Oper) (g : Says), os[i]? = some o → gs[i]? = some g → StepD P ops n Gs C a0 o g
  | [], _, _, _, _, _, h, _ => by simp at h
  | _ :: _, [], _, _, _, _, _, h => by simp at h
  | o :: os, g :: gs, h, 0, o', g', h1, h2 => by
    simp at h1 h2
    subst h1 h2
    exact h.1
  | o :: os, g :: gs, h, i + 1, o', g', h1, h2 => StepsD.get h.2 i o' g' (by simpa using h1) (by simpa using h2)
def DoneAll (n : Nat) (w0 : World) (f : Nat → Value) (w : World) (lo hi : Nat → Nat) : Nat → List Oper → List Says → Prop
  | i, o :: os, g :: gs => (g (f (o.dst.getD 0)) ((slotsOf o).map f) (lo i) (hi i) w ∧ w0.heap.size ≤ lo i ∧ lo i ≤ hi i ∧ hi i ≤ w.heap.size) ∧ DoneAll n w0 f w lo hi (i + 1) os gs
  | _, _, _ => True
theorem DoneAll.of {f : Nat → Value} {w : World} {lo hi : Nat → Nat} {l : List Oper} (h : DoneD l.toArray n Gs w0 f w lo hi) (hds : (l.take n).all (fun o => o.dst.isSome) = true) : ∀ (os : List Oper) (gs : List Says) (i : Nat), i + os.length ≤ n → (∀ j, j < os.length → os[j]? = l[i + j]?) → (∀ j, gs[j]? = Gs[i + j]?) → DoneAll n w0 f w lo hi i os gs
  | [], _, _, _, _, _ => by simp [DoneAll]
  | _ :: _, [], _, _, _, _ => by simp [DoneAll]
  | o :: os, g :: gs, i, hi, ho, hg => by
    simp only [List.length_cons] at hi
    have h0 : l[i]? = some o := by simpa using (ho 0 (by simp)).symm
    have hd : o.dst.isSome = true := List.all_eq_true.1 hds o (List.mem_of_getElem? (i := i) (by rw [List.getElem?_take]; simp [h0]; omega))
    obtain ⟨d, hd⟩ := Option.isSome_iff_exists.1 hd
    refine ⟨?_, DoneAll.of h hds os gs (i + 1) (by omega) (fun j hj => by have := ho (j + 1) (by simp; omega); simpa [Nat.add_assoc, Nat.add_comm 1 j] using this) (fun j => by have := hg (j + 1); simpa [Nat.add_assoc, Nat.add_comm 1 j] using this)⟩
    have := h.done i o d g (by omega) (by simpa using h0) hd (by simpa using (hg 0).symm)
    rw [hd]
    exact this
/-- The rule, with the steps and what is known at the end written out. -/
theorem wp_region_says {id : Nat} {l : List Oper} {Q : Exit → Act → World → Prop} (n : Nat) (Gs : List Says) (C : World → Prop) (hm : P.follows .mixedOrders = true)
    (hB : (depB l.toArray n && decide (n ≤ l.length) && (decide (n = l.length) || (Region.sinkB .any l.toArray n && Region.chainB .any l.toArray n)) && Region.seqB .any l.toArray (l.length - n) n (headArr l.length n)) = true)
    (hlen : Gs.length = n) (hsz : (dstsOf (l.take n)).all (fun d => decide (d < a0.tmps.size)) = true)
    (hC : C w0.drew)
    (hG : ∀ g ∈ Gs, ∀ v ds lo hi w w', Below w.heap.size w w' → g v ds lo hi w → g v ds lo hi w')
    (hst : StepsD P l.toArray n Gs C a0 (l.take n) Gs)
    (hend : ∀ (f : Nat → Value) w lo hi, C w → Below w0.heap.size w0 w → (∀ i j, i < n → j < n → i ≠ j → hi i ≤ lo j ∨ hi j ≤ lo i) → (∀ t, t ∉ dstsOf (l.take n) → f t = a0.tmps.getD t undef) → DoneAll n w0 f w lo hi 0 (l.take n) Gs → wpList P l.toArray Q (l.drop n) (putAll a0 ((dstsOf (l.take n)).map fun d => (d, f d))) w) :
    (Code.region id l.toArray true).wp P Q a0 w0 := by
  have hB' := hB
  simp only [Bool.and_eq_true, Bool.or_eq_true, decide_eq_true_eq] at hB'
  obtain ⟨⟨⟨hD, hn⟩, _⟩, _⟩ := hB'
  refine wp_region_dep n Gs C hm hB hlen hsz hC hG (fun i o g hi ho hg => StepsD.get hst i o g (by rw [List.getElem?_take]; simpa [hi] using ho) hg) (fun f w lo hi hC hb hf hd => ?_)
  refine hend f w lo hi hC hb hd.apart hf (DoneAll.of hd ?_ _ _ 0 (by simp; omega) (fun j hj => by simp at hj; rw [List.getElem?_take]; simp; omega) (fun j => by simp))
  refine List.all_eq_true.2 fun o ho => ?_
  obtain ⟨i, hi⟩ := List.mem_iff_getElem?.1 ho
  rw [List.getElem?_take] at hi
  split at hi
  · rename_i hin
    obtain ⟨o2, d, ho2, _, hd, _⟩ := depB.get hD hin
    have : l.toArray[i]? = some o := by simpa using hi
    rw [this] at ho2
    injection ho2 with ho2
    subst ho2
    rw [hd]
    rfl
  · cases hi
end
end Go.Proofs.YtpbikjkjfojjiaaGreat
namespace Go.Proofs.YtpbikjkjfojjiaaGreat
open Go.RowKit
theorem make_ints (n : Nat) (hn : n ≤ 1048576) (w : World) : (Instr.makeSlice 69 (.int .i64 n) (.int .i64 n)).run Tryz.prog w = .ok (.slice (some ⟨w.heap.size, 0, none⟩) n n) (w.alloc (.cells (madeCells #[Value.int .i64 0] n) 3)) := by
  obtain ⟨i0, hi, hz0, hz1, hz2⟩ := info_parts info_Int
  have := run_make (P := Tryz.prog) w 69 3 i0 _ Tryz.underlying69 hi hz0 .i64 .i64 (n : Int) (n : Int) (by omega) (by omega) (by rw [hz2]; omega) (by omega)
  rw [this, hz1]
  simp [Value.cells]
theorem info_order : (Tryz.prog.info? 164).map (fun i => (i.zero, i.size, i.bytes)) = some (some (.agg #[.slice none 0 0, .slice none 0 0, .slice none 0 0]), 3, 72) := by kernel_rfl
set_option maxHeartbeats 2000000 in
set_option maxRecDepth 100000 in
theorem implNewOrder_not (s : Srt) (S : Nat → Prop) (us : List Value) (w : World) (hok : okSrt s) (hv : RepVals w S (encSrt s) us) (hs : ¬ SortsOk s) :
    Calls Tryz.prog 106 #[.agg us.toArray] w fun e w' => e = .returned (.tuple #[.agg #[.slice none 0 0, .slice none 0 0, .slice none 0 0], .bool false]) ∧ Below w.heap.size w w' := by
  obtain ⟨names, subs⟩ := s
  have hv0 := hv
  simp only [encSrt] at hv
  obtain ⟨v0, v1, rfl, e0, e1⟩ := repVals_Sorts hv
  obtain ⟨A0, cap0, rfl, hc0, hm0⟩ := e0.shape
  obtain ⟨A1, cap1, rfl, hc1, hm1⟩ := e1.shape
  obtain ⟨ic, hci, _, hcs, _⟩ := info_parts info_Sub'
  obtain ⟨io, hoi, _, hos, _⟩ := info_parts info_order
  have HOK := Lib.hid hok
  have HV0 := Lib.hid hv0
  have E1 := Lib.hid e1
  clear hv hv0 e0 e1 hok
  generalize hN : names.length = n at *
  generalize hM : subs.length = m at *
  have HN := Lib.hid hN
  have HM := Lib.hid hM
  clear hM hN
  unfold maxLen at hm0 hm1
  have HS := Lib.hid (implIsSorts ⟨names, subs⟩ S [.slice A0 n cap0, .slice A1 m cap1])
  rw [isSorts_false hs] at HS
  clear hs
  go_enter Tryz.func106, Tryz.ntmps106
  go_wp2_with fail
  generalize hW : (w.alloc _).alloc _ = W
  have hbW : Below w.heap.size w W := by rw [← hW]; exact ((Below.refl _ _).alloc (Nat.le_refl _) _).alloc (by simp) _
  have hrow : W.heap[w.heap.size + 1]? = some (.cells #[.slice none 0 0, .slice none 0 0, .slice none 0 0] 164 (0, 0)) := by rw [← hW]; have := heap_alloc_new (w.alloc (.cells #[.slice A0 n cap0, .slice A1 m cap1] 40)) (.cells #[.slice none 0 0, .slice none 0 0, .slice none 0 0] 164); simpa using this
  have z1 : w.heap.size + 1 < W.heap.size := by rw [← hW]; simp
  clear hW
  refine (HS.out W HOK.out (HV0.out.below hbW)).mono ?_
  rintro e w2 ⟨rfl, hb2⟩
  have HR := Lib.hid ((hb2.block _ z1).trans hrow)
  clear hrow
  go_wp2_with (refine wpList_store_put rfl 164 _ _ rfl (w.heap.size + 1) 0 rfl [.slice none 0 0, .slice none 0 0, .slice none 0 0] rfl io hoi hos 164 _ HR.out (by simp) (by simp [Value.oneCell']) ?_; intro w3 hput)
  have c0 := hput.new 0 _ rfl
  have c1 := hput.new 1 _ rfl
  have c2 := hput.new 2 _ rfl
  simp only [Nat.zero_add] at c0 c1 c2
  refine bodyPost_ret (v := .tuple #[.agg #[.slice none 0 0, .slice none 0 0, .slice none 0 0], .bool false]) (by simp [results, Tryz.results106, go_sem, c0, c1, c2]) rfl ⟨rfl, ?_⟩
  exact (hbW.trans (hb2.mono hbW.size)).trans ⟨hput.os, hput.tape, hput.output, by have := hput.size; omega, fun x hx => hput.other x (by omega)⟩
/-! The sorts below each sort, as the program gathers them. -/
def downIn (i : Nat) (l : List Nat) (ks : List Nat) : List Nat := ks.foldl (fun l k => l.set k (l.getD k 0 ||| 2 ^ i)) l
def downs (u : List Nat) : Nat → List Nat → List Nat
  | 0, l => l
  | m + 1, l => downIn m (downs u m l) (listOf (u.getD m 0))
def down (s : Srt) : List Nat := downs (up s) s.names.length (List.replicate s.names.length 0)
theorem UpOk.or {n : Nat} {l : List Nat} (h : UpOk n l) {k i : Nat} (hk : k < n) (hi : i < n) : UpOk n (l.set k (l.getD k 0 ||| 2 ^ i)) := by
  refine ⟨by rw [List.length_set]; exact h.1, fun x hx => ?_⟩
  rcases List.mem_or_eq_of_mem_set hx with hx | rfl
  · exact h.2 x hx
  · exact Nat.or_lt_two_pow (h.get hk).2 (Nat.pow_lt_pow_right (by omega) hi)
theorem UpOk.downIn {n i : Nat} (hi : i < n) : ∀ {ks l : List Nat}, UpOk n l → (∀ k ∈ ks, k < n) → UpOk n (downIn i l ks)
  | [], l, h, _ => h
  | k :: ks, l, h, hk => UpOk.downIn (ks := ks) hi (h.or (hk k (by simp)) hi) (fun q hq => hk q (by simp [hq]))
theorem listOf_lt {a n : Nat} (h : a < 2 ^ n) : ∀ k ∈ listOf a, k < n := by
  intro k hk
  simp only [listOf, bitsTo, List.mem_filter, List.mem_range] at hk
  refine Decidable.byContradiction fun hn => ?_
  have := Nat.testBit_lt_two_pow (Nat.lt_of_lt_of_le h (Nat.pow_le_pow_right (by omega) (by omega : n ≤ k)))
  rw [this] at hk
  simp at hk
theorem UpOk.downs {n : Nat} {u : List Nat} (hu : UpOk n u) : ∀ (m : Nat) {l : List Nat}, m ≤ n → UpOk n l → UpOk n (downs u m l)
  | 0, l, _, h => h
  | m + 1, l, hm, h => (UpOk.downs hu m (by omega) h).downIn (by omega) (listOf_lt (hu.get (by omega)).2)
theorem UpOk.zeros (n : Nat) : UpOk n (List.replicate n 0) := ⟨by simp, fun x hx => by rw [(List.mem_replicate.1 hx).2]; exact Nat.two_pow_pos n⟩
theorem down_ok {s : Srt} (h : SubsIn s.names.length s.subs) : UpOk s.names.length (down s) := UpOk.downs (up_ok h) _ (Nat.le_refl _) (UpOk.zeros _)
/-- The kinds while the first k of n are laid. -/
def kFill (n k : Nat) : List Nat := List.range k ++ List.replicate (n - k) 0
theorem kFill_len {n k : Nat} (h : k ≤ n) : (kFill n k).length = n := by simp [kFill]; omega
theorem kFill_set {n k : Nat} (h : k < n) : (kFill n k).set k k = kFill n (k + 1) := by
  unfold kFill
  rw [List.set_append_right _ _ (by simp), List.length_range, Nat.sub_self, List.range_succ]
  obtain ⟨m, hm⟩ : ∃ m, n - k = m + 1 := ⟨n - k - 1, by omega⟩
  rw [hm, show n - (k + 1) = m by omega]
  simp [List.replicate_succ]
theorem kFill_end (n : Nat) : kFill n n = List.range n := by simp [kFill]
/-- The three rows of an order, in blocks apart, and the variable that holds them. -/
structure Trio (w : World) (B g ga gb gk ca cb ck n : Nat) (la lb lk : List Nat) : Prop where
  row : w.heap[g]? = some (.cells #[.slice (some ⟨ga, 0, none⟩) n ca, .slice (some ⟨gb, 0, none⟩) n cb, .slice (some ⟨gk, 0, none⟩) n ck] 164 (0, 0))
  ia : Ints w B (.slice (some ⟨ga, 0, none⟩) n ca) (casts la)
  ib : Ints w B (.slice (some ⟨gb, 0, none⟩) n cb) (casts lb)
  ik : Ints w B (.slice (some ⟨gk, 0, none⟩) n ck) (casts lk)
  d1 : ga ≠ gb
  d2 : ga ≠ gk
  d3 : gb ≠ gk
  e1 : ga ≠ g
  e2 : gb ≠ g
  e3 : gk ≠ g
  hg : B ≤ g
section
variable {w w' : World} {B g ga gb gk ca cb ck n : Nat} {la lb lk : List Nat}
theorem Trio.cells (h : Trio w B g ga gb gk ca cb ck n la lb lk) : w.cell? ⟨g, 0, none⟩ = some (.slice (some ⟨ga, 0, none⟩) n ca) ∧ w.cell? ⟨g, 1, none⟩ = some (.slice (some ⟨gb, 0, none⟩) n cb) ∧ w.cell? ⟨g, 2, none⟩ = some (.slice (some ⟨gk, 0, none⟩) n ck) := by
  refine ⟨?_, ?_, ?_⟩ <;> rw [cell_of_row w g _ _ _ _ h.row] <;> rfl
theorem Trio.below (h : Trio w B g ga gb gk ca cb ck n la lb lk) (hb : Below w.heap.size w w') : Trio w' B g ga gb gk ca cb ck n la lb lk :=
  { h with row := by rw [hb.block g (Array.getElem?_eq_some_iff.1 h.row).1]; exact h.row, ia := h.ia.below hb, ib := h.ib.below hb, ik := h.ik.below hb }
theorem Ints.other {v : Value} {l : List Int} {b : Nat} (h : Ints w B v l) (p : Nat) (x : Value) (hv : v.ownBlock = some b) (hp : b ≠ p) (i : Nat) : Ints (w.setCell ⟨p, i, none⟩ x) B v l := by
  refine World.ownsRow.kept (row := some p) h ⟨rfl, rfl, rfl, by simp [World.setCell], fun k hk hne => ?_⟩ ?_
  · exact Below.heap_setCell _ _ _ _ (fun e => hne (by rw [e]))
  · rw [hv]; simp; omega
theorem Ints.put {v : Value} {l : List Int} {b off : Nat} {us : List Value} (h : Ints w B v l) (hp : Put w w' g off us) (hv : v.ownBlock = some b) (hne : b ≠ g) : Ints w' B v l := by
  refine World.ownsRow.kept (row := some g) h ⟨hp.os, hp.tape, hp.output, by rw [hp.size]; exact Nat.le_refl _, fun k hk hne' => hp.other k (fun e => hne' (by rw [e]))⟩ ?_
  rw [hv]; simp; omega
theorem Trio.setB (h : Trio w B g ga gb gk ca cb ck n la lb lk) {i : Nat} (hi : i < lb.length) (x : Nat) : Trio (w.setCell ⟨gb, i, none⟩ (.int .i64 x)) B g ga gb gk ca cb ck n la (lb.set i x) lk :=
  { h with row := by rw [Below.heap_setCell _ _ _ _ (fun e => h.e2 e.symm)]; exact h.row, ia := h.ia.other gb _ rfl h.d1 i, ib := by rw [casts_set]; exact h.ib.set (by rw [casts_len]; exact hi) _, ik := h.ik.other gb _ rfl (fun e => h.d3 e.symm) i }
theorem Trio.setK (h : Trio w B g ga gb gk ca cb ck n la lb lk) {i : Nat} (hi : i < lk.length) (x : Nat) : Trio (w.setCell ⟨gk, i, none⟩ (.int .i64 x)) B g ga gb gk ca cb ck n la lb (lk.set i x) :=
  { h with row := by rw [Below.heap_setCell _ _ _ _ (fun e => h.e3 e.symm)]; exact h.row, ia := h.ia.other gk _ rfl h.d2 i, ib := h.ib.other gk _ rfl h.d3 i, ik := by rw [casts_set]; exact h.ik.set (by rw [casts_len]; exact hi) _ }
end
set_option maxHeartbeats 2000000 in
set_option maxRecDepth 100000 in
theorem implNewOrder_ok (s : Srt) (S : Nat → Prop) (us : List Value) (w : World) (hok : okSrt s) (hv : RepVals w S (encSrt s) us) (hs : SortsOk s) :
    Calls Tryz.prog 106 #[.agg us.toArray] w fun e w' => ∃ va vb vk, e = .returned (.tuple #[.agg #[va, vb, vk], .bool true]) ∧ Ints w' w.heap.size va (casts (up s)) ∧ Ints w' w.heap.size vb (casts (down s)) ∧ Ints w' w.heap.size vk (casts (kinds s)) ∧ Below w.heap.size w w' := by
  have hin := SortsOk.subsIn hs.subs
  obtain ⟨names, subs⟩ := s
  have hv0 := hv
  simp only [encSrt] at hv
  obtain ⟨v0, v1, rfl, e0, e1⟩ := repVals_Sorts hv
  obtain ⟨A0, cap0, rfl, hc0, hm0⟩ := e0.shape
  obtain ⟨A1, cap1, rfl, hc1, hm1⟩ := e1.shape
  obtain ⟨ic, hci, _, hcs, _⟩ := info_parts info_Sub'
  obtain ⟨io, hoi, _, hos, _⟩ := info_parts info_order
  have HOK := Lib.hid hok
  have HV0 := Lib.hid hv0
  have E1 := Lib.hid e1
  have HIN := Lib.hid hin
  clear hv hv0 e0 e1 hok hin
  generalize hN : names.length = n at *
  generalize hM : subs.length = m at *
  have HN := Lib.hid hN
  have HM := Lib.hid hM
  clear hM hN
  unfold maxLen at hm0 hm1
  have HS := Lib.hid (implIsSorts ⟨names, subs⟩ S [.slice A0 n cap0, .slice A1 m cap1])
  rw [isSorts_true hs] at HS
  have HSB := Lib.hid hs.subs
  have hn1 : 1 ≤ n := by have := hs.n1; have := HN.out; simp only at *; omega
  have hn8 : n ≤ 8 := by have := hs.n8; have := HN.out; simp only at *; omega
  have HAB := Lib.hid (fun W h => implSortsAbove ⟨names, subs⟩ S [.slice A0 n cap0, .slice A1 m cap1] W HOK.out h hs.n1 hs.n8 (SortsOk.subsIn hs.subs))
  clear hs
  go_enter Tryz.func106, Tryz.ntmps106
  go_wp2_with fail
  generalize hW : (w.alloc _).alloc _ = W
  have hbW : Below w.heap.size w W := by rw [← hW]; exact ((Below.refl _ _).alloc (Nat.le_refl _) _).alloc (by simp) _
  have hrow : W.heap[w.heap.size + 1]? = some (.cells #[.slice none 0 0, .slice none 0 0, .slice none 0 0] 164 (0, 0)) := by rw [← hW]; have := heap_alloc_new (w.alloc (.cells #[.slice A0 n cap0, .slice A1 m cap1] 40)) (.cells #[.slice none 0 0, .slice none 0 0, .slice none 0 0] 164); simpa using this
  have z1 : w.heap.size + 1 < W.heap.size := by rw [← hW]; simp
  have p0 : W.cell? ⟨w.heap.size, 0, none⟩ = some (.slice A0 n cap0) := by rw [← hW]; simp
  have p1 : W.cell? ⟨w.heap.size, 1, none⟩ = some (.slice A1 m cap1) := by rw [← hW]; simp
  clear hW
  refine (HS.out W HOK.out (HV0.out.below hbW)).mono ?_
  rintro e w2 ⟨rfl, hb2⟩
  have HR := Lib.hid ((hb2.block _ z1).trans hrow)
  have q0 := keepB hb2 p0
  have q1 := keepB hb2 p1
  have hmk := make_ints n (by omega)
  have hw2 : Below w.heap.size w w2 := hbW.trans (hb2.mono hbW.size)
  have z2 : w.heap.size + 1 < w2.heap.size := by have := hb2.size; omega
  have V2 := Lib.hid (HV0.out.below hw2)
  clear hrow p0 p1 hb2 z1 hbW HV0 HS
  go_upto_region 4 with fail
  go_cut [5] (fun s5 wx => ∃ g ga gb gk ca cb ck, s5 = .pointer (some ⟨g, 0, none⟩) ∧ Trio wx w2.heap.size g ga gb gk ca cb ck n (up ⟨names, subs⟩) (List.replicate n 0) (List.replicate n 0) ∧ Below w2.heap.size w2 wx)
  case first =>
    refine wp_region_says 8 [
      fun v _ _ _ _ => v = .agg #[.slice A0 n cap0, .slice A1 m cap1],
      fun v _ lo hi w' => Ints w' lo v (casts (up ⟨names, subs⟩)) ∧ ∀ b, v.ownBlock = some b → b < hi,
      fun v _ _ _ _ => v = .int .i64 n,
      fun v _ lo hi w' => v = .slice (some ⟨lo, 0, none⟩) n n ∧ lo < hi ∧ Ints w' lo v (casts (List.replicate n 0)),
      fun v _ _ _ _ => v = .int .i64 n,
      fun v _ lo hi w' => v = .slice (some ⟨lo, 0, none⟩) n n ∧ lo < hi ∧ Ints w' lo v (casts (List.replicate n 0)),
      fun v ds _ _ _ => v = .agg ds.toArray,
      fun v _ lo hi w' => v = .pointer (some ⟨lo, 0, none⟩) ∧ lo < hi ∧ w'.heap[lo]? = some (.cells #[.slice none 0 0, .slice none 0 0, .slice none 0 0] 164 (0, 0))]
      (fun w' => Below w2.heap.size w2 w') (by kernel_rfl) (by kernel_rfl) rfl (by rfl) (belowD _) ?_ ?_ ?_
    · intro g hg
      simp only [List.mem_cons, List.not_mem_nil, or_false] at hg
      rcases hg with rfl | rfl | rfl | rfl | rfl | rfl | rfl | rfl <;> intro v ds lo hi wa wb hb h
      · exact h
      · exact ⟨h.1.below hb, h.2⟩
      · exact h
      · exact ⟨h.1, h.2.1, h.2.2.below hb⟩
      · exact h
      · exact ⟨h.1, h.2.1, h.2.2.below hb⟩
      · exact h
      · exact ⟨h.1, h.2.1, by rw [hb.block _ (Array.getElem?_eq_some_iff.1 h.2.2).1]; exact h.2.2⟩
    · simp only [List.take_succ_cons, List.take_zero, StepsD, and_true]
      refine ⟨?_, ?_, ?_, ?_, ?_, ?_, ?_, ?_⟩
      all_goals (intro a wx hC hout hdep)
      · have s1 : a.eval (.tmp 1) = .pointer (some ⟨w.heap.size, 0, none⟩) := hout 1 (out_of (by kernel_rfl))
        clear hout hdep
        have r0 := keepB hC q0
        have r1 := keepB hC q1
        unfold gives
        simp only [execOp, s1]
        go_simp
        exact Below.refl _ _
      · obtain ⟨_, _, s20⟩ := hdep 0 _ 20 _ (by omega) rfl rfl (by decide) rfl
        have s20 : a.eval (.tmp 20) = .agg #[.slice A0 n cap0, .slice A1 m cap1] := s20
        clear hout hdep
        unfold gives
        simp only [execOp, s20]
        go_simp
        refine (HAB.out wx (by repeat' (with_reducible (first | exact V2.out | refine RepVals.alloc _ ?_ | refine RepVals.drew ?_ | refine RepVals.drewN ?_ | refine RepVals.later (by assumption) ?_)))).mono ?_
        rintro e w3 ⟨va, rfl, hI, hb3⟩
        exact ⟨va, rfl, hC.trans (hb3.mono hC.size), hb3, hI, fun b hb => (hI.lt b hb).2⟩
      · have s4 : a.eval (.tmp 4) = .int .i64 n := hout 4 (out_of (by kernel_rfl))
        clear hout hdep
        unfold gives
        simp only [execOp, s4]
        go_simp
        exact Below.refl _ _
      · obtain ⟨_, _, s22⟩ := hdep 2 _ 22 _ (by omega) rfl rfl (by decide) rfl
        have s22 : a.eval (.tmp 22) = .int .i64 n := s22
        clear hout hdep
        unfold gives
        simp only [execOp, s22]
        go_simp
        exact ⟨hC.trans ((belowA wx _).mono hC.size), belowA _ _, Ints.made wx n (by unfold maxLen; omega)⟩
      · have s4 : a.eval (.tmp 4) = .int .i64 n := hout 4 (out_of (by kernel_rfl))
        clear hout hdep
        unfold gives
        simp only [execOp, s4]
        go_simp
        exact Below.refl _ _
      · obtain ⟨_, _, s22⟩ := hdep 4 _ 24 _ (by omega) rfl rfl (by decide) rfl
        have s22 : a.eval (.tmp 24) = .int .i64 n := s22
        clear hout hdep
        unfold gives
        simp only [execOp, s22]
        go_simp
        exact ⟨hC.trans ((belowA wx _).mono hC.size), belowA _ _, Ints.made wx n (by unfold maxLen; omega)⟩
      · obtain ⟨_, _, h21, _⟩ := hdep 1 _ 21 _ (by omega) rfl rfl (by decide) rfl
        obtain ⟨_, _, h23, _⟩ := hdep 3 _ 23 _ (by omega) rfl rfl (by decide) rfl
        obtain ⟨_, _, h25, _⟩ := hdep 5 _ 25 _ (by omega) rfl rfl (by decide) rfl
        obtain ⟨A, cap, e21, _⟩ := h21.form
        have e21 : a.eval (.tmp 21) = _ := e21
        have e23 : a.eval (.tmp 23) = _ := h23
        have e25 : a.eval (.tmp 25) = _ := h25
        clear hout hdep h21 h23 h25
        change gives _ _ _ _ (fun v w' => _ ∧ _ ∧ v = .agg #[a.eval (.tmp 21), a.eval (.tmp 23), a.eval (.tmp 25)])
        unfold gives
        simp only [Act.eval, Array.getD_eq_getD_getElem?] at e21 e23 e25
        go_simp
        exact Below.refl _ _
      · clear hout hdep
        unfold gives
        simp only [execOp]
        go_simp
        exact ⟨hC.trans ((belowA wx _).mono hC.size), belowA _ _, (Array.getElem?_eq_some_iff.1 (heap_alloc_new wx _)).2⟩
    · intro f wx lo hi hC hb hap _ hd
      simp only [List.take_succ_cons, List.take_zero, DoneAll, Option.getD_some, Nat.zero_add, Nat.reduceAdd] at hd
      obtain ⟨-, ⟨⟨h21, k21⟩, l21, m21, n21⟩, -, ⟨⟨h23, k23, j23⟩, l23, m23, n23⟩, -, ⟨⟨h25, k25, j25⟩, l25, m25, n25⟩, ⟨h26, -⟩, ⟨⟨h5, k5, j5⟩, l5, m5, n5⟩, -⟩ := hd
      have h21 : Ints wx (lo 1) (f 21) (casts (up ⟨names, subs⟩)) := h21
      have k21 : ∀ b, (f 21).ownBlock = some b → b < hi 1 := k21
      have h23 : f 23 = .slice (some ⟨lo 3, 0, none⟩) n n := h23
      have h25 : f 25 = .slice (some ⟨lo 5, 0, none⟩) n n := h25
      have h26 : f 26 = .agg #[f 21, f 23, f 25] := h26
      have h5 : f 5 = .pointer (some ⟨lo 7, 0, none⟩) := h5
      obtain ⟨Aa, ca, e21, hcc, hmm, hA⟩ := h21.form
      have hlu : (casts (up ⟨names, subs⟩)).length = n := by rw [casts_len, (up_ok (s := ⟨names, subs⟩) (by rw [HN.out]; exact HIN.out)).1]; exact HN.out
      rw [hlu] at e21 hA
      obtain ⟨ga, rfl, hga1, hga2⟩ := hA (by omega)
      rw [e21] at h21 k21
      rw [h23] at j23
      rw [h25] at j25
      have hga3 := k21 ga rfl
      have a13 := hap 1 3 (by omega) (by omega) (by omega)
      have a15 := hap 1 5 (by omega) (by omega) (by omega)
      have a17 := hap 1 7 (by omega) (by omega) (by omega)
      have a35 := hap 3 5 (by omega) (by omega) (by omega)
      have a37 := hap 3 7 (by omega) (by omega) (by omega)
      have a57 := hap 5 7 (by omega) (by omega) (by omega)
      have J5 := Lib.hid j5
      have J23 := Lib.hid j23
      have J25 := Lib.hid j25
      have H21 := Lib.hid h21
      clear hap hlu k21 h21 j23 j25 j5
      simp only [dstsOf, List.take_succ_cons, List.take_zero, List.filterMap_cons, List.filterMap_nil, List.map_cons, List.map_nil, List.drop_succ_cons, List.drop_zero]
      rw [e21, h23, h25, h26, h5, e21, h23, h25]
      clear e21 h23 h25 h26 h5
      simp only [putAll]
      go_simp
      go_wp2_with (refine wpList_store_row rfl 164 _ _ rfl (lo 7) rfl [.slice (some ⟨ga, 0, none⟩) n ca, .slice (some ⟨lo 3, 0, none⟩) n n, .slice (some ⟨lo 5, 0, none⟩) n n] rfl io hoi hos 164 _ J5.out rfl (by simp [Value.oneCell']) ?_; intro w3 hput hrow)
      go_meet
      case rel =>
        exact ⟨lo 7, ga, lo 3, lo 5, ca, n, n, rfl, ⟨hrow, (H21.out.put hput rfl (show ga ≠ lo 7 by omega)).base_le l21, (J23.out.put hput rfl (show lo 3 ≠ lo 7 by omega)).base_le l23, (J25.out.put hput rfl (show lo 5 ≠ lo 7 by omega)).base_le l25, by omega, by omega, by omega, by omega, by omega, by omega, l5⟩, hC.trans (hput.below l5)⟩
  case rest =>
    obtain ⟨g, ga, gb, gk, ca, cb, ck, rfl, hT, hbc⟩ := hcut
    obtain ⟨c0, c1, c2⟩ := hT.cells
    have HT := Lib.hid hT
    have HU : Hid (UpOk n (up ⟨names, subs⟩)) := by have := up_ok (s := ⟨names, subs⟩) (by rw [HN.out]; exact HIN.out); rw [HN.out] at this; exact this
    have hgB := hT.hg
    have hbc2 := hbc
    clear hT hbc
    go_wp2
    clear c0 c1 c2
    obtain ⟨wc0, rfl⟩ : ∃ x : World, x = wc := ⟨_, rfl⟩
    go_loopw [30] (fun i wr => ∃ k : Nat, k ≤ n ∧ i = .int .i64 k ∧ Trio wr w2.heap.size g ga gb gk ca cb ck n (up ⟨names, subs⟩) (downs (up ⟨names, subs⟩) k (List.replicate n 0)) (kFill n k) ∧ Below w2.heap.size w2 wr) (fun i _ => n - (intOf i).toNat)
    case atStart => exact ⟨0, Nat.zero_le _, rfl, by simpa [downs, kFill] using HT.out, hbc2⟩
    case round =>
      obtain ⟨k, hk, rfl, hT, hb⟩ := hrel
      obtain ⟨c0, c1, c2⟩ := hT.cells
      have HT1 := Lib.hid hT
      have hb1 := hb
      clear hT hb
      by_cases hkn : k < n
      · obtain ⟨r0, t0⟩ := HU.out.get hkn
        have d0 := HT1.out.ia.cell (casts_get r0)
        have hb256 : 2 ^ n ≤ 2 ^ 8 := Nat.pow_le_pow_right (by omega) hn8
        have hu : (up ⟨names, subs⟩).getD k 0 < 65536 := by omega
        have HKS := Lib.hid (listOf_lt t0)
        have HDS : Hid (downs (up ⟨names, subs⟩) (k + 1) (List.replicate n 0) = downIn k (downs (up ⟨names, subs⟩) k (List.replicate n 0)) (listOf ((up ⟨names, subs⟩).getD k 0))) := rfl
        have HDO := Lib.hid (UpOk.downs HU.out k hk (UpOk.zeros n))
        have hgb := (HT1.out.ib.lt _ rfl).2
        have hgw : g < wr.heap.size := (Array.getElem?_eq_some_iff.1 HT1.out.row).1
        clear r0 t0 hb256
        generalize hD : downs (up ⟨names, subs⟩) k (List.replicate n 0) = D at *
        clear hD
        generalize (up ⟨names, subs⟩).getD k 0 = u at *
        have hlen : (listOf u).length ≤ 16 := bitsTo_len u 16
        have HL := Lib.hid (fun w => implListOf u hu w)
        clear hu
        generalize listOf u = ks at *
        go_wp2_with (go_at_call 148; refine (HL.out _).mono ?_; rintro e wl ⟨v, rfl, hI, hbl⟩; obtain ⟨A, cap, rfl, hcc, hmm, hA⟩ := hI.form)
        rw [casts_len] at hcc hA
        rw [casts_len]
        unfold maxLen at hmm
        have HI := Lib.hid hI
        have hwl := hbl.size
        have HT2 := Lib.hid (HT1.out.below hbl)
        have hb2 : Below w2.heap.size w2 wl := hb1.trans (hbl.mono hb1.size)
        have HA := Lib.hid hA
        have zwr := hb1.size
        clear hI hbl c0 c1 c2 d0 HT1 hA hb1
        obtain ⟨wo, rfl⟩ : ∃ x : World, x = wr := ⟨_, rfl⟩
        go_loopw [38] (fun i wr => ∃ j : Nat, j ≤ ks.length ∧ i = .int .i64 j ∧ Trio wr w2.heap.size g ga gb gk ca cb ck n (up ⟨names, subs⟩) (downIn k D (ks.take j)) (kFill n k) ∧ Ints wr wo.heap.size (.slice A ks.length cap) (casts ks) ∧ Below w2.heap.size w2 wr) (fun i _ => ks.length - (intOf i).toNat)
        case atStart => exact ⟨0, Nat.zero_le _, rfl, by simpa [downIn] using HT2.out, by have := HI.out; rw [casts_len] at this; exact this, hb2⟩
        case round =>
          obtain ⟨j, hj, rfl, hT, hI, hb⟩ := hrel
          obtain ⟨c0, c1, c2⟩ := hT.cells
          have HT3 := Lib.hid hT
          have HI3 := Lib.hid hI
          clear hT hI
          by_cases hjn : j < ks.length
          · obtain ⟨gl, rfl, hg1, hg2⟩ := HA.out (by omega)
            have hx : ks[j]? = some ks[j] := List.getElem?_eq_getElem hjn
            have hxn := HKS.out _ (List.getElem_mem hjn)
            have dx := HI3.out.cell (casts_get hx)
            have HDJ := Lib.hid (HDO.out.downIn hkn (fun q hq => HKS.out q (List.mem_of_mem_take hq)) : UpOk n (downIn k D (ks.take j)))
            obtain ⟨r1, t1⟩ := HDJ.out.get hxn
            have dy := HT3.out.ib.cell (casts_get r1)
            have fy := HT3.out.ib.frozen ks[j]
            have HST : Hid (downIn k D (ks.take (j + 1)) = (downIn k D (ks.take j)).set ks[j] ((downIn k D (ks.take j)).getD ks[j] 0 ||| 2 ^ k)) := by show _ = _; exact foldl_take (f := fun (l : List Nat) (k' : Nat) => l.set k' (l.getD k' 0 ||| 2 ^ k)) hx D
            have hb256 : 2 ^ n ≤ 2 ^ 8 := Nat.pow_le_pow_right (by omega) hn8
            have HX : Hid ((downIn k D (ks.take j)).getD ks[j] 0 < 4611686018427387904) := Lib.hid (by omega)
            clear r1 t1 hb256 hx
            generalize downIn k D (ks.take j) = E at *
            generalize ks[j] = x at *
            generalize E.getD x 0 = y at *
            go_wp2_with fail
            (refine wp_region_still_tail 12 (by kernel_rfl) (by kernel_rfl) ?_
             simp only [List.take_succ_cons, List.take_zero, List.drop_succ_cons, List.drop_zero]
             change wpStill _ _ (World.drew _) _ _ _
             repeat still_step
             refine wpStill_nil ?_
             change wpList _ _ _ _ _ (World.drew _))
            go_wp2
            go_roundw
            case rel =>
              have hxl : x < E.length := by rw [HDJ.out.1]; exact hxn
              have hlt := (HI3.out.lt gl rfl).1
              refine ⟨j + 1, by omega, by go_num, ?_, ?_, ?_⟩
              · rw [HST.out, shl_one (by omega), bits_or HX.out (pow_lt62 (by omega))]
                exact (HT3.out.below (belowD _)).setB hxl _
              · exact Ints.other (HI3.out.drew) gb _ rfl (show gl ≠ gb by omega) x
              · exact (below_drewN hb 1).setCell (p := ⟨gb, x, none⟩) (show w2.heap.size ≤ gb from (HT3.out.ib.lt gb rfl).1) _
            case measure => simp [intOf]; omega
          · obtain rfl : j = ks.length := by omega
            rw [List.take_of_length_le (Nat.le_refl _)] at HT3
            have dk : ∃ y : Int, wr.cell? ⟨gk, k, none⟩ = some (.int .i64 y) := by
              have : k < (casts (kFill n k)).length := by rw [casts_len, kFill_len hk]; exact hkn
              exact ⟨_, HT3.out.ik.cell (List.getElem?_eq_getElem this)⟩
            obtain ⟨y, dk⟩ := dk
            have fk := HT3.out.ik.frozen k
            go_wp2
            go_roundw
            case rel =>
              refine ⟨k + 1, by omega, by go_num, ?_, ?_⟩
              · rw [HDS.out, ← kFill_set hkn]
                exact HT3.out.setK (by rw [kFill_len hk]; exact hkn) k
              · exact hb.setCell (p := ⟨gk, k, none⟩) (show w2.heap.size ≤ gk from (HT3.out.ik.lt gk rfl).1) _
            case measure => simp [intOf]; omega
      · obtain rfl : n = k := by omega
        rw [kFill_end] at HT1
        have q2 := keepB (hb1.mono (Nat.le_refl _)) q1
        go_wp2
        clear c0 c1 c2 q2
        obtain ⟨wo, rfl⟩ : ∃ x : World, x = wr := ⟨_, rfl⟩
        go_loopw [62] (fun i wr => ∃ j : Nat, j ≤ n ∧ i = .int .i64 j ∧ Trio wr w2.heap.size g ga gb gk ca cb ck n (up ⟨names, subs⟩) (downs (up ⟨names, subs⟩) n (List.replicate n 0)) (kIter subs j (List.range n)) ∧ Below w2.heap.size w2 wr) (fun i _ => n - (intOf i).toNat)
        case atStart => exact ⟨0, Nat.zero_le _, rfl, HT1.out, hb1⟩
        case round =>
          obtain ⟨j, hj, rfl, hT, hb⟩ := hrel
          obtain ⟨c0, c1, c2⟩ := hT.cells
          have HT3 := Lib.hid hT
          clear hT
          by_cases hjn : j < n
          · have q2 := keepB hb q1
            go_wp2
            have hb2 := hb
            clear hb c0 c1 c2 q2
            obtain ⟨wp, rfl⟩ : ∃ x : World, x = wr := ⟨_, rfl⟩
            go_loopw [67] (fun i wr => ∃ k : Nat, k ≤ m ∧ i = .int .i64 k ∧ Trio wr w2.heap.size g ga gb gk ca cb ck n (up ⟨names, subs⟩) (downs (up ⟨names, subs⟩) n (List.replicate n 0)) ((subs.take k).foldl kSub (kIter subs j (List.range n))) ∧ Below w2.heap.size w2 wr) (fun i _ => m - (intOf i).toNat)
            case atStart => exact ⟨0, Nat.zero_le _, rfl, HT3.out, hb2⟩
            case round =>
              obtain ⟨k, hk, rfl, hT, hb⟩ := hrel
              obtain ⟨c0, c1, c2⟩ := hT.cells
              have HT4 := Lib.hid hT
              clear hT
              by_cases hkm : k < m
              · obtain ⟨p, hp⟩ : ∃ p, subs[k]? = some p := ⟨_, List.getElem?_eq_getElem (by have := HM.out; omega)⟩
                obtain ⟨b, off, rfl, hS, hbz, hrow⟩ := Rep.at okSubR HOK.out.2 (E1.out.below (hw2.trans (hb.mono hw2.size))) hp
                obtain ⟨g0, g1, g2, g3, g4⟩ := HSB.out p (List.mem_of_getElem? hp)
                rw [HN.out] at g1 g3
                obtain ⟨lo, hi'⟩ := p
                simp only [encSub, RepRow, and_true, fieldsOf, List.length_cons, List.length_nil, Nat.reduceAdd, Rep.lit_iff] at hrow
                obtain ⟨⟨_, e0, rfl⟩, ⟨_, e1, rfl⟩⟩ := hrow
                simp only at g0 g1 g2 g3 g4
                obtain ⟨lo, rfl⟩ := Int.eq_ofNat_of_zero_le g0
                obtain ⟨hi', rfl⟩ := Int.eq_ofNat_of_zero_le g2
                have hne : hi' ≠ lo := by omega
                clear g4
                have hup := (KOk.iter HIN.out j (KOk.start n)).foldl (HIN.out.take k)
                have HL := Lib.hid hup.1
                obtain ⟨r0, t0⟩ := hup.get (i := lo) (by omega)
                obtain ⟨r1, t1⟩ := hup.get (i := hi') (by omega)
                have HST := Lib.hid (foldl_take (f := kSub) hp (kIter subs j (List.range n)))
                generalize hG : (subs.take k).foldl kSub (kIter subs j (List.range n)) = G at *
                have d0 := HT4.out.ik.cell (casts_get r0)
                have d1 := HT4.out.ik.cell (casts_get r1)
                have f0 := HT4.out.ik.frozen lo
                have f1 := HT4.out.ik.frozen hi'
                have hlt : gk < wr.heap.size := (HT4.out.ik.lt _ rfl).2
                have hgw : g < wr.heap.size := (Array.getElem?_eq_some_iff.1 HT4.out.row).1
                have hkg := HT4.out.e3
                have HU2 : Hid (kSub G (lo, hi') = (G.set lo (min (G.getD lo 0) (G.getD hi' 0))).set hi' (min (G.getD lo 0) (G.getD hi' 0))) := by show _ = _; simp [kSub]
                clear hup t0 t1 r0 r1 hG hp
                generalize G.getD lo 0 = x0 at *
                generalize G.getD hi' 0 = x1 at *
                go_wp2_with (refine wpList_store_new rfl 192 _ _ rfl _ _ _ rfl _ rfl (by simp) [.int .i64 lo, .int .i64 hi'] rfl ic hci hcs rfl (by simp [Value.oneCell']) ?_)
                go_quiet (fail)
                have emin : (if x1 < x0 then (x1 : Int) else (x0 : Int)) = ((min x0 x1 : Nat) : Int) := by split <;> omega
                rw [emin]
                clear emin
                have y0 : ((wr.alloc (.cells #[.int .i64 lo, .int .i64 hi'] 192)).drewN nq).cell? ⟨wr.heap.size, 0, none⟩ = some (.int .i64 lo) := by simp
                have y1 : ((wr.alloc (.cells #[.int .i64 lo, .int .i64 hi'] 192)).drewN nq).cell? ⟨wr.heap.size, 1, none⟩ = some (.int .i64 hi') := by simp
                have HT5 := Lib.hid ((HT4.out.below (belowA _ (.cells #[.int .i64 lo, .int .i64 hi'] 192))).below (belowN _ nq))
                have hb5 := below_drewN (hb.alloc (by have := hb.size; omega) (.cells #[.int .i64 lo, .int .i64 hi'] 192)) nq
                have hgx : wr.heap.size ≠ gk := by omega
                have hgx2 : wr.heap.size ≠ g := by omega
                clear c0 c1 c2 d0 d1 f0 f1 HT4 hlt hgw hb e0 e1 hbz
                generalize (wr.alloc (.cells #[.int .i64 lo, .int .i64 hi'] 192)).drewN nq = wq at *
                generalize wr.heap.size = gx at *
                obtain ⟨_, _, c2⟩ := HT5.out.cells
                have d0 : ∃ y : Int, wq.cell? ⟨gk, lo, none⟩ = some (.int .i64 y) := ⟨_, HT5.out.ik.cell (List.getElem?_eq_getElem (by rw [casts_len, HL.out]; omega))⟩
                have d1 : ∃ y : Int, wq.cell? ⟨gk, hi', none⟩ = some (.int .i64 y) := ⟨_, HT5.out.ik.cell (List.getElem?_eq_getElem (by rw [casts_len, HL.out]; omega))⟩
                obtain ⟨_, d0⟩ := d0
                obtain ⟨_, d1⟩ := d1
                have f0 := HT5.out.ik.frozen lo
                have f1 := HT5.out.ik.frozen hi'
                have HKB := Lib.hid (HT5.out.ik.lt gk rfl).1
                generalize min x0 x1 = mn at *
                go_wp2
                go_roundw
                case rel =>
                  refine ⟨k + 1, by omega, by go_num, ?_, (hb5.setCell (p := ⟨gk, lo, none⟩) HKB.out _).setCell (p := ⟨gk, hi', none⟩) HKB.out _⟩
                  rw [HST.out, HU2.out]
                  exact (HT5.out.setK (by rw [HL.out]; omega) mn).setK (by rw [List.length_set, HL.out]; omega) mn
                case measure => simp [intOf]; omega
              · have HTK : Hid (subs.take k = subs) := List.take_of_length_le (by have := HM.out; omega)
                go_wp2
                go_roundw
                case rel => exact ⟨j + 1, by omega, by go_num, by have := HT4.out; rw [HTK.out] at this; exact this, hb⟩
                case measure => simp [intOf]; omega
          · obtain rfl : n = j := by omega
            have HR2 := Lib.hid ((hb.block _ z2).trans HR.out)
            go_wp2_with (refine wpList_store_row rfl 164 _ _ rfl (w.heap.size + 1) rfl [.slice (some ⟨ga, 0, none⟩) n ca, .slice (some ⟨gb, 0, none⟩) n cb, .slice (some ⟨gk, 0, none⟩) n ck] rfl io hoi hos 164 _ HR2.out rfl (by simp [Value.oneCell']) ?_; intro w3 hput hrow)
            have k0 := hput.new 0 _ rfl
            have k1 := hput.new 1 _ rfl
            have k2 := hput.new 2 _ rfl
            simp only [Nat.zero_add] at k0 k1 k2
            have hgA : w2.heap.size ≤ ga := (HT3.out.ia.lt ga rfl).1
            have hgB' : w2.heap.size ≤ gb := (HT3.out.ib.lt gb rfl).1
            have hgK : w2.heap.size ≤ gk := (HT3.out.ik.lt gk rfl).1
            refine bodyPost_ret (v := .tuple #[.agg #[.slice (some ⟨ga, 0, none⟩) n ca, .slice (some ⟨gb, 0, none⟩) n cb, .slice (some ⟨gk, 0, none⟩) n ck], .bool true]) (by simp [results, Tryz.results106, go_sem, k0, k1, k2]) rfl ⟨_, _, _, rfl, ?_, ?_, ?_, ?_⟩
            · exact (HT3.out.ia.put hput rfl (show ga ≠ w.heap.size + 1 by omega)).base_le (show w.heap.size ≤ w2.heap.size by omega)
            · have e : down ⟨names, subs⟩ = downs (up ⟨names, subs⟩) n (List.replicate n 0) := by unfold down; rw [HN.out]
              rw [e]
              exact (HT3.out.ib.put hput rfl (show gb ≠ w.heap.size + 1 by omega)).base_le (show w.heap.size ≤ w2.heap.size by omega)
            · have e : kinds ⟨names, subs⟩ = kIter subs n (List.range n) := by unfold kinds; rw [HN.out]
              rw [e]
              exact (HT3.out.ik.put hput rfl (show gk ≠ w.heap.size + 1 by omega)).base_le (show w.heap.size ≤ w2.heap.size by omega)
            · exact (hw2.trans (hb.mono hw2.size)).trans (hput.below (by omega))
end Go.Proofs.YtpbikjkjfojjiaaGreat
namespace Go.Proofs.YtpbikjkjfojjiaaGreat
open Go.RowKit Go.Sort
def inR (n : Nat) (k : Int) : Bool := decide (0 ≤ k ∧ k < n)
theorem inR_true {n : Nat} {k : Int} (h : 0 ≤ k ∧ k < n) : inR n k = true := decide_eq_true h
theorem inR_false {n : Nat} {k : Int} (h : ¬ (0 ≤ k ∧ k < n)) : inR n k = false := decide_eq_false h
set_option maxRecDepth 100000 in
theorem implHas (A : Option Addr) (n cap : Nat) (vb vk : Value) (k : Int) (w : World) (hb1 : vb.oneCell' = true) (hk1 : vk.oneCell' = true) (hcap : cap ≤ maxLen) (hn : n ≤ cap) :
    Calls Tryz.prog 168 #[.agg #[.slice A n cap, vb, vk], .int .i64 k] w fun e w' => e = .returned (.bool (inR n k)) ∧ Below w.heap.size w w' := by
  unfold maxLen at hcap
  by_cases h0 : 0 ≤ k
  · by_cases h1 : k < n
    · go_enter Tryz.func168, Tryz.ntmps168
      go_wp2
      all_goals
        go_ret
        exact ⟨ret_bool (by rw [Bool.eq_iff_iff]; simp [inR]; try omega), belowA _ _⟩
    · go_enter Tryz.func168, Tryz.ntmps168
      go_wp2
      all_goals
        go_ret
        exact ⟨ret_bool (by rw [Bool.eq_iff_iff]; simp [inR]; try omega), belowA _ _⟩
  · go_enter Tryz.func168, Tryz.ntmps168
    go_wp2
    all_goals
      go_ret
      exact ⟨ret_bool (by rw [Bool.eq_iff_iff]; simp [inR]; try omega), belowA _ _⟩
def kd (s : Srt) (k : Int) : Nat := (kinds s).getD k.toNat 0
structure DeclOk (s : Srt) (f d : Dcl) : Prop where
  len : d.args.length = f.args.length
  res : 0 ≤ d.res ∧ d.res < s.names.length
  args : ∀ k ∈ d.args, 0 ≤ k ∧ k < s.names.length
  kres : kd s d.res = kd s f.res
  kargs : ∀ (i : Nat) (a b : Int), d.args[i]? = some a → f.args[i]? = some b → kd s a = kd s b
structure DeclsOk (s : Srt) (o : Opr) : Prop where
  len1 : 1 ≤ o.decls.length
  len4 : o.decls.length ≤ 4
  ar : ∀ f, o.decls[0]? = some f → f.args.length ≤ 3
  all : ∀ f, o.decls[0]? = some f → ∀ d ∈ o.decls, DeclOk s f d
open Classical in
noncomputable def declsOk (s : Srt) (o : Opr) : Bool := decide (DeclsOk s o)
theorem declsOk_true {s : Srt} {o : Opr} (h : DeclsOk s o) : declsOk s o = true := by simp [declsOk, h]
theorem declsOk_false {s : Srt} {o : Opr} (h : ¬ DeclsOk s o) : declsOk s o = false := by simp [declsOk, h]
theorem declsOk_iff {s : Srt} {o : Opr} : declsOk s o = true ↔ DeclsOk s o := by simp [declsOk]
theorem Rep.int {w : World} {S : Nat → Prop} {l : List Int} {A : Option Addr} {m cap k : Nat} {x : Int} (hl : ∀ x ∈ l, I64 x) (h : Rep w S (.sl (l.map encInt)) (.slice A m cap)) (hx : l[k]? = some x) : ∃ b off, A = some ⟨b, off, none⟩ ∧ b < w.heap.size ∧ w.cell? ⟨b, off + k, none⟩ = some (.int .i64 x) := by
  obtain ⟨b, off, hA, _, hb, hr⟩ := Rep.at okInt hl h hx
  simp only [encInt, RepRow, and_true, fieldsOf, List.length_cons, List.length_nil, Nat.zero_add, Nat.mul_one, Rep.lit_iff] at hr
  obtain ⟨_, hc, rfl⟩ := hr
  exact ⟨b, off, hA, hb, hc⟩
theorem casts_I64 {l : List Nat} (h : ∀ x ∈ l, x < 1000) : ∀ x ∈ casts l, I64 x := by
  intro x hx
  obtain ⟨y, hy, rfl⟩ := List.mem_map.1 hx
  have := h y hy
  exact ⟨by omega, by omega⟩
theorem info_Decl' : (Tryz.prog.info? 181).map (fun i => (i.zero, i.size, i.bytes)) = some (some (.agg #[.slice none 0 0, .int .i64 0]), 2, 32) := by kernel_rfl
/-- The number of a kind, as it lies. -/
theorem kd_cell {w : World} {S : Nat → Prop} {s : Srt} {A : Option Addr} {m cap : Nat} (hK : KOk s.names.length (kinds s)) (h8 : s.names.length ≤ 8) (h : Rep w S (.sl ((casts (kinds s)).map encInt)) (.slice A m cap)) {k : Nat} (hk : k < s.names.length) :
    ∃ b off, A = some ⟨b, off, none⟩ ∧ b < w.heap.size ∧ w.cell? ⟨b, off + k, none⟩ = some (.int .i64 (kd s (k : Int))) := by
  obtain ⟨h1, h2⟩ := hK.get hk
  have := Rep.int (casts_I64 fun x hx => by have := hK.2 x hx; omega) h (casts_get h1)
  simpa [kd] using this
set_option maxHeartbeats 4000000 in
set_option maxRecDepth 100000 in
theorem implDeclsOK (s : Srt) (o : Opr) (S : Nat → Prop) (Aa Ak : Option Addr) (n ca ck : Nat) (vb : Value) (us : List Value) (w : World) (hN : s.names.length = n) (h8 : n ≤ 8) (hK : KOk n (kinds s)) (hok : okOpr o) (hv : RepVals w S (encOpr o) us)
    (hb1 : vb.oneCell' = true) (hca : ca ≤ maxLen) (hna : n ≤ ca) (hk : Rep w S (.sl ((casts (kinds s)).map encInt)) (.slice Ak n ck)) :
    Calls Tryz.prog 144 #[.agg #[.slice Aa n ca, vb, .slice Ak n ck], .agg us.toArray] w fun e w' => e = .returned (.bool (declsOk s o)) ∧ Below w.heap.size w w' := by
  have hkl : (kinds s).length = n := hK.1
  have hkm : ck ≤ maxLen := by
    obtain ⟨_, _, h, _, h2⟩ := hk.shape
    injection h with _ _ h
    rw [h]
    exact h2
  obtain ⟨name, decls, ac, cm, un⟩ := o
  simp only [encOpr] at hv
  obtain ⟨v1, rfl, e1⟩ := repVals_Op hv
  obtain ⟨A1, cap1, rfl, hc1, hm1⟩ := e1.shape
  obtain ⟨ic, hci, _, hcs, _⟩ := info_parts info_Decl'
  have hne : ∀ {P : Prop}, P → P := id
  clear hne
  have HOK := Lib.hid hok
  have E1 := Lib.hid e1
  have HK := Lib.hid hK
  have HKR := Lib.hid hk
  have HN := Lib.hid hN
  clear hv e1 hok hkl hK hk hN
  generalize hM : decls.length = m at *
  have HM := Lib.hid hM
  clear hM
  have HH := Lib.hid (fun (k : Int) (w : World) => implHas Aa n ca vb (.slice Ak n ck) k w hb1 rfl hca hna)
  unfold maxLen at hm1 hca hkm
  by_cases hm0 : m = 0
  · subst hm0
    have HF : Hid (declsOk s ⟨name, decls, ac, cm, un⟩ = false) := declsOk_false fun h => by have := h.len1; have := HM.out; simp only at *; omega
    go_enter Tryz.func144, Tryz.ntmps144
    go_wp2
    go_ret
    exact ⟨ret_bool HF.out.symm, (belowA _ _).trans ((belowA _ _).mono (belowA _ _).size)⟩
  by_cases hm4 : 4 < m
  · have HF : Hid (declsOk s ⟨name, decls, ac, cm, un⟩ = false) := declsOk_false fun h => by have := h.len4; have := HM.out; simp only at *; omega
    go_enter Tryz.func144, Tryz.ntmps144
    go_wp2
    go_ret
    exact ⟨ret_bool HF.out.symm, (belowA _ _).trans ((belowA _ _).mono (belowA _ _).size)⟩
  obtain ⟨f, hf⟩ : ∃ f, decls[0]? = some f := ⟨_, List.getElem?_eq_getElem (by have := HM.out; omega)⟩
  obtain ⟨b1, o1, rfl, _, hz1, hrow⟩ := Rep.at okDclR HOK.out.2.1 E1.out hf
  have HFOK := Lib.hid (HOK.out.2.1 f (List.mem_of_getElem? hf))
  have HF0 := Lib.hid hf
  obtain ⟨fargs, fres⟩ := f
  simp only [encDcl, RepRow, and_true, fieldsOf, List.length_cons, List.length_nil, Nat.reduceAdd, Nat.zero_mul, Nat.add_zero, Rep.lit_iff] at hrow
  obtain ⟨⟨u0, c0, r0⟩, ⟨_, c1, rfl⟩⟩ := hrow
  obtain ⟨Af, capf, rfl, hcf, hmf⟩ := r0.shape
  have RF := Lib.hid r0
  clear hf r0
  unfold maxLen at hmf
  generalize hLF : fargs.length = lf at *
  have HLF := Lib.hid hLF
  clear hLF
  by_cases hl3 : 3 < lf
  · have HF : Hid (declsOk s ⟨name, decls, ac, cm, un⟩ = false) := declsOk_false fun h => by have := h.ar _ HF0.out; have := HLF.out; simp only at *; omega
    go_enter Tryz.func144, Tryz.ntmps144
    go_wp2
    go_ret
    exact ⟨ret_bool HF.out.symm, (belowA _ _).trans ((belowA _ _).mono (belowA _ _).size)⟩
  go_enter Tryz.func144, Tryz.ntmps144
  go_wp2_with (refine wpList_store_new rfl 181 _ _ rfl _ _ _ rfl _ rfl (by simp) [.slice Af lf capf, .int .i64 fres] rfl ic hci hcs rfl (by simp [Value.oneCell']) ?_)
  generalize hW : ((w.alloc _).alloc _).alloc _ = W
  have hbW : Below w.heap.size w W := by rw [← hW]; exact (((Below.refl _ _).alloc (Nat.le_refl _) _).alloc (by simp) _).alloc (by simp; omega) _
  have p0 : W.cell? ⟨w.heap.size, 0, none⟩ = some (.slice Aa n ca) := (by rw [← hW]; repeat' (first | (simp; done) | exact keepNew (by simp) rfl | refine keepA _ ?_))
  have p1 : W.cell? ⟨w.heap.size, 1, none⟩ = some vb := (by rw [← hW]; repeat' (first | (simp; done) | exact keepNew (by simp) rfl | refine keepA _ ?_))
  have p2 : W.cell? ⟨w.heap.size, 2, none⟩ = some (.slice Ak n ck) := (by rw [← hW]; repeat' (first | (simp; done) | exact keepNew (by simp) rfl | refine keepA _ ?_))
  have p3 : W.cell? ⟨w.heap.size + 1, 1, none⟩ = some (.slice (some ⟨b1, o1, none⟩) m cap1) := (by rw [← hW]; repeat' (first | (simp; done) | exact keepNew (by simp) rfl | refine keepA _ ?_))
  have p4 : W.cell? ⟨w.heap.size + 1 + 1, 0, none⟩ = some (.slice Af lf capf) := (by rw [← hW]; repeat' (first | (simp; done) | exact keepNew (by simp) rfl | refine keepA _ ?_))
  have p5 : W.cell? ⟨w.heap.size + 1 + 1, 1, none⟩ = some (.int .i64 fres) := (by rw [← hW]; repeat' (first | (simp; done) | exact keepNew (by simp) rfl | refine keepA _ ?_))
  have z1 : w.heap.size + 1 + 1 < W.heap.size := by rw [← hW]; simp
  clear hW c0 c1
  generalize hg1 : w.heap.size + 1 + 1 = g5 at *
  generalize hg2 : w.heap.size + 1 = g3 at *
  clear hg1 hg2
  have V5 := Lib.hid (RF.out.below hbW)
  have VK := Lib.hid (HKR.out.below hbW)
  have V1 := Lib.hid (E1.out.below hbW)
  clear E1 HKR RF
  by_cases hfr : 0 ≤ fres ∧ fres < n
  rotate_left
  · have HF : Hid (declsOk s ⟨name, decls, ac, cm, un⟩ = false) := declsOk_false fun h => hfr (by have := (h.all _ HF0.out _ (List.mem_of_getElem? HF0.out)).res; rw [HN.out] at this; exact this)
    have hin := inR_false hfr
    refine (HH.out _ _).mono ?_
    rintro e w2 ⟨rfl, hb2⟩
    rw [hin]
    clear hin hfr
    go_wp2
    go_ret
    exact ⟨ret_bool HF.out.symm, hbW.trans (hb2.mono hbW.size)⟩
  have hin := inR_true hfr
  refine (HH.out _ _).mono ?_
  rintro e w2 ⟨rfl, hb2⟩
  rw [hin]
  clear hin
  have q4 := keepB hb2 p4
  go_wp2
  clear q4
  go_loopw [43] (fun i wr => ∃ k : Nat, k ≤ lf ∧ i = .int .i64 k ∧ (∀ j x, j < k → fargs[j]? = some x → 0 ≤ x ∧ x < n) ∧ Below W.heap.size W wr) (fun i _ => lf - (intOf i).toNat)
  case atStart => exact ⟨0, Nat.zero_le _, rfl, fun j x h => by omega, hb2⟩
  case round =>
    obtain ⟨k, hk, rfl, hall, hb⟩ := hrel
    have HALL := Lib.hid hall
    clear hall
    have q0 := keepB hb p0
    have q1 := keepB hb p1
    have q2 := keepB hb p2
    by_cases hkn : k < lf
    · obtain ⟨x, hx⟩ : ∃ x, fargs[k]? = some x := ⟨_, List.getElem?_eq_getElem (by have := HLF.out; omega)⟩
      obtain ⟨bf, of, rfl, hbz, cx⟩ := Rep.int HFOK.out.1 (V5.out.below hb) hx
      have HX := Lib.hid hx
      clear hx
      by_cases hxr : 0 ≤ x ∧ x < n
      · have hin := inR_true hxr
        go_wp2_with (go_at_call 168; refine (HH.out _ _).mono ?_; rintro e w3 ⟨rfl, hb3⟩; rw [hin])
        go_roundw
        case rel =>
          refine ⟨k + 1, by omega, by go_num, fun j y hj hy => ?_, hb.trans (hb3.mono hb.size)⟩
          by_cases hjk : j = k
          · subst hjk
            rw [HX.out] at hy
            injection hy with hy
            rw [← hy]
            exact hxr
          · exact HALL.out j y (by omega) hy
        case measure => simp [intOf]; omega
      · have hin := inR_false hxr
        have HF : Hid (declsOk s ⟨name, decls, ac, cm, un⟩ = false) := declsOk_false fun h => hxr (by have := (h.all _ HF0.out _ (List.mem_of_getElem? HF0.out)).args x (List.mem_of_getElem? HX.out); rw [HN.out] at this; exact this)
        go_wp2_with (go_at_call 168; refine (HH.out _ _).mono ?_; rintro e w3 ⟨rfl, hb3⟩; rw [hin])
        go_ret
        exact ⟨ret_bool HF.out.symm, hbW.trans ((hb.trans (hb3.mono hb.size)).mono hbW.size)⟩
    · obtain rfl : lf = k := by omega
      have HFA : Hid (∀ x ∈ fargs, 0 ≤ x ∧ x < (n : Int)) := fun x hx => by
        obtain ⟨j, hj⟩ := List.mem_iff_getElem?.1 hx
        exact HALL.out j x (by have := (List.getElem?_eq_some_iff.1 hj).1; have := HLF.out; omega) hj
      have q3 := keepB hb p3
      go_wp2
      clear q0 q1 q2 q3 HALL
      have hb4 := hb
      clear hb
      obtain ⟨wo, rfl⟩ : ∃ x : World, x = wr := ⟨_, rfl⟩
      go_loopw [55] (fun i wr => ∃ k : Nat, k ≤ m ∧ i = .int .i64 k ∧ (∀ j d, j < k → decls[j]? = some d → DeclOk s ⟨fargs, fres⟩ d) ∧ Below W.heap.size W wr) (fun i _ => m - (intOf i).toNat)
      case atStart => exact ⟨0, Nat.zero_le _, rfl, fun j x h => by omega, hb4⟩
      case round =>
        obtain ⟨k, hk, rfl, hall, hb⟩ := hrel
        have HALL := Lib.hid hall
        clear hall
        by_cases hkm' : k < m
        · obtain ⟨d, hd⟩ : ∃ d, decls[k]? = some d := ⟨_, List.getElem?_eq_getElem (by have := HM.out; omega)⟩
          obtain ⟨_, _, hA, _, hbz, hrow⟩ := Rep.at okDclR HOK.out.2.1 (V1.out.below hb) hd
          injection hA with hA
          injection hA with hA hA'
          subst hA hA'
          have HDOK := Lib.hid (HOK.out.2.1 d (List.mem_of_getElem? hd))
          have HD := Lib.hid hd
          clear hd
          obtain ⟨dargs, dres⟩ := d
          simp only [encDcl, RepRow, and_true, fieldsOf, List.length_cons, List.length_nil, Nat.reduceAdd, Rep.lit_iff] at hrow
          obtain ⟨⟨u0, c0, r0⟩, ⟨_, c1, rfl⟩⟩ := hrow
          obtain ⟨Ad, capd, rfl, hcd, hmd⟩ := r0.shape
          have RD := Lib.hid r0
          clear r0
          unfold maxLen at hmd
          generalize hLD : dargs.length = ld at *
          have HLD := Lib.hid hLD
          clear hLD
          have hone : ∀ u ∈ [Value.slice Ad ld capd, Value.int .i64 dres], u.oneCell' = true := by simp [Value.oneCell']
          have HONE := Lib.hid hone
          clear hone
          go_wp2_with (refine wpList_store_new rfl 181 _ _ rfl _ _ _ rfl _ rfl (by simp) [.slice Ad ld capd, .int .i64 dres] rfl ic hci hcs rfl HONE.out ?_)
          generalize hW9 : wr.alloc _ = W9
          have hb9 : Below wr.heap.size wr W9 := by rw [← hW9]; exact belowA _ _
          have y0 : W9.cell? ⟨wr.heap.size, 0, none⟩ = some (.slice Ad ld capd) := (by rw [← hW9]; repeat' (first | (simp; done) | exact keepNew (by simp) rfl | refine keepA _ ?_))
          have y1 : W9.cell? ⟨wr.heap.size, 1, none⟩ = some (.int .i64 dres) := (by rw [← hW9]; repeat' (first | (simp; done) | exact keepNew (by simp) rfl | refine keepA _ ?_))
          clear hW9 c0 c1
          have hb5 : Below W.heap.size W W9 := hb.trans (hb9.mono hb.size)
          have k0 := cell_regrown (keepB hb5 p0)
          have k1 := cell_regrown (keepB hb5 p1)
          have k2 := cell_regrown (keepB hb5 p2)
          have k4 := cell_regrown (keepB hb5 p4)
          have k5 := cell_regrown (keepB hb5 p5)
          have k6 := cell_regrown y0
          have k7 := cell_regrown y1
          have HC : Hid (∀ (x : Int) d os, Calls Tryz.prog 168 #[.agg #[.slice Aa n ca, vb, .slice Ak n ck], .int .i64 x] (grow (redrawn W9 d) os) fun e w'' => e = .returned (.bool (inR n x)) ∧ ∃ p : Regrown, w'' = grow (redrawn W9 p.d) p.os) := fun x d os => Calls.regrown_of (HH.out x _)
          by_cases hc1 : ld = lf
          rotate_left
          · have HF : Hid (declsOk s ⟨name, decls, ac, cm, un⟩ = false) := declsOk_false fun h => hc1 (by have := (h.all _ HF0.out _ (List.mem_of_getElem? HD.out)).len; have := HLD.out; have := HLF.out; simp only at *; omega)
            have n1 : (ld == lf) = false := by simp [hc1]
            have n2 : ((ld : Int) == (lf : Int)) = false := by simp; omega
            have n3 : ((ld : Int) != (lf : Int)) = true := by simp; omega
            (refine wp_region_quiet_below (by kernel_rfl) (by kernel_rfl) ?_
             repeat (first | go_big_quiet_step (first | (go_at_call 168; exact HC.out _ _ _)) | quiet_step (first | (go_at_call 168; exact HC.out _ _ _)))
             refine wpQuiet_nil ?_
             intro _ hw'
             obtain ⟨⟨dq, osq⟩, hw''⟩ := hw'
             subst hw'')
            go_wp2
            go_ret
            exact ⟨ret_bool HF.out.symm, hbW.trans ((hb5.trans ((below_regrown W9 dq osq).mono hb5.size)).mono hbW.size)⟩
          obtain rfl : lf = ld := hc1.symm
          by_cases hc2 : 0 ≤ dres ∧ dres < n
          rotate_left
          · have HF : Hid (declsOk s ⟨name, decls, ac, cm, un⟩ = false) := declsOk_false fun h => hc2 (by have := (h.all _ HF0.out _ (List.mem_of_getElem? HD.out)).res; rw [HN.out] at this; exact this)
            have hin := inR_false hc2
            have HCd := Lib.hid (fun d os => HC.out dres d os)
            rw [hin] at HCd
            clear hc2 hin
            (refine wp_region_quiet_below (by kernel_rfl) (by kernel_rfl) ?_
             repeat (first | go_big_quiet_step (first | (go_at_call 168; exact HCd.out _ _)) | quiet_step (first | (go_at_call 168; exact HCd.out _ _)))
             refine wpQuiet_nil ?_
             intro _ hw'
             obtain ⟨⟨dq, osq⟩, hw''⟩ := hw'
             subst hw'')
            go_wp2
            go_ret
            exact ⟨ret_bool HF.out.symm, hbW.trans ((hb5.trans ((below_regrown W9 dq osq).mono hb5.size)).mono hbW.size)⟩
          have HCd := Lib.hid (fun d os => HC.out dres d os)
          rw [inR_true hc2] at HCd
          obtain ⟨dn, rfl⟩ := Int.eq_ofNat_of_zero_le hc2.1
          obtain ⟨fn, rfl⟩ := Int.eq_ofNat_of_zero_le hfr.1
          obtain ⟨bk, ok, rfl, hbk, kc1⟩ := kd_cell (by rw [HN.out]; exact HK.out) (by rw [HN.out]; exact h8) (VK.out.below hb5) (k := dn) (by rw [HN.out]; omega)
          obtain ⟨_, _, hA, _, kc2⟩ := kd_cell (by rw [HN.out]; exact HK.out) (by rw [HN.out]; exact h8) (VK.out.below hb5) (k := fn) (by rw [HN.out]; omega)
          injection hA with hA
          injection hA with hA hA'
          subst hA hA'
          have k8 := cell_regrown kc1
          have k9 := cell_regrown kc2
          by_cases hc3 : kd s dn = kd s fn
          rotate_left
          · have HF : Hid (declsOk s ⟨name, decls, ac, cm, un⟩ = false) := declsOk_false fun h => hc3 (h.all _ HF0.out _ (List.mem_of_getElem? HD.out)).kres
            generalize kd s dn = kx at *
            generalize kd s fn = ky at *
            have n1 : (kx == ky) = false := by simp [hc3]
            have n2 : ((kx : Int) == (ky : Int)) = false := by simp; omega
            have n3 : ((kx : Int) != (ky : Int)) = true := by simp; omega
            (refine wp_region_quiet_below (by kernel_rfl) (by kernel_rfl) ?_
             repeat (first | go_big_quiet_step (first | (go_at_call 168; exact HCd.out _ _)) | quiet_step (first | (go_at_call 168; exact HCd.out _ _)))
             refine wpQuiet_nil ?_
             intro _ hw'
             obtain ⟨⟨dq, osq⟩, hw''⟩ := hw'
             subst hw'')
            go_wp2
            go_ret
            exact ⟨ret_bool HF.out.symm, hbW.trans ((hb5.trans ((below_regrown W9 dq osq).mono hb5.size)).mono hbW.size)⟩
          have HC3 := Lib.hid hc3
          rw [hc3] at k8 kc1
          generalize kd s fn = ky at k8 k9 kc1 kc2
          clear hc3
          (refine wp_region_quiet_below (by kernel_rfl) (by kernel_rfl) ?_
           repeat (first | go_big_quiet_step (first | (go_at_call 168; exact HCd.out _ _)) | quiet_step (first | (go_at_call 168; exact HCd.out _ _)))
           refine wpQuiet_nil ?_
           intro _ hw'
           obtain ⟨⟨dq, osq⟩, hw''⟩ := hw'
           subst hw'')
          have hb6 : Below W.heap.size W (grow (redrawn W9 dq) osq) := hb5.trans ((below_regrown W9 dq osq).mono hb5.size)
          have y2 := k6 dq osq
          have y3 := k7 dq osq
          clear k0 k1 k2 k4 k5 k6 k7 k8 k9 kc1 kc2 HCd HC y0 y1
          have hb10 := below_regrown W9 dq osq
          have RD2 := Lib.hid ((RD.out.below hb9).below hb10)
          clear RD
          generalize grow (redrawn W9 dq) osq = W10 at *
          go_wp2
          have hb11 := hb6
          clear y2 y3 hb5 hb6 hb9 hb10
          obtain ⟨wo2, rfl⟩ : ∃ x : World, x = wr := ⟨_, rfl⟩
          go_loopw [91] (fun i wr => ∃ j : Nat, j ≤ lf ∧ i = .int .i64 j ∧ (∀ (i : Nat) (a b : Int), i < j → dargs[i]? = some a → fargs[i]? = some b → (0 ≤ a ∧ a < n) ∧ kd s a = kd s b) ∧ Below W10.heap.size W10 wr) (fun i _ => lf - (intOf i).toNat)
          case atStart => exact ⟨0, Nat.zero_le _, rfl, fun i a b h => by omega, Below.refl _ _⟩
          case round =>
            obtain ⟨j, hj, rfl, hall, hb⟩ := hrel
            have HA2 := Lib.hid hall
            clear hall
            by_cases hjn : j < lf
            · obtain ⟨x, hx⟩ : ∃ x, dargs[j]? = some x := ⟨_, List.getElem?_eq_getElem (by have := HLD.out; omega)⟩
              obtain ⟨y, hy⟩ : ∃ y, fargs[j]? = some y := ⟨_, List.getElem?_eq_getElem (by have := HLF.out; omega)⟩
              obtain ⟨bd, od, rfl, hbd, cx⟩ := Rep.int HDOK.out.1 (RD2.out.below hb) hx
              have hb12 : Below W.heap.size W wr := hb11.trans (hb.mono hb11.size)
              obtain ⟨bf, of, rfl, hbf, cy⟩ := Rep.int HFOK.out.1 (V5.out.below hb12) hy
              have hyr := HFA.out y (List.mem_of_getElem? hy)
              have HX := Lib.hid hx
              have HY := Lib.hid hy
              clear hx hy
              have k0 := cell_regrown (keepB hb12 p0)
              have k1 := cell_regrown (keepB hb12 p1)
              have k2 := cell_regrown (keepB hb12 p2)
              have k4 := cell_regrown (keepB hb12 p4)
              have k5 := cell_regrown cy
              have HC : Hid (∀ (x : Int) d os, Calls Tryz.prog 168 #[.agg #[.slice Aa n ca, vb, .slice (some ⟨bk, ok, none⟩) n ck], .int .i64 x] (grow (redrawn wr d) os) fun e w'' => e = .returned (.bool (inR n x)) ∧ ∃ p : Regrown, w'' = grow (redrawn wr p.d) p.os) := fun x d os => Calls.regrown_of (HH.out x _)
              by_cases hxr : 0 ≤ x ∧ x < n
              rotate_left
              · have HF : Hid (declsOk s ⟨name, decls, ac, cm, un⟩ = false) := declsOk_false fun h => hxr (by have := (h.all _ HF0.out _ (List.mem_of_getElem? HD.out)).args x (List.mem_of_getElem? HX.out); rw [HN.out] at this; exact this)
                have HCd := Lib.hid (fun d os => HC.out x d os)
                rw [inR_false hxr] at HCd
                clear hxr
                go_wp2_with fail
                (refine wp_region_quiet_below (by kernel_rfl) (by kernel_rfl) ?_
                 repeat (first | go_big_quiet_step (first | (go_at_call 168; exact HCd.out _ _)) | quiet_step (first | (go_at_call 168; exact HCd.out _ _)))
                 refine wpQuiet_nil ?_
                 intro _ hw'
                 obtain ⟨⟨dq, osq⟩, hw''⟩ := hw'
                 subst hw'')
                go_wp2
                go_ret
                exact ⟨ret_bool HF.out.symm, hbW.trans ((hb12.trans ((below_regrown wr dq osq).mono hb12.size)).mono hbW.size)⟩
              have HCd := Lib.hid (fun d os => HC.out x d os)
              rw [inR_true hxr] at HCd
              obtain ⟨xn, rfl⟩ := Int.eq_ofNat_of_zero_le hxr.1
              obtain ⟨yn, rfl⟩ := Int.eq_ofNat_of_zero_le hyr.1
              obtain ⟨_, _, hA, _, kc1⟩ := kd_cell (by rw [HN.out]; exact HK.out) (by rw [HN.out]; exact h8) (VK.out.below hb12) (k := xn) (by rw [HN.out]; omega)
              injection hA with hA
              injection hA with hA hA'
              subst hA hA'
              obtain ⟨_, _, hA, _, kc2⟩ := kd_cell (by rw [HN.out]; exact HK.out) (by rw [HN.out]; exact h8) (VK.out.below hb12) (k := yn) (by rw [HN.out]; omega)
              injection hA with hA
              injection hA with hA hA'
              subst hA hA'
              have k8 := cell_regrown kc1
              have k9 := cell_regrown kc2
              by_cases hc3 : kd s xn = kd s yn
              rotate_left
              · have HF : Hid (declsOk s ⟨name, decls, ac, cm, un⟩ = false) := declsOk_false fun h => hc3 ((h.all _ HF0.out _ (List.mem_of_getElem? HD.out)).kargs j _ _ HX.out HY.out)
                generalize kd s xn = kx at *
                generalize kd s yn = kz at *
                have n1 : (kx == kz) = false := by simp [hc3]
                have n2 : ((kx : Int) == (kz : Int)) = false := by simp; omega
                have n3 : ((kx : Int) != (kz : Int)) = true := by simp; omega
                go_wp2_with fail
                (refine wp_region_quiet_below (by kernel_rfl) (by kernel_rfl) ?_
                 repeat (first | go_big_quiet_step (first | (go_at_call 168; exact HCd.out _ _)) | quiet_step (first | (go_at_call 168; exact HCd.out _ _)))
                 refine wpQuiet_nil ?_
                 intro _ hw'
                 obtain ⟨⟨dq, osq⟩, hw''⟩ := hw'
                 subst hw'')
                go_wp2
                go_ret
                exact ⟨ret_bool HF.out.symm, hbW.trans ((hb12.trans ((below_regrown wr dq osq).mono hb12.size)).mono hbW.size)⟩
              have HC4 := Lib.hid hc3
              rw [hc3] at k8 kc1
              generalize kd s yn = kz at k8 k9 kc1 kc2
              clear hc3
              go_wp2_with fail
              (refine wp_region_quiet_below (by kernel_rfl) (by kernel_rfl) ?_
               repeat (first | go_big_quiet_step (first | (go_at_call 168; exact HCd.out _ _)) | quiet_step (first | (go_at_call 168; exact HCd.out _ _)))
               refine wpQuiet_nil ?_
               intro _ hw'
               obtain ⟨⟨dq, osq⟩, hw''⟩ := hw'
               subst hw'')
              go_wp2
              go_roundw
              case rel =>
                refine ⟨j + 1, by omega, by go_num, fun i a b hi ha hb' => ?_, hb.trans ((below_regrown wr dq osq).mono hb.size)⟩
                by_cases hij : i = j
                · subst hij
                  rw [HX.out] at ha
                  rw [HY.out] at hb'
                  injection ha with ha
                  injection hb' with hb'
                  rw [← ha, ← hb']
                  exact ⟨hxr, HC4.out⟩
                · exact HA2.out i a b (by omega) ha hb'
              case measure => simp [intOf]; omega
            · obtain rfl : lf = j := by omega
              have HDO : Hid (DeclOk s ⟨fargs, fn⟩ ⟨dargs, dn⟩) := by
                refine ⟨by have := HLD.out; have := HLF.out; simp only; omega, by rw [HN.out]; exact hc2, fun x hx => ?_, HC3.out, fun i a b ha hb' => ?_⟩
                · rw [HN.out]
                  obtain ⟨i, hi⟩ := List.mem_iff_getElem?.1 hx
                  have hil : i < dargs.length := (List.getElem?_eq_some_iff.1 hi).1
                  have hil2 := HLD.out
                  have hil3 := HLF.out
                  exact (HA2.out i x fargs[i] (by omega) hi (List.getElem?_eq_getElem (by omega))).1
                · have hil : i < fargs.length := (List.getElem?_eq_some_iff.1 hb').1
                  have hil3 := HLF.out
                  exact (HA2.out i a b (by omega) ha hb').2
              go_wp2
              go_roundw
              case rel =>
                refine ⟨k + 1, by omega, by go_num, fun i d hi hd => ?_, hb11.trans (hb.mono hb11.size)⟩
                by_cases hik : i = k
                · subst hik
                  rw [HD.out] at hd
                  injection hd with hd
                  rw [← hd]
                  exact HDO.out
                · exact HALL.out i d (by omega) hd
              case measure => simp [intOf]; omega
        · obtain rfl : m = k := by omega
          have HF : Hid (declsOk s ⟨name, decls, ac, cm, un⟩ = true) := declsOk_true (by
            have hm' := HM.out
            have hl' := HLF.out
            refine ⟨by simp only; omega, by simp only; omega, fun f hf => ?_, fun f hf d hd => ?_⟩
            · rw [HF0.out] at hf
              injection hf with hf
              subst hf
              simp only
              omega
            · rw [HF0.out] at hf
              injection hf with hf
              subst hf
              obtain ⟨i, hi⟩ := List.mem_iff_getElem?.1 hd
              exact HALL.out i d (by have hil : i < decls.length := (List.getElem?_eq_some_iff.1 hi).1; omega) hi)
          go_wp2
          go_ret
          exact ⟨ret_bool HF.out.symm, hbW.trans (hb.mono hbW.size)⟩
end Go.Proofs.YtpbikjkjfojjiaaGreat
namespace Go.Proofs.YtpbikjkjfojjiaaGreat
open Go.RowKit Go.Sort
structure AxOk (g : Sgn) (o : Opr) : Prop where
  lo : 0 ≤ o.unit
  hi : o.unit ≤ g.ops.length
  two : (o.assoc = true ∨ o.comm = true ∨ o.unit ≠ 0) → ∀ d, o.decls[0]? = some d → d.args.length = 2 ∧ ∀ a b, d.args[0]? = some a → d.args[1]? = some b → kd g.sorts a = kd g.sorts b ∧ ((o.assoc = true ∨ o.unit ≠ 0) → kd g.sorts a = kd g.sorts d.res) ∧
    (o.unit ≠ 0 → ∀ (p : Opr) (u : Dcl), g.ops[o.unit.toNat - 1]? = some p → p.decls[0]? = some u → u.args.length = 0 ∧ kd g.sorts u.res = kd g.sorts d.res)
open Classical in
noncomputable def axOk (g : Sgn) (o : Opr) : Bool := decide (AxOk g o)
theorem axOk_true {g : Sgn} {o : Opr} (h : AxOk g o) : axOk g o = true := by simp [axOk, h]
theorem axOk_false {g : Sgn} {o : Opr} (h : ¬ AxOk g o) : axOk g o = false := by simp [axOk, h]
theorem axOk_iff {g : Sgn} {o : Opr} : axOk g o = true ↔ AxOk g o := by simp [axOk]
theorem DeclsOk.first {s : Srt} {o : Opr} (h : DeclsOk s o) : ∃ d, o.decls[0]? = some d ∧ DeclOk s d d := by
  have h1 := h.len1
  exact ⟨o.decls[0], List.getElem?_eq_getElem (by omega), h.all _ (List.getElem?_eq_getElem (by omega)) _ (List.getElem_mem _)⟩
theorem two_of {l : List Int} (h : l.length = 2) : ∃ a b, l = [a, b] := len2 h
set_option maxHeartbeats 20000000 in
set_option maxRecDepth 100000 in
theorem implAxiomsOK (g : Sgn) (o : Opr) (S : Nat → Prop) (Aa Ak : Option Addr) (n ca ck : Nat) (vb : Value) (vs us : List Value) (w : World) (hN : g.sorts.names.length = n) (h8 : n ≤ 8) (hK : KOk n (kinds g.sorts)) (hokg : okSgn g) (hok : okOpr o) (hvg : RepVals w S (encSgn g) vs) (hv : RepVals w S (encOpr o) us)
    (hD : DeclsOk g.sorts o) (hall : ∀ p ∈ g.ops, DeclsOk g.sorts p) (hb1 : vb.oneCell' = true) (hk : Rep w S (.sl ((casts (kinds g.sorts)).map encInt)) (.slice Ak n ck)) :
    Calls Tryz.prog 145 #[.agg #[.slice Aa n ca, vb, .slice Ak n ck], .agg vs.toArray, .agg us.toArray] w fun e w' => e = .returned (.bool (axOk g o)) ∧ Below w.heap.size w w' := by
  obtain ⟨s, ops⟩ := g
  simp only at hN hK hD hall hk
  obtain ⟨g0, g1, g2, rfl, f0, f1, f2⟩ := repVals_Signature hvg
  obtain ⟨Ag0, cg0, rfl, _, _⟩ := f0.shape
  obtain ⟨Ag1, cg1, rfl, _, _⟩ := f1.shape
  obtain ⟨Ag2, cg2, rfl, hcg2, hmg2⟩ := f2.shape
  obtain ⟨name, decls, ac, cm, un⟩ := o
  simp only [encOpr] at hv
  obtain ⟨v1, rfl, e1⟩ := repVals_Op hv
  obtain ⟨A1, cap1, rfl, hc1, hm1⟩ := e1.shape
  obtain ⟨ic, hci, _, hcs, _⟩ := info_parts info_Decl'
  obtain ⟨d, hd, hdd⟩ := hD.first
  simp only at hd
  obtain ⟨b1, o1, rfl, _, hz1, hrow⟩ := Rep.at okDclR hok.2.1 e1 hd
  have HDOK := Lib.hid (hok.2.1 d (List.mem_of_getElem? hd))
  obtain ⟨dargs, dres⟩ := d
  simp only [encDcl, RepRow, and_true, fieldsOf, List.length_cons, List.length_nil, Nat.reduceAdd, Nat.zero_mul, Nat.add_zero, Rep.lit_iff] at hrow
  obtain ⟨⟨u0, c0, r0⟩, ⟨_, c1, rfl⟩⟩ := hrow
  obtain ⟨Ad, capd, rfl, hcd, hmd⟩ := r0.shape
  have hun : I64 un := hok.2.2
  have HD0 := Lib.hid hd
  have HDD := Lib.hid hdd
  have HALL := Lib.hid hall
  have HN := Lib.hid hN
  have HK := Lib.hid hK
  have HKR := Lib.hid hk
  have RD := Lib.hid r0
  have F2 := Lib.hid f2
  have HOKG := Lib.hid hokg
  have hml : 1 ≤ decls.length := hD.len1
  clear hv hvg e1 hok hd hdd hall hN hK hk r0 f0 f1 f2 hokg hD
  have hkm : ck ≤ maxLen := by
    obtain ⟨_, _, h, _, h2⟩ := HKR.out.shape
    injection h with _ _ h
    rw [h]
    exact h2
  unfold maxLen at hkm hm1 hmd hmg2
  unfold I64 at hun
  generalize s.names.length = ln
  generalize s.subs.length = ls
  generalize hM : ops.length = m at *
  have HM := Lib.hid hM
  generalize hML : decls.length = md at *
  generalize hLD : dargs.length = ld at *
  have HLD := Lib.hid hLD
  clear hM hML hLD
  have hz2 : b1 < w.heap.size + 1 := by omega
  have hz3 : b1 < w.heap.size + 1 + 1 := by omega
  have hz4 : b1 < w.heap.size + 1 + 1 + 1 := by omega
  by_cases u0 : un < 0
  · have HF : Hid (axOk ⟨s, ops⟩ ⟨name, decls, ac, cm, un⟩ = false) := axOk_false fun h => by have := h.lo; simp only at this; omega
    go_enter Tryz.func145, Tryz.ntmps145
    go_wp2
    go_ret
    exact ⟨ret_bool HF.out.symm, ((((Below.refl _ _).alloc (Nat.le_refl _) _).alloc (by simp) _).alloc (by simp; omega) _)⟩
  by_cases u1 : (m : Int) < un
  · have HF : Hid (axOk ⟨s, ops⟩ ⟨name, decls, ac, cm, un⟩ = false) := axOk_false fun h => by have := h.hi; have := HM.out; simp only at *; omega
    go_enter Tryz.func145, Tryz.ntmps145
    go_wp2
    go_ret
    exact ⟨ret_bool HF.out.symm, ((((Below.refl _ _).alloc (Nat.le_refl _) _).alloc (by simp) _).alloc (by simp; omega) _)⟩
  by_cases u2 : ac = false ∧ cm = false ∧ un = 0
  · obtain ⟨rfl, rfl, rfl⟩ := u2
    have HF : Hid (axOk ⟨s, ops⟩ ⟨name, decls, false, false, 0⟩ = true) := axOk_true ⟨by simp, by simp, fun h => by simp at h⟩
    go_enter Tryz.func145, Tryz.ntmps145
    go_wp2
    go_ret
    exact ⟨ret_bool HF.out.symm, ((((Below.refl _ _).alloc (Nat.le_refl _) _).alloc (by simp) _).alloc (by simp; omega) _)⟩
  have HU2 : Hid (ac = true ∨ cm = true ∨ un ≠ 0) := by
    show _ ∨ _
    cases ac <;> cases cm <;> simp at u2 ⊢ <;> omega
  by_cases u3 : ld = 2
  rotate_left
  · have HF : Hid (axOk ⟨s, ops⟩ ⟨name, decls, ac, cm, un⟩ = false) := axOk_false fun h => u3 (by have := (h.two HU2.out _ HD0.out).1; have := HLD.out; simp only at *; omega)
    have n1 : (ld == 2) = false := by simp [u3]
    have n2 : ((ld : Int) == 2) = false := by simp; omega
    have n3 : ((ld : Int) != 2) = true := by simp; omega
    cases ac <;> cases cm
    all_goals
      (try simp only [Bool.false_eq_true, false_and, true_and, not_false_eq_true, and_false, false_or, true_or] at u2)
      go_enter Tryz.func145, Tryz.ntmps145
      go_wp2_with ((with_reducible refine atStore 181 (.tmp 7) (.tmp 36) rfl ?_); refine wpList_store_new rfl 181 _ _ rfl _ _ _ rfl _ rfl (by simp) [.slice Ad ld capd, .int .i64 dres] rfl ic hci hcs rfl (by simp [Value.oneCell']) ?_)
      go_quiet (fail)
      go_wp2
      go_ret
      exact ⟨ret_bool HF.out.symm, below_drewN (((((Below.refl _ _).alloc (Nat.le_refl _) _).alloc (by simp) _).alloc (by simp; omega) _).alloc (by simp; omega) _) _⟩
  subst u3
  obtain ⟨a, b, rfl⟩ := two_of HLD.out
  obtain ⟨ba, oa, rfl, hza, ca0⟩ := Rep.int HDOK.out.1 RD.out (k := 0) (x := a) rfl
  obtain ⟨_, _, hA, _, ca1⟩ := Rep.int HDOK.out.1 RD.out (k := 1) (x := b) rfl
  injection hA with hA
  injection hA with hA hA'
  subst hA hA'
  simp only [Nat.add_zero] at ca0
  have ha := HDD.out.args a (by simp)
  have hb := HDD.out.args b (by simp)
  have hr := HDD.out.res
  simp only at hr
  rw [HN.out] at ha hb hr
  obtain ⟨a, rfl⟩ := Int.eq_ofNat_of_zero_le ha.1
  obtain ⟨b, rfl⟩ := Int.eq_ofNat_of_zero_le hb.1
  obtain ⟨r, rfl⟩ := Int.eq_ofNat_of_zero_le hr.1
  obtain ⟨bk, ok, rfl, hzk, ka⟩ := kd_cell (by rw [HN.out]; exact HK.out) (by rw [HN.out]; exact h8) HKR.out (k := a) (by rw [HN.out]; omega)
  obtain ⟨_, _, hA, _, kb⟩ := kd_cell (by rw [HN.out]; exact HK.out) (by rw [HN.out]; exact h8) HKR.out (k := b) (by rw [HN.out]; omega)
  injection hA with hA
  injection hA with hA hA'
  subst hA hA'
  obtain ⟨_, _, hA, _, kr⟩ := kd_cell (by rw [HN.out]; exact HK.out) (by rw [HN.out]; exact h8) HKR.out (k := r) (by rw [HN.out]; omega)
  injection hA with hA
  injection hA with hA hA'
  subst hA hA'
  have hza2 : ba < w.heap.size + 1 := by omega
  have hza3 : ba < w.heap.size + 1 + 1 := by omega
  have hza4 : ba < w.heap.size + 1 + 1 + 1 := by omega
  have hzk2 : bk < w.heap.size + 1 := by omega
  have hzk3 : bk < w.heap.size + 1 + 1 := by omega
  have hzk4 : bk < w.heap.size + 1 + 1 + 1 := by omega
  clear HDD
  generalize hka : kd s a = ka' at *
  generalize hkb : kd s b = kb' at *
  generalize hkr : kd s r = kr' at *
  have HKA := Lib.hid hka
  have HKB := Lib.hid hkb
  have HKC := Lib.hid hkr
  clear hka hkb hkr
  by_cases u4 : ka' = kb'
  rotate_left
  · have HF : Hid (axOk ⟨s, ops⟩ ⟨name, decls, ac, cm, un⟩ = false) := axOk_false fun h => u4 (by have := ((h.two HU2.out _ HD0.out).2 _ _ rfl rfl).1; simp only [HKA.out, HKB.out] at this; exact this)
    have n1 : (ka' == kb') = false := by simp [u4]
    have n2 : ((ka' : Int) == (kb' : Int)) = false := by simp; omega
    have n3 : ((ka' : Int) != (kb' : Int)) = true := by simp; omega
    cases ac <;> cases cm
    all_goals
      (try simp only [Bool.false_eq_true, false_and, true_and, not_false_eq_true, and_false, false_or, true_or] at u2)
      go_enter Tryz.func145, Tryz.ntmps145
      go_wp2_with ((with_reducible refine atStore 181 (.tmp 7) (.tmp 36) rfl ?_); refine wpList_store_new rfl 181 _ _ rfl _ _ _ rfl _ rfl (by simp) [.slice (some ⟨ba, oa, none⟩) 2 capd, .int .i64 r] rfl ic hci hcs rfl (by simp [Value.oneCell']) ?_)
      go_quiet (fail)
      go_wp2
      go_ret
      exact ⟨ret_bool HF.out.symm, below_drewN (((((Below.refl _ _).alloc (Nat.le_refl _) _).alloc (by simp) _).alloc (by simp; omega) _).alloc (by simp; omega) _) _⟩
  subst u4
  by_cases u5 : (ac = true ∨ un ≠ 0) ∧ ka' ≠ kr'
  · have HF : Hid (axOk ⟨s, ops⟩ ⟨name, decls, ac, cm, un⟩ = false) := axOk_false fun h => u5.2 (by have := ((h.two HU2.out _ HD0.out).2 _ _ rfl rfl).2.1 u5.1; simp only [HKA.out, HKC.out] at this; exact this)
    obtain ⟨u6, u7⟩ := u5
    have n1 : (ka' == kr') = false := by simp [u7]
    have n2 : ((ka' : Int) == (kr' : Int)) = false := by simp; omega
    have n3 : ((ka' : Int) != (kr' : Int)) = true := by simp; omega
    cases ac <;> cases cm
    all_goals
      (try simp only [Bool.false_eq_true, false_and, true_and, not_false_eq_true, and_false, false_or, true_or, ne_eq] at u2 u6)
      (try have m1 : (un == 0) = false := by simp [u6])
      (try have m2 : (un != 0) = true := by simp [u6])
      go_enter Tryz.func145, Tryz.ntmps145
      go_wp2_with ((with_reducible refine atStore 181 (.tmp 7) (.tmp 36) rfl ?_); refine wpList_store_new rfl 181 _ _ rfl _ _ _ rfl _ rfl (by simp) [.slice (some ⟨ba, oa, none⟩) 2 capd, .int .i64 r] rfl ic hci hcs rfl (by simp [Value.oneCell']) ?_)
      go_quiet (fail)
      go_wp2
      go_quiet (fail)
      go_wp2
      go_ret
      first | exact ⟨ret_bool HF.out.symm, below_drewN (((((Below.refl _ _).alloc (Nat.le_refl _) _).alloc (by simp) _).alloc (by simp; omega) _).alloc (by simp; omega) _) _⟩ | exact ⟨ret_bool HF.out.symm, below_drewN (below_drewN (((((Below.refl _ _).alloc (Nat.le_refl _) _).alloc (by simp) _).alloc (by simp; omega) _).alloc (by simp; omega) _) _) _⟩
  have HU5 : Hid ((ac = true ∨ un ≠ 0) → ka' = kr') := fun h => Decidable.byContradiction fun h' => u5 ⟨h, h'⟩
  by_cases u6 : un = 0
  · subst u6
    have HF : Hid (axOk ⟨s, ops⟩ ⟨name, decls, ac, cm, 0⟩ = true) := axOk_true ⟨by simp, by simp, fun _ d hd => by
      have hd' : decls[0]? = some d := hd
      rw [HD0.out] at hd'
      injection hd' with hd'
      subst hd'
      refine ⟨rfl, fun x y hx hy => ?_⟩
      have hx : (a : Int) = x := by simpa using hx
      have hy : (b : Int) = y := by simpa using hy
      subst hx hy
      exact ⟨by rw [HKA.out, HKB.out], fun h => by show kd s a = kd s r; rw [HKA.out, HKC.out]; exact HU5.out h, fun h => absurd rfl h⟩⟩
    cases ac <;> cases cm
    · simp at u2
    all_goals
      have HQ := HU5
      (try (have u7 := HQ.out (Or.inl rfl)))
      (try subst u7)
      clear u5
      go_enter Tryz.func145, Tryz.ntmps145
      go_wp2_with ((with_reducible refine atStore 181 (.tmp 7) (.tmp 36) rfl ?_); refine wpList_store_new rfl 181 _ _ rfl _ _ _ rfl _ rfl (by simp) [.slice (some ⟨ba, oa, none⟩) 2 capd, .int .i64 r] rfl ic hci hcs rfl (by simp [Value.oneCell']) ?_)
      go_quiet (fail)
      go_wp2
      go_quiet (fail)
      go_wp2
      go_ret
      first | exact ⟨ret_bool HF.out.symm, below_drewN (((((Below.refl _ _).alloc (Nat.le_refl _) _).alloc (by simp) _).alloc (by simp; omega) _).alloc (by simp; omega) _) _⟩ | exact ⟨ret_bool HF.out.symm, below_drewN (below_drewN (((((Below.refl _ _).alloc (Nat.le_refl _) _).alloc (by simp) _).alloc (by simp; omega) _).alloc (by simp; omega) _) _) _⟩
  have u7 : ka' = kr' := HU5.out (.inr u6)
  subst u7
  obtain ⟨q, hq⟩ : ∃ q : Nat, un = (q : Int) + 1 := ⟨(un - 1).toNat, by omega⟩
  subst hq
  obtain ⟨p, hp⟩ : ∃ p, ops[q]? = some p := ⟨_, List.getElem?_eq_getElem (by have := HM.out; omega)⟩
  obtain ⟨bo, oo, rfl, _, hzo, hrow⟩ := Rep.at okOprR HOKG.out.2 F2.out hp
  obtain ⟨u, hu, huu⟩ := (HALL.out p (List.mem_of_getElem? hp)).first
  have HPOK := Lib.hid (HOKG.out.2 p (List.mem_of_getElem? hp))
  have HP := Lib.hid hp
  have HUU := Lib.hid hu
  obtain ⟨pname, pdecls, pac, pcm, pun⟩ := p
  simp only [encOpr, RepRow, and_true, fieldsOf, List.length_cons, List.length_nil, Nat.reduceAdd, Rep.lit_iff] at hrow
  obtain ⟨⟨_, d0, rfl⟩, ⟨vd, d1, rd⟩, ⟨_, d2, rfl⟩, ⟨_, d3, rfl⟩, ⟨_, d4, rfl⟩⟩ := hrow
  obtain ⟨Au, capu, rfl, hcu, hmu⟩ := rd.shape
  simp only at hu huu
  obtain ⟨bu, ou, rfl, _, hzu, hrow⟩ := Rep.at okDclR HPOK.out.2.1 rd hu
  obtain ⟨uargs, ures⟩ := u
  simp only [encDcl, RepRow, and_true, fieldsOf, List.length_cons, List.length_nil, Nat.reduceAdd, Nat.zero_mul, Nat.add_zero, Rep.lit_iff] at hrow
  obtain ⟨⟨x0, x1, x2⟩, ⟨_, x3, rfl⟩⟩ := hrow
  obtain ⟨Av, capv, rfl, hcv, hmv⟩ := x2.shape
  have hur := huu.res
  simp only at hur
  rw [HN.out] at hur
  obtain ⟨ur, rfl⟩ := Int.eq_ofNat_of_zero_le hur.1
  obtain ⟨_, _, hA, _, ku⟩ := kd_cell (by rw [HN.out]; exact HK.out) (by rw [HN.out]; exact h8) HKR.out (k := ur) (by rw [HN.out]; omega)
  injection hA with hA
  injection hA with hA hA'
  subst hA hA'
  have hpl : 1 ≤ pdecls.length := (List.getElem?_eq_some_iff.1 hu).1
  have hzo2 : bo < w.heap.size + 1 := by omega
  have hzo3 : bo < w.heap.size + 1 + 1 := by omega
  have hzo4 : bo < w.heap.size + 1 + 1 + 1 := by omega
  have hzu2 : bu < w.heap.size + 1 := by omega
  have hzu3 : bu < w.heap.size + 1 + 1 := by omega
  have hzu4 : bu < w.heap.size + 1 + 1 + 1 := by omega
  have hzk5 : bk < w.heap.size + 1 + 1 + 1 + 1 := by omega
  unfold maxLen at hmu hmv
  clear hp hu huu x2 rd d0 d2 d3 d4
  generalize hku : kd s ur = ku' at *
  have HKU := Lib.hid hku
  generalize hLU : uargs.length = lu at *
  have HLU := Lib.hid hLU
  generalize pdecls.length = pl at *
  clear hku hLU u5
  have HIF : Hid (axOk ⟨s, ops⟩ ⟨name, decls, ac, cm, (q : Int) + 1⟩ = (lu == 0 && ku' == ka')) := by
    show _ = _
    by_cases hh : lu = 0 ∧ ku' = ka'
    · rw [axOk_true]
      · simp [hh.1, hh.2]
      · refine ⟨by simp; omega, by simp; have := HM.out; omega, fun _ d hd => ?_⟩
        have hd' : decls[0]? = some d := hd
        rw [HD0.out] at hd'
        injection hd' with hd'
        subst hd'
        refine ⟨rfl, fun x y hx hy => ?_⟩
        have hx : (a : Int) = x := by simpa using hx
        have hy : (b : Int) = y := by simpa using hy
        subst hx hy
        refine ⟨by rw [HKA.out, HKB.out], fun h => by show kd s a = kd s r; rw [HKA.out, HKC.out], fun _ p u hp hu => ?_⟩
        have hp' : ops[q]? = some p := by
          have : ops[((q : Int) + 1).toNat - 1]? = some p := hp
          rwa [show ((q : Int) + 1).toNat - 1 = q by omega] at this
        rw [HP.out] at hp'
        injection hp' with hp'
        subst hp'
        rw [HUU.out] at hu
        injection hu with hu
        subst hu
        exact ⟨by show uargs.length = 0; rw [HLU.out]; exact hh.1, by show kd s ur = kd s r; rw [HKU.out, HKC.out]; exact hh.2⟩
    · rw [axOk_false]
      · symm
        rw [Bool.eq_false_iff]
        intro h
        simp only [Bool.and_eq_true, beq_iff_eq] at h
        exact hh h
      · intro h
        have := ((h.two HU2.out _ HD0.out).2 _ _ rfl rfl).2.2 (by simp; omega) _ _ (by rw [show ((q : Int) + 1).toNat - 1 = q by omega]; exact HP.out) HUU.out
        simp only [HKU.out, HKC.out, HLU.out] at this
        exact hh this
  have hq0 : ((q : Int) + 1 == 0) = false := by simp; omega
  have hq1 : ((q : Int) + 1 != 0) = true := by simp; omega
  by_cases u8 : lu = 0
  rotate_left
  · have n1 : (lu == 0) = false := by simp [u8]
    have n2 : ((lu : Int) == 0) = false := by simp; omega
    have n3 : ((lu : Int) != 0) = true := by simp; omega
    rw [n1, Bool.false_and] at HIF
    clear u2
    cases ac
    · cases cm
      · go_enter Tryz.func145, Tryz.ntmps145
        go_wp2_with ((with_reducible refine atStore 181 (.tmp 7) (.tmp 36) rfl ?_); refine wpList_store_new rfl 181 _ _ rfl _ _ _ rfl _ rfl (by simp) [.slice (some ⟨ba, oa, none⟩) 2 capd, .int .i64 r] rfl ic hci hcs rfl (by simp [Value.oneCell']) ?_)
        go_quiet (fail)
        go_wp2
        go_quiet (fail)
        go_wp2_with ((with_reducible refine atStore 181 (.tmp 8) (.tmp 96) rfl ?_); refine wpList_store_newN rfl 181 _ _ rfl _ _ _ _ rfl _ rfl (by simp) [.slice Av lu capv, .int .i64 ur] rfl ic hci hcs rfl (by simp [Value.oneCell']) ?_)
        go_quiet (fail)
        go_wp2
        go_ret
        exact ⟨ret_bool HIF.out.symm, (by repeat' (first | exact Below.refl _ _ | refine below_drewN ?_ _ | refine Below.alloc ?_ (by first | exact Nat.le_refl _ | (simp; done) | (simp; omega)) _))⟩
      · go_enter Tryz.func145, Tryz.ntmps145
        go_wp2_with ((with_reducible refine atStore 181 (.tmp 7) (.tmp 36) rfl ?_); refine wpList_store_new rfl 181 _ _ rfl _ _ _ rfl _ rfl (by simp) [.slice (some ⟨ba, oa, none⟩) 2 capd, .int .i64 r] rfl ic hci hcs rfl (by simp [Value.oneCell']) ?_)
        go_quiet (fail)
        go_wp2
        go_quiet (fail)
        go_wp2_with ((with_reducible refine atStore 181 (.tmp 8) (.tmp 96) rfl ?_); refine wpList_store_newN rfl 181 _ _ rfl _ _ _ _ rfl _ rfl (by simp) [.slice Av lu capv, .int .i64 ur] rfl ic hci hcs rfl (by simp [Value.oneCell']) ?_)
        go_quiet (fail)
        go_wp2
        go_ret
        exact ⟨ret_bool HIF.out.symm, (by repeat' (first | exact Below.refl _ _ | refine below_drewN ?_ _ | refine Below.alloc ?_ (by first | exact Nat.le_refl _ | (simp; done) | (simp; omega)) _))⟩
    · go_enter Tryz.func145, Tryz.ntmps145
      go_wp2_with ((with_reducible refine atStore 181 (.tmp 7) (.tmp 36) rfl ?_); refine wpList_store_new rfl 181 _ _ rfl _ _ _ rfl _ rfl (by simp) [.slice (some ⟨ba, oa, none⟩) 2 capd, .int .i64 r] rfl ic hci hcs rfl (by simp [Value.oneCell']) ?_)
      go_quiet (fail)
      go_wp2
      go_quiet (fail)
      go_wp2_with ((with_reducible refine atStore 181 (.tmp 8) (.tmp 96) rfl ?_); refine wpList_store_newN rfl 181 _ _ rfl _ _ _ _ rfl _ rfl (by simp) [.slice Av lu capv, .int .i64 ur] rfl ic hci hcs rfl (by simp [Value.oneCell']) ?_)
      go_quiet (fail)
      go_wp2
      go_ret
      exact ⟨ret_bool HIF.out.symm, (by repeat' (first | exact Below.refl _ _ | refine below_drewN ?_ _ | refine Below.alloc ?_ (by first | exact Nat.le_refl _ | (simp; done) | (simp; omega)) _))⟩
  subst u8
  by_cases u9 : ku' = ka'
  rotate_left
  · have n1 : (ku' == ka') = false := by simp [u9]
    have n2 : ((ku' : Int) == (ka' : Int)) = false := by simp; omega
    have n3 : ((ku' : Int) != (ka' : Int)) = true := by simp; omega
    rw [n1, Bool.and_false] at HIF
    clear u2
    cases ac
    · cases cm
      · go_enter Tryz.func145, Tryz.ntmps145
        go_wp2_with ((with_reducible refine atStore 181 (.tmp 7) (.tmp 36) rfl ?_); refine wpList_store_new rfl 181 _ _ rfl _ _ _ rfl _ rfl (by simp) [.slice (some ⟨ba, oa, none⟩) 2 capd, .int .i64 r] rfl ic hci hcs rfl (by simp [Value.oneCell']) ?_)
        go_quiet (fail)
        go_wp2
        go_quiet (fail)
        go_wp2_with ((with_reducible refine atStore 181 (.tmp 8) (.tmp 96) rfl ?_); refine wpList_store_newN rfl 181 _ _ rfl _ _ _ _ rfl _ rfl (by simp) [.slice Av 0 capv, .int .i64 ur] rfl ic hci hcs rfl (by simp [Value.oneCell']) ?_)
        go_quiet (fail)
        go_wp2
        go_ret
        exact ⟨ret_bool HIF.out.symm, (by repeat' (first | exact Below.refl _ _ | refine below_drewN ?_ _ | refine Below.alloc ?_ (by first | exact Nat.le_refl _ | (simp; done) | (simp; omega)) _))⟩
      · go_enter Tryz.func145, Tryz.ntmps145
        go_wp2_with ((with_reducible refine atStore 181 (.tmp 7) (.tmp 36) rfl ?_); refine wpList_store_new rfl 181 _ _ rfl _ _ _ rfl _ rfl (by simp) [.slice (some ⟨ba, oa, none⟩) 2 capd, .int .i64 r] rfl ic hci hcs rfl (by simp [Value.oneCell']) ?_)
        go_quiet (fail)
        go_wp2
        go_quiet (fail)
        go_wp2_with ((with_reducible refine atStore 181 (.tmp 8) (.tmp 96) rfl ?_); refine wpList_store_newN rfl 181 _ _ rfl _ _ _ _ rfl _ rfl (by simp) [.slice Av 0 capv, .int .i64 ur] rfl ic hci hcs rfl (by simp [Value.oneCell']) ?_)
        go_quiet (fail)
        go_wp2
        go_ret
        exact ⟨ret_bool HIF.out.symm, (by repeat' (first | exact Below.refl _ _ | refine below_drewN ?_ _ | refine Below.alloc ?_ (by first | exact Nat.le_refl _ | (simp; done) | (simp; omega)) _))⟩
    · go_enter Tryz.func145, Tryz.ntmps145
      go_wp2_with ((with_reducible refine atStore 181 (.tmp 7) (.tmp 36) rfl ?_); refine wpList_store_new rfl 181 _ _ rfl _ _ _ rfl _ rfl (by simp) [.slice (some ⟨ba, oa, none⟩) 2 capd, .int .i64 r] rfl ic hci hcs rfl (by simp [Value.oneCell']) ?_)
      go_quiet (fail)
      go_wp2
      go_quiet (fail)
      go_wp2_with ((with_reducible refine atStore 181 (.tmp 8) (.tmp 96) rfl ?_); refine wpList_store_newN rfl 181 _ _ rfl _ _ _ _ rfl _ rfl (by simp) [.slice Av 0 capv, .int .i64 ur] rfl ic hci hcs rfl (by simp [Value.oneCell']) ?_)
      go_quiet (fail)
      go_wp2
      go_ret
      exact ⟨ret_bool HIF.out.symm, (by repeat' (first | exact Below.refl _ _ | refine below_drewN ?_ _ | refine Below.alloc ?_ (by first | exact Nat.le_refl _ | (simp; done) | (simp; omega)) _))⟩
  subst u9
  rw [beq_self_eq_true, beq_self_eq_true, Bool.and_true] at HIF
  clear u2
  cases ac
  · cases cm
    · go_enter Tryz.func145, Tryz.ntmps145
      go_wp2_with ((with_reducible refine atStore 181 (.tmp 7) (.tmp 36) rfl ?_); refine wpList_store_new rfl 181 _ _ rfl _ _ _ rfl _ rfl (by simp) [.slice (some ⟨ba, oa, none⟩) 2 capd, .int .i64 r] rfl ic hci hcs rfl (by simp [Value.oneCell']) ?_)
      go_quiet (fail)
      go_wp2
      go_quiet (fail)
      go_wp2_with ((with_reducible refine atStore 181 (.tmp 8) (.tmp 96) rfl ?_); refine wpList_store_newN rfl 181 _ _ rfl _ _ _ _ rfl _ rfl (by simp) [.slice Av 0 capv, .int .i64 ur] rfl ic hci hcs rfl (by simp [Value.oneCell']) ?_)
      go_quiet (fail)
      go_wp2
      go_ret
      exact ⟨ret_bool HIF.out.symm, (by repeat' (first | exact Below.refl _ _ | refine below_drewN ?_ _ | refine Below.alloc ?_ (by first | exact Nat.le_refl _ | (simp; done) | (simp; omega)) _))⟩
    · go_enter Tryz.func145, Tryz.ntmps145
      go_wp2_with ((with_reducible refine atStore 181 (.tmp 7) (.tmp 36) rfl ?_); refine wpList_store_new rfl 181 _ _ rfl _ _ _ rfl _ rfl (by simp) [.slice (some ⟨ba, oa, none⟩) 2 capd, .int .i64 r] rfl ic hci hcs rfl (by simp [Value.oneCell']) ?_)
      go_quiet (fail)
      go_wp2
      go_quiet (fail)
      go_wp2_with ((with_reducible refine atStore 181 (.tmp 8) (.tmp 96) rfl ?_); refine wpList_store_newN rfl 181 _ _ rfl _ _ _ _ rfl _ rfl (by simp) [.slice Av 0 capv, .int .i64 ur] rfl ic hci hcs rfl (by simp [Value.oneCell']) ?_)
      go_quiet (fail)
      go_wp2
      go_ret
      exact ⟨ret_bool HIF.out.symm, (by repeat' (first | exact Below.refl _ _ | refine below_drewN ?_ _ | refine Below.alloc ?_ (by first | exact Nat.le_refl _ | (simp; done) | (simp; omega)) _))⟩
  · go_enter Tryz.func145, Tryz.ntmps145
    go_wp2_with ((with_reducible refine atStore 181 (.tmp 7) (.tmp 36) rfl ?_); refine wpList_store_new rfl 181 _ _ rfl _ _ _ rfl _ rfl (by simp) [.slice (some ⟨ba, oa, none⟩) 2 capd, .int .i64 r] rfl ic hci hcs rfl (by simp [Value.oneCell']) ?_)
    go_quiet (fail)
    go_wp2
    go_quiet (fail)
    go_wp2_with ((with_reducible refine atStore 181 (.tmp 8) (.tmp 96) rfl ?_); refine wpList_store_newN rfl 181 _ _ rfl _ _ _ _ rfl _ rfl (by simp) [.slice Av 0 capv, .int .i64 ur] rfl ic hci hcs rfl (by simp [Value.oneCell']) ?_)
    go_quiet (fail)
    go_wp2
    go_ret
    exact ⟨ret_bool HIF.out.symm, (by repeat' (first | exact Below.refl _ _ | refine below_drewN ?_ _ | refine Below.alloc ?_ (by first | exact Nat.le_refl _ | (simp; done) | (simp; omega)) _))⟩
end Go.Proofs.YtpbikjkjfojjiaaGreat
namespace Go.Proofs.YtpbikjkjfojjiaaGreat
open Go.RowKit Go.Sort
def opNames (l : List Opr) : List ByteArray := l.map (·.name)
structure SgnOk (g : Sgn) : Prop where
  sorts : SortsOk g.sorts
  len : g.ops.length ≤ 14
  names : ∀ (i : Nat) (o : Opr), g.ops[i]? = some o → isName o.name = true ∧ hasStr (opNames (g.ops.take i)) o.name = false
  decls : ∀ o ∈ g.ops, DeclsOk g.sorts o
  axs : ∀ o ∈ g.ops, AxOk g o
open Classical in
noncomputable def isSgn (g : Sgn) : Bool := decide (SgnOk g)
theorem isSgn_true {g : Sgn} (h : SgnOk g) : isSgn g = true := by simp [isSgn, h]
theorem isSgn_false {g : Sgn} (h : ¬ SgnOk g) : isSgn g = false := by simp [isSgn, h]
theorem isSgn_iff {g : Sgn} : isSgn g = true ↔ SgnOk g := by simp [isSgn]
def sgnC (f : FuncId) : Prop := ∀ (g : Sgn) (S : Nat → Prop) (us : List Value) (w : World), okSgn g → RepVals w S (encSgn g) us →
  Calls Tryz.prog f #[.agg us.toArray] w fun e w' => e = .returned (.bool (isSgn g)) ∧ Below w.heap.size w w'
theorem info_Op' : (Tryz.prog.info? 153).map (fun i => (i.zero, i.size, i.bytes)) = some (some (.agg #[.string ⟨#[]⟩, .slice none 0 0, .bool false, .bool false, .int .i64 0]), 5, 56) := by kernel_rfl
theorem opNames_snoc {l : List Opr} {k : Nat} {o : Opr} (h : l[k]? = some o) : opNames (l.take (k + 1)) = opNames (l.take k) ++ [o.name] := by
  rw [take_snoc h]; simp [opNames]
theorem Rep.opAt {w : World} {S : Nat → Prop} {l : List Opr} {A : Option Addr} {m cap k : Nat} {o : Opr} (hl : ∀ x ∈ l, okOpr x) (h : Rep w S (.sl (l.map encOpr)) (.slice A m cap)) (ho : l[k]? = some o) :
    ∃ b off vd, A = some ⟨b, off, none⟩ ∧ b < w.heap.size ∧ w.cell? ⟨b, off + k * 5, none⟩ = some (.string o.name) ∧ w.cell? ⟨b, off + k * 5 + 1, none⟩ = some vd ∧ w.cell? ⟨b, off + k * 5 + 2, none⟩ = some (.bool o.assoc) ∧ w.cell? ⟨b, off + k * 5 + 3, none⟩ = some (.bool o.comm) ∧ w.cell? ⟨b, off + k * 5 + 4, none⟩ = some (.int .i64 o.unit) ∧ Rep w S (.sl (o.decls.map encDcl)) vd := by
  obtain ⟨b, off, rfl, _, hb, hr⟩ := Rep.at okOprR hl h ho
  simp only [encOpr, RepRow, and_true, fieldsOf, List.length_cons, List.length_nil, Nat.reduceAdd, Nat.add_assoc, Rep.lit_iff] at hr
  obtain ⟨⟨_, c0, rfl⟩, ⟨vd, c1, r1⟩, ⟨_, c2, rfl⟩, ⟨_, c3, rfl⟩, ⟨_, c4, rfl⟩⟩ := hr
  exact ⟨b, off, vd, rfl, hb, c0, by rw [Nat.add_assoc]; exact c1, by rw [Nat.add_assoc]; exact c2, by rw [Nat.add_assoc]; exact c3, by rw [Nat.add_assoc]; exact c4, r1⟩
set_option maxHeartbeats 20000000 in
set_option maxRecDepth 100000 in
theorem implIsSignature : sgnC 105 := by
  intro g S us w hok hv
  replace hv := hv.mono (S' := fun _ => True) (fun _ _ => trivial)
  obtain ⟨s, ops⟩ := g
  have hv0 := hv
  obtain ⟨g0, g1, g2, rfl, f0, f1, f2⟩ := repVals_Signature hv
  obtain ⟨Ag0, cg0, rfl, _, _⟩ := f0.shape
  obtain ⟨Ag1, cg1, rfl, _, _⟩ := f1.shape
  obtain ⟨Ag2, cg2, rfl, hcg2, hmg2⟩ := f2.shape
  have HSR : Hid (RepVals w (fun _ => True) (encSrt s) [.slice Ag0 s.names.length cg0, .slice Ag1 s.subs.length cg1]) := by show RepVals _ _ _ _; simp only [encSrt, RepVals, and_true]; exact ⟨f0, f1⟩
  obtain ⟨io, hoi, _, hos, _⟩ := info_parts info_order
  obtain ⟨ip, hpi, _, hps, _⟩ := info_parts info_Op'
  have HOK := Lib.hid hok
  have HV := Lib.hid hv0
  have F2 := Lib.hid f2
  clear hv hv0 f0 f1 f2 hok
  simp only at HSR HV F2 hcg2 hmg2
  simp only
  generalize hln : s.names.length = n at *
  generalize s.subs.length = ls at *
  have HLN := Lib.hid hln
  clear hln
  generalize hM : ops.length = m at *
  have HM := Lib.hid hM
  clear hM
  unfold maxLen at hmg2
  by_cases hs : SortsOk s
  rotate_left
  · have HF : Hid (isSgn ⟨s, ops⟩ = false) := isSgn_false fun h => hs h.sorts
    have HNO := Lib.hid (fun W h => implNewOrder_not s (fun _ => True) [.slice Ag0 n cg0, .slice Ag1 ls cg1] W HOK.out.1 h hs)
    clear hs
    go_enter Tryz.func105, Tryz.ntmps105
    go_wp2_with fail
    refine (HNO.out _ (HSR.out.below (belowA _ _))).mono ?_
    rintro e w2 ⟨rfl, hb2⟩
    go_wp2_with ((with_reducible refine atStore 164 (.tmp 3) (.tmp 14) rfl ?_); refine wpList_store_new rfl 164 _ _ rfl _ _ _ rfl _ rfl (by simp) [.slice none 0 0, .slice none 0 0, .slice none 0 0] rfl io hoi hos rfl (by simp [Value.oneCell']) ?_)
    go_ret
    exact ⟨ret_bool HF.out.symm, ((belowA _ _).trans (hb2.mono (belowA _ _).size)).trans ((belowA _ _).mono ((belowA _ _).trans (hb2.mono (belowA _ _).size)).size)⟩
  have HNO := Lib.hid (fun W h => implNewOrder_ok s (fun _ => True) [.slice Ag0 n cg0, .slice Ag1 ls cg1] W HOK.out.1 h hs)
  have HSO := Lib.hid hs
  have h8 : n ≤ 8 := by have := hs.n8; rw [HLN.out] at this; exact this
  have HK : Hid (KOk n (kinds s)) := by have := kinds_ok (SortsOk.subsIn hs.subs); rw [HLN.out] at this; exact this
  have HU : Hid (UpOk n (up s)) := by have := up_ok (SortsOk.subsIn hs.subs); rw [HLN.out] at this; exact this
  have HDN : Hid (UpOk n (down s)) := by have := down_ok (SortsOk.subsIn hs.subs); rw [HLN.out] at this; exact this
  clear hs
  go_enter Tryz.func105, Tryz.ntmps105
  go_wp2_with fail
  generalize hW : w.alloc _ = W0
  have hb0 : Below w.heap.size w W0 := by rw [← hW]; exact belowA _ _
  have p0 : W0.cell? ⟨w.heap.size, 0, none⟩ = some (.slice Ag0 n cg0) := (by rw [← hW]; repeat' (first | (simp; done) | exact keepNew (by simp) rfl | refine keepA _ ?_))
  have p1 : W0.cell? ⟨w.heap.size, 1, none⟩ = some (.slice Ag1 ls cg1) := (by rw [← hW]; repeat' (first | (simp; done) | exact keepNew (by simp) rfl | refine keepA _ ?_))
  have p2 : W0.cell? ⟨w.heap.size, 2, none⟩ = some (.slice Ag2 m cg2) := (by rw [← hW]; repeat' (first | (simp; done) | exact keepNew (by simp) rfl | refine keepA _ ?_))
  clear hW
  refine (HNO.out _ (HSR.out.below hb0)).mono ?_
  rintro e w2 ⟨va, vb, vk, rfl, hIa, hIb, hIk, hb2⟩
  obtain ⟨Aa, ca, rfl, hca, hma, _⟩ := hIa.form
  obtain ⟨Ab, cb, rfl, hcb, hmb, _⟩ := hIb.form
  obtain ⟨Ak, ck, rfl, hck, hmk, _⟩ := hIk.form
  have hla : (casts (up s)).length = n := by rw [casts_len]; exact HU.out.1
  have hlb : (casts (down s)).length = n := by rw [casts_len]; exact HDN.out.1
  have hlk : (casts (kinds s)).length = n := by rw [casts_len]; exact HK.out.1
  have RK := Lib.hid (hIk.rep.mono (S' := fun _ => True) (fun _ _ => trivial))
  rw [hlk] at RK hck
  rw [hla] at hca
  rw [hla, hlb, hlk]
  clear hla hlb hlk hIa hIb hIk
  have q2 := keepB hb2 p2
  have z2 : w.heap.size < w2.heap.size := World.block_lt_of_cell? _ _ q2
  by_cases h14 : 14 < m
  · have HF : Hid (isSgn ⟨s, ops⟩ = false) := isSgn_false fun h => by have := h.len; have := HM.out; simp only at *; omega
    go_wp2_with ((with_reducible refine atStore 164 (.tmp 3) (.tmp 14) rfl ?_); refine wpList_store_new rfl 164 _ _ rfl _ _ _ rfl _ rfl (by simp) [.slice Aa n ca, .slice Ab n cb, .slice Ak n ck] rfl io hoi hos rfl (by simp [Value.oneCell']) ?_)
    go_ret
    exact ⟨ret_bool HF.out.symm, (hb0.trans (hb2.mono hb0.size)).trans ((belowA _ _).mono (hb0.trans (hb2.mono hb0.size)).size)⟩
  have hmm := @run_makeMap Tryz.prog
  go_wp2_with ((with_reducible refine atStore 164 (.tmp 3) (.tmp 14) rfl ?_); refine wpList_store_new rfl 164 _ _ rfl _ _ _ rfl _ rfl (by simp) [.slice Aa n ca, .slice Ab n cb, .slice Ak n ck] rfl io hoi hos rfl (by simp [Value.oneCell']) ?_)
  clear hmm
  generalize hW : w2.alloc (.cells #[.slice Aa n ca, .slice Ab n cb, .slice Ak n ck] _) = W
  have hbW2 : Below w2.heap.size w2 W := by rw [← hW]; exact belowA _ _
  have p3 : W.cell? ⟨w2.heap.size, 0, none⟩ = some (.slice Aa n ca) := (by rw [← hW]; repeat' (first | (simp; done) | exact keepNew (by simp) rfl | refine keepA _ ?_))
  have p4 : W.cell? ⟨w2.heap.size, 1, none⟩ = some (.slice Ab n cb) := (by rw [← hW]; repeat' (first | (simp; done) | exact keepNew (by simp) rfl | refine keepA _ ?_))
  have p5 : W.cell? ⟨w2.heap.size, 2, none⟩ = some (.slice Ak n ck) := (by rw [← hW]; repeat' (first | (simp; done) | exact keepNew (by simp) rfl | refine keepA _ ?_))
  have zW : w2.heap.size + 1 = W.heap.size := by rw [← hW]; simp
  clear hW
  rw [zW]
  have hb02 := hb0.trans (hb2.mono hb0.size)
  have hbW : Below w.heap.size w W := hb02.trans (hbW2.mono hb02.size)
  have r0 := keepB hbW2 (keepB hb2 p0)
  have r1 := keepB hbW2 (keepB hb2 p1)
  have r2 := keepB hbW2 q2
  have F2W := Lib.hid (F2.out.below hbW)
  have RKW := Lib.hid (RK.out.below hbW2)
  have HVW := Lib.hid (HV.out.below hbW)
  clear p0 p1 p2 q2 F2 RK HV HNO HSR zW hb0 hb2 hbW2 hb02 z2
  generalize w2.heap.size = g3 at *
  go_loopw [28] (fun i wr => ∃ k : Nat, k ≤ m ∧ i = .int .i64 k ∧ (∀ (j : Nat) (o : Opr), j < k → ops[j]? = some o → (isName o.name = true ∧ hasStr (opNames (ops.take j)) o.name = false) ∧ DeclsOk s o) ∧ Seen wr W.heap.size (opNames (ops.take k)) ∧ Below W.heap.size W wr) (fun i _ => m - (intOf i).toNat)
  case atStart => exact ⟨0, Nat.zero_le _, rfl, fun j o h => by omega, Seen.made W, (Below.refl _ _).alloc (Nat.le_refl _) _⟩
  case round =>
    obtain ⟨k, hk, rfl, hall, hseen, hb⟩ := hrel
    have HALL := Lib.hid hall
    have HSN := Lib.hid hseen
    clear hall hseen
    by_cases hkn : k < m
    · obtain ⟨o, ho⟩ : ∃ o, ops[k]? = some o := ⟨_, List.getElem?_eq_getElem (by have := HM.out; omega)⟩
      have HOO := Lib.hid (HOK.out.2 o (List.mem_of_getElem? ho))
      obtain ⟨b, off, vd, rfl, hbz, c0, c1, c2, c3, c4, rd⟩ := Rep.opAt HOK.out.2 (F2W.out.below hb) ho
      have HO := Lib.hid ho
      obtain ⟨name, decls, ac, cm, un⟩ := o
      simp only at c0 c2 c3 c4 rd
      have hrv : RepVals wr (fun _ => True) (encOpr ⟨name, decls, ac, cm, un⟩) [.string name, vd, .bool ac, .bool cm, .int .i64 un] := by simp only [encOpr, RepVals, Rep.lit_iff, and_true, true_and]; exact rd
      obtain ⟨Ad, capd, rfl, _, _⟩ := rd.shape
      have HRV := Lib.hid hrv
      clear ho rd hrv
      generalize decls.length = ld at *
      go_upto_region 8 with ((with_reducible refine atStore 153 (.tmp 7) (.tmp 31) rfl ?_); refine wpList_store_new rfl 153 _ _ rfl _ _ _ rfl _ rfl (by simp) [.string name, .slice Ad ld capd, .bool ac, .bool cm, .int .i64 un] rfl ip hpi hps rfl (by simp [Value.oneCell']) ?_)
      simp only [Act.put]
      generalize hW7 : wr.alloc _ = W7
      have hb7 : Below wr.heap.size wr W7 := by rw [← hW7]; exact belowA _ _
      have y0 : W7.cell? ⟨wr.heap.size, 0, none⟩ = some (.string name) := (by rw [← hW7]; repeat' (first | (simp; done) | exact keepNew (by simp) rfl | refine keepA _ ?_))
      have y1 : W7.cell? ⟨wr.heap.size, 1, none⟩ = some (.slice Ad ld capd) := (by rw [← hW7]; repeat' (first | (simp; done) | exact keepNew (by simp) rfl | refine keepA _ ?_))
      have y2 : W7.cell? ⟨wr.heap.size, 2, none⟩ = some (.bool ac) := (by rw [← hW7]; repeat' (first | (simp; done) | exact keepNew (by simp) rfl | refine keepA _ ?_))
      have y3 : W7.cell? ⟨wr.heap.size, 3, none⟩ = some (.bool cm) := (by rw [← hW7]; repeat' (first | (simp; done) | exact keepNew (by simp) rfl | refine keepA _ ?_))
      have y4 : W7.cell? ⟨wr.heap.size, 4, none⟩ = some (.int .i64 un) := (by rw [← hW7]; repeat' (first | (simp; done) | exact keepNew (by simp) rfl | refine keepA _ ?_))
      have hbW7 : Below W.heap.size W W7 := hb.trans (hb7.mono hb.size)
      have q3 := keepB hbW7 p3
      have q4 := keepB hbW7 p4
      have q5 := keepB hbW7 p5
      have HRV7 := Lib.hid (HRV.out.below hb7)
      have HSN7 := Lib.hid (HSN.out.below hb7)
      clear hW7 c0 c1 c2 c3 c4 HRV HSN hb7 hb hbz
      generalize wr.heap.size = g7 at *
      have hlk := run_seen HSN7.out Tryz.underlying200 Tryz.underlying9 (zero_bool W7) name
      have HNM := Lib.hid (fun w => implIsName name HOO.out.1 w)
      cases hh : hasStr (opNames (ops.take k)) name
      rotate_left
      · have HF : Hid (isSgn ⟨s, ops⟩ = false) := isSgn_false fun h => by have := (h.names k _ HO.out).2; simp only at this; rw [hh] at this; cases this
        rw [hh] at hlk
        clear hh
        go_wp2
        go_ret
        exact ⟨ret_bool HF.out.symm, hbW.trans (hbW7.mono hbW.size)⟩
      rw [hh] at hlk
      have HH := Lib.hid hh
      clear hh
      cases hin : isName name
      · have HF : Hid (isSgn ⟨s, ops⟩ = false) := isSgn_false fun h => by have := (h.names k _ HO.out).1; simp only at this; rw [hin] at this; cases this
        rw [hin] at HNM
        clear hin
        go_wp2_with (go_at_call 143; refine (HNM.out _).mono ?_; rintro e w3 ⟨rfl, rfl⟩)
        go_ret
        exact ⟨ret_bool HF.out.symm, hbW.trans (hbW7.mono hbW.size)⟩
      rw [hin] at HNM
      have HIN := Lib.hid hin
      clear hin
      have HDC := Lib.hid (implDeclsOK s ⟨name, decls, ac, cm, un⟩ (fun _ => True) Aa Ak n ca ck (.slice Ab n cb) [.string name, .slice Ad ld capd, .bool ac, .bool cm, .int .i64 un] W7 HLN.out h8 HK.out HOO.out HRV7.out rfl hma hca (RKW.out.below hbW7))
      cases hde : declsOk s ⟨name, decls, ac, cm, un⟩
      · have HF : Hid (isSgn ⟨s, ops⟩ = false) := isSgn_false fun h => by have := declsOk_true (h.decls _ (List.mem_of_getElem? HO.out)); simp only at this; rw [hde] at this; cases this
        rw [hde] at HDC
        clear hde
        go_wp2_with (first | (go_at_call 143; refine (HNM.out _).mono ?_; rintro e w3 ⟨rfl, rfl⟩) | (go_at_call 144; refine HDC.out.mono ?_; rintro e w3 ⟨rfl, hb3⟩))
        go_ret
        exact ⟨ret_bool HF.out.symm, hbW.trans ((hbW7.trans (hb3.mono hbW7.size)).mono hbW.size)⟩
      rw [hde] at HDC
      have HDE := Lib.hid (declsOk_iff.1 hde)
      clear hde
      go_wp2_with (go_at_call 143; refine (HNM.out _).mono ?_; rintro e w3 ⟨rfl, rfl⟩)
      refine HDC.out.mono ?_
      rintro e W8 ⟨rfl, hb8⟩
      have hbW8 : Below W.heap.size W W8 := hbW7.trans (hb8.mono hbW7.size)
      obtain ⟨w', hup, hseen', hbel, hsz, hoth⟩ := run_see (HSN7.out.below hb8) Tryz.underlying200 Tryz.underlying9 HH.out
      have HS' := Lib.hid hseen'
      have x0 := keepB hb8 y0
      clear hseen' hoth hlk y0 y1 y2 y3 y4 q3 q4 q5
      go_wp2
      go_roundw
      case rel =>
        refine ⟨k + 1, by omega, by go_num, fun j p hj hp => ?_, by rw [opNames_snoc HO.out]; exact HS'.out, hbW8.trans hbel⟩
        by_cases hjk : j = k
        · subst hjk
          rw [HO.out] at hp
          injection hp with hp
          rw [← hp]
          exact ⟨⟨HIN.out, HH.out⟩, HDE.out⟩
        · exact HALL.out j p (by omega) hp
      case measure => simp [intOf]; omega
    · obtain rfl : m = k := by omega
      have HDA : Hid (∀ o ∈ ops, DeclsOk s o) := fun o ho => by
        obtain ⟨i, hi⟩ := List.mem_iff_getElem?.1 ho
        exact (HALL.out i o (by have hil : i < ops.length := (List.getElem?_eq_some_iff.1 hi).1; have := HM.out; omega) hi).2
      have q2 := keepB hb r2
      go_wp2
      clear q2 HSN
      have hb4 := hb
      clear hb
      obtain ⟨wo, rfl⟩ : ∃ x : World, x = wr := ⟨_, rfl⟩
      go_loopw [55] (fun i wr => ∃ k : Nat, k ≤ m ∧ i = .int .i64 k ∧ (∀ (j : Nat) (o : Opr), j < k → ops[j]? = some o → AxOk ⟨s, ops⟩ o) ∧ Below W.heap.size W wr) (fun i _ => m - (intOf i).toNat)
      case atStart => exact ⟨0, Nat.zero_le _, rfl, fun j o h => by omega, hb4⟩
      case round =>
        obtain ⟨k, hk, rfl, hall, hb⟩ := hrel
        have HAX := Lib.hid hall
        clear hall
        by_cases hkn' : k < m
        · obtain ⟨o, ho⟩ : ∃ o, ops[k]? = some o := ⟨_, List.getElem?_eq_getElem (by have := HM.out; omega)⟩
          have HOO := Lib.hid (HOK.out.2 o (List.mem_of_getElem? ho))
          obtain ⟨b, off, vd, rfl, hbz, c0, c1, c2, c3, c4, rd⟩ := Rep.opAt HOK.out.2 (F2W.out.below hb) ho
          have HO := Lib.hid ho
          obtain ⟨name, decls, ac, cm, un⟩ := o
          simp only at c0 c2 c3 c4 rd
          have hrv : RepVals wr (fun _ => True) (encOpr ⟨name, decls, ac, cm, un⟩) [.string name, vd, .bool ac, .bool cm, .int .i64 un] := by simp only [encOpr, RepVals, Rep.lit_iff, and_true, true_and]; exact rd
          obtain ⟨Ad, capd, rfl, _, _⟩ := rd.shape
          have HRV := Lib.hid hrv
          clear ho rd hrv
          generalize decls.length = ld at *
          go_upto_region 15 with ((with_reducible refine atStore 153 (.tmp 9) (.tmp 58) rfl ?_); refine wpList_store_new rfl 153 _ _ rfl _ _ _ rfl _ rfl (by simp) [.string name, .slice Ad ld capd, .bool ac, .bool cm, .int .i64 un] rfl ip hpi hps rfl (by simp [Value.oneCell']) ?_)
          simp only [Act.put]
          generalize hW7 : wr.alloc _ = W7
          have hb7 : Below wr.heap.size wr W7 := by rw [← hW7]; exact belowA _ _
          have y0 : W7.cell? ⟨wr.heap.size, 0, none⟩ = some (.string name) := (by rw [← hW7]; repeat' (first | (simp; done) | exact keepNew (by simp) rfl | refine keepA _ ?_))
          have y1 : W7.cell? ⟨wr.heap.size, 1, none⟩ = some (.slice Ad ld capd) := (by rw [← hW7]; repeat' (first | (simp; done) | exact keepNew (by simp) rfl | refine keepA _ ?_))
          have y2 : W7.cell? ⟨wr.heap.size, 2, none⟩ = some (.bool ac) := (by rw [← hW7]; repeat' (first | (simp; done) | exact keepNew (by simp) rfl | refine keepA _ ?_))
          have y3 : W7.cell? ⟨wr.heap.size, 3, none⟩ = some (.bool cm) := (by rw [← hW7]; repeat' (first | (simp; done) | exact keepNew (by simp) rfl | refine keepA _ ?_))
          have y4 : W7.cell? ⟨wr.heap.size, 4, none⟩ = some (.int .i64 un) := (by rw [← hW7]; repeat' (first | (simp; done) | exact keepNew (by simp) rfl | refine keepA _ ?_))
          have hbW7 : Below W.heap.size W W7 := hb.trans (hb7.mono hb.size)
          have q0 := keepB hbW7 r0
          have q1 := keepB hbW7 r1
          have q2 := keepB hbW7 r2
          have q3 := keepB hbW7 p3
          have q4 := keepB hbW7 p4
          have q5 := keepB hbW7 p5
          have HCA := Lib.hid (implAxiomsOK ⟨s, ops⟩ ⟨name, decls, ac, cm, un⟩ (fun _ => True) Aa Ak n ca ck (.slice Ab n cb) [.slice Ag0 n cg0, .slice Ag1 ls cg1, .slice (some ⟨b, off, none⟩) m cg2] [.string name, .slice Ad ld capd, .bool ac, .bool cm, .int .i64 un] W7 HLN.out h8 HK.out HOK.out HOO.out (HVW.out.below hbW7) (HRV.out.below hb7) (HDA.out _ (List.mem_of_getElem? HO.out)) HDA.out rfl (RKW.out.below hbW7))
          clear hW7 c0 c1 c2 c3 c4 HRV hb7 hb hbz
          generalize wr.heap.size = g7 at *
          cases hax : axOk ⟨s, ops⟩ ⟨name, decls, ac, cm, un⟩
          · have HF : Hid (isSgn ⟨s, ops⟩ = false) := isSgn_false fun h => by have := axOk_true (h.axs _ (List.mem_of_getElem? HO.out)); rw [hax] at this; cases this
            rw [hax] at HCA
            clear hax
            go_wp2_with (go_at_call 145; refine HCA.out.mono ?_; rintro e w3 ⟨rfl, hb3⟩)
            go_ret
            exact ⟨ret_bool HF.out.symm, hbW.trans ((hbW7.trans (hb3.mono hbW7.size)).mono hbW.size)⟩
          · have HAO := Lib.hid (axOk_iff.1 hax)
            rw [hax] at HCA
            clear hax
            go_wp2_with (go_at_call 145; refine HCA.out.mono ?_; rintro e w3 ⟨rfl, hb3⟩)
            go_roundw
            case rel =>
              refine ⟨k + 1, by omega, by go_num, fun j p hj hp => ?_, hbW7.trans (hb3.mono hbW7.size)⟩
              by_cases hjk : j = k
              · subst hjk
                rw [HO.out] at hp
                injection hp with hp
                rw [← hp]
                exact HAO.out
              · exact HAX.out j p (by omega) hp
            case measure => simp [intOf]; omega
        · obtain rfl : m = k := by omega
          have HF : Hid (isSgn ⟨s, ops⟩ = true) := isSgn_true ⟨HSO.out, by have := HM.out; simp only; omega, fun i o hi => (HALL.out i o (by have hil : i < ops.length := (List.getElem?_eq_some_iff.1 hi).1; have := HM.out; omega) hi).1, HDA.out, fun o ho => by
            obtain ⟨i, hi⟩ := List.mem_iff_getElem?.1 ho
            exact HAX.out i o (by have hil : i < ops.length := (List.getElem?_eq_some_iff.1 hi).1; have := HM.out; omega) hi⟩
          go_wp2
          go_ret
          exact ⟨ret_bool HF.out.symm, hbW.trans (hb.mono hbW.size)⟩
end Go.Proofs.YtpbikjkjfojjiaaGreat
namespace Go.Proofs.YtpbikjkjfojjiaaGreat
open Go.RowKit
theorem okRow_Ints {r : List C} (h : okRow (fieldsOf .ints) r) : ∃ r0, r = [.sl r0] ∧ okRows (fieldsOf .int) r0 := by
  obtain ⟨c0, rfl⟩ := len1 h.len
  simp only [fieldsOf, okRow, and_true] at h
  obtain ⟨r0, rfl, g0⟩ := okC_sl h
  exact ⟨r0, rfl, g0⟩
theorem mkRow_Ints {r0 : List (List C)} (g0 : okRows (fieldsOf .int) r0) : okRow (fieldsOf .ints) [.sl r0] := by
  simp only [fieldsOf, okRow, and_true]
  exact mk_sl g0
def szIntsC (row : List C) : Prop := ∀ (S : Nat → Prop) (us : List Value) (left : Int) (w : World), okRow (fieldsOf .ints) row → RepVals w S row us → 0 ≤ left → left ≤ 1048576 →
  Calls Tryz.prog 114 #[us.getD 0 undef, .int .i64 left] w fun e w' => e = .returned (.int .i64 (sub left (bulkRow row))) ∧ Below w.heap.size w w'
def eqIntsC (row : List C) : Prop := ∀ (S S' : Nat → Prop) (us us' : List Value) (w : World), okRow (fieldsOf .ints) row → RepVals w S row us → RepVals w S' row us' →
  Calls Tryz.prog 31 #[us.getD 0 undef, us'.getD 0 undef] w fun e w' => e = .returned (.bool true) ∧ Below w.heap.size w w'
def toIntsC (row : List C) : Prop := ∀ (S : Nat → Prop) (us : List Value) (w : World), okRow (fieldsOf .ints) row → RepVals w S row us → bulkRow row ≤ 1048576 →
  Calls Tryz.prog 27 #[us.getD 0 undef] w fun e w' => ∃ v' : Value, e = .returned v' ∧ OwnVals w' row (fun x => w.heap.size ≤ x ∧ x < w'.heap.size) [v'] ∧ Below w.heap.size w w'
theorem szInts_any (row : List C) : szIntsC row := by
  intro S us left w hok hv h0 h1
  obtain ⟨r0, rfl, g0⟩ := okRow_Ints hok
  obtain ⟨u0, rfl⟩ := len1 (hv.len.trans hok.len)
  simp only [RepVals, and_true] at hv
  have := szIntS_any r0 S u0 left w g0 hv h0 h1
  simpa [bulkRow, bulkC] using this
theorem eqInts_any (row : List C) : eqIntsC row := by
  intro S S' us us' w hok hv hv'
  obtain ⟨r0, rfl, g0⟩ := okRow_Ints hok
  obtain ⟨u0, rfl⟩ := len1 (hv.len.trans hok.len)
  obtain ⟨u1, rfl⟩ := len1 (hv'.len.trans hok.len)
  simp only [RepVals, and_true] at hv hv'
  exact eqIntS_any r0 S S' u0 u1 w g0 hv hv'
theorem toInts_any (row : List C) : toIntsC row := by
  intro S us w hok hv h1
  obtain ⟨r0, rfl, g0⟩ := okRow_Ints hok
  obtain ⟨u0, rfl⟩ := len1 (hv.len.trans hok.len)
  simp only [RepVals, and_true] at hv
  refine (toIntS_any r0 S u0 w g0 hv (by simpa [bulkRow, bulkC] using h1)).mono ?_
  rintro e w' ⟨v', rfl, hown, hb⟩
  exact ⟨v', rfl, OwnVals.cons _ (fun _ => False) hown OwnVals.nil (fun _ h => h) (fun _ h => h.elim) (fun _ _ h => h), hb⟩
def szIntsSC (rows : List (List C)) : Prop := ∀ (S : Nat → Prop) (v : Value) (left : Int) (w : World), okRows (fieldsOf .ints) rows → Rep w S (.sl rows) v → 0 ≤ left → left ≤ 1048576 →
  Calls Tryz.prog 60 #[v, .int .i64 left] w fun e w' => e = .returned (.int .i64 (sub left (rows.length + bulkRows rows))) ∧ Below w.heap.size w w'
def eqIntsSC (rows : List (List C)) : Prop := ∀ (S S' : Nat → Prop) (v v' : Value) (w : World), okRows (fieldsOf .ints) rows → Rep w S (.sl rows) v → Rep w S' (.sl rows) v' →
  Calls Tryz.prog 72 #[v, v'] w fun e w' => e = .returned (.bool true) ∧ Below w.heap.size w w'
def toIntsSC (rows : List (List C)) : Prop := ∀ (S : Nat → Prop) (v : Value) (w : World), okRows (fieldsOf .ints) rows → Rep w S (.sl rows) v → rows.length + bulkRows rows ≤ 1048576 →
  Calls Tryz.prog 66 #[v] w fun e w' => ∃ v', e = .returned v' ∧ Own w' (.sl rows) (fun x => w.heap.size ≤ x ∧ x < w'.heap.size) v' ∧ Below w.heap.size w w'
set_option maxHeartbeats 1000000 in
theorem szIntsS_of (rows : List (List C)) (h : ∀ (i : Nat) r, rows[i]? = some r → szIntsC r) : szIntsSC rows := by
  intro S v left w hok hv h0 h1
  obtain ⟨A, m, cap, rfl, hm, hmc, hcm⟩ := hv.form
  have H := Lib.hid h
  have HV := Lib.hid hv
  have HM := Lib.hid hm
  have HOK := Lib.hid hok
  clear h hv hm hok
  unfold maxLen at hcm
  by_cases hlt : left - m < 0
  · rw [sub_neg (by have := HM.out; omega)]
    go_enter Tryz.func60, Tryz.ntmps60
    go_wp2
    go_ret
    exact ⟨rfl, Below.refl _ _⟩
  · go_enter Tryz.func60, Tryz.ntmps60
    go_wp2
    go_loopw [1, 5] (fun l i wr => ∃ k : Nat, k ≤ m ∧ i = .int .i64 k ∧ l = .int .i64 (left - m - (bulkRows (rows.take k) : Int)) ∧ 0 ≤ left - m - (bulkRows (rows.take k) : Int) ∧ Below w.heap.size w wr) (fun _ i _ => m - (intOf i).toNat)
    case atStart => exact ⟨0, Nat.zero_le _, rfl, by simp [bulkRows], by simp [bulkRows]; omega, Below.refl _ _⟩
    case round =>
      obtain ⟨k, hk, rfl, rfl, hl0, hb⟩ := hrel
      by_cases hkm : k < m
      · obtain ⟨b, off, r, rfl, hS, hbz, hget, hokr, hrow⟩ := (HV.out.below hb).get HOK.out hkm
        obtain ⟨u0, c0, hvals⟩ := hrow.vals1 hokr.len
        have HT := H.out k r hget
        have HVALS := Lib.hid hvals
        have HOKR := Lib.hid hokr
        have HBT := Lib.hid (bulk_take hget)
        have hle := bulk_take_le rows (k+1)
        clear hvals hokr hrow hget
        simp only [fieldsOf, termF, occF, sortsF, sigF, moduleF, algF, List.cons_append, List.nil_append, List.length_cons, List.length_nil, Nat.reduceAdd, Nat.mul_one] at c0
        by_cases h2 : left - m - (bulkRows (rows.take k) : Int) < bulkRow r
        · go_wp2_with fail
          refine (HT S _ _ _ HOKR.out HVALS.out (by omega) (by omega)).mono ?_
          rw [sub_neg h2]
          rintro e w' ⟨rfl, hb2⟩
          go_wp2
          go_ret
          exact ⟨ret_int (a := -1) (sub_neg (by have := HBT.out; have := HM.out; omega)).symm, hb.trans (hb2.mono hb.size)⟩
        · go_wp2_with fail
          refine (HT S _ _ _ HOKR.out HVALS.out (by omega) (by omega)).mono ?_
          rw [sub_pos (by omega)]
          rintro e w' ⟨rfl, hb2⟩
          go_wp2
          go_roundw
          case rel => exact ⟨k + 1, by omega, by go_num, by have := HBT.out; congr 1; omega, by have := HBT.out; omega, hb.trans (hb2.mono hb.size)⟩
          case measure => simp [intOf]; omega
      · go_wp2
        go_ret
        have e : k = m := by omega
        subst e
        have : rows.take k = rows := List.take_of_length_le (by have := HM.out; omega)
        rw [this] at hl0 ⊢
        exact ⟨ret_int (by have := HM.out; rw [sub_pos (by omega)]; omega), hb⟩
set_option maxHeartbeats 1000000 in
theorem eqIntsS_of (rows : List (List C)) (h : ∀ (i : Nat) r, rows[i]? = some r → eqIntsC r) : eqIntsSC rows := by
  intro S S' v v' w hok hv hv'
  obtain ⟨A, m, cap, rfl, hm, hmc, hcm⟩ := hv.form
  obtain ⟨A', m', cap', rfl, hm', hmc', hcm'⟩ := hv'.form
  obtain rfl : m = m' := by omega
  have H := Lib.hid h
  have HV := Lib.hid hv
  have HV' := Lib.hid hv'
  have HM := Lib.hid hm
  have HOK := Lib.hid hok
  clear h hv hm hok hm' hv'
  unfold maxLen at hcm hcm'
  go_enter Tryz.func72, Tryz.ntmps72
  go_wp2
  go_loopw [5] (fun i wr => ∃ k : Nat, k ≤ m ∧ i = .int .i64 k ∧ Below w.heap.size w wr) (fun i _ => m - (intOf i).toNat)
  case atStart => exact ⟨0, Nat.zero_le _, rfl, Below.refl _ _⟩
  case round =>
    obtain ⟨k, hk, rfl, hb⟩ := hrel
    by_cases hkm : k < m
    · obtain ⟨b, off, r, rfl, hS, hbz, hget, hokr, hrow⟩ := (HV.out.below hb).get HOK.out hkm
      obtain ⟨b', off', r', rfl, hS', hbz', hget', hokr', hrow'⟩ := (HV'.out.below hb).get HOK.out hkm
      obtain rfl : r = r' := by rw [hget] at hget'; exact Option.some.inj hget'
      obtain ⟨u0, c0, hvals⟩ := hrow.vals1 hokr.len
      obtain ⟨x0, d0, hvals'⟩ := hrow'.vals1 hokr.len
      have HT := H.out k r hget
      have HVALS := Lib.hid hvals
      have HVALS' := Lib.hid hvals'
      have HOKR := Lib.hid hokr
      clear hvals hvals' hokr hokr' hrow hrow' hget hget'
      simp only [fieldsOf, termF, occF, sortsF, sigF, moduleF, algF, List.cons_append, List.nil_append, List.length_cons, List.length_nil, Nat.reduceAdd, Nat.mul_one] at c0 d0
      have k0 : (0 : Int) ≤ (k : Int) := by omega
      have k1 : (k : Int) < (m : Int) := by omega
      go_wp2_with fail
      go_region_held3 (fun w' => ∀ b o, b < wr.heap.size → w'.cell? ⟨b, o, none⟩ = wr.cell? ⟨b, o, none⟩) (first | go_keep | exact fun b o h => hb2.cell (p := ⟨b, o, none⟩) h) (first | (go_at_call 31; refine (HT S S' _ _ _ HOKR.out (HVALS.out.below (Below.refl _ _).drew) (HVALS'.out.below (Below.refl _ _).drew)).mono ?_; rintro e w' ⟨rfl, hb2⟩))
      go_wp2
      go_roundw
      case rel => exact ⟨k + 1, by omega, by go_num, hb.trans ((Below.refl _ _).drew.trans (hb2.mono hb.size))⟩
      case measure => simp [intOf]; omega
    · go_wp2
      go_ret
      exact ⟨rfl, hb⟩
theorem info_Ints : (Tryz.prog.info? 69).map (fun i => (i.zero, i.size, i.bytes)) = some (some (.slice none 0 0), 1, 24) := by kernel_rfl
set_option maxHeartbeats 1000000 in
theorem toIntsS_of (rows : List (List C)) (h : ∀ (i : Nat) r, rows[i]? = some r → toIntsC r) : toIntsSC rows := by
  intro S v w hok hv hlen
  obtain ⟨A, m, cap, rfl, hm, hmc, hcm⟩ := hv.form
  obtain ⟨i0, hi, hz0, hz1, hz2⟩ := info_parts info_Ints
  have H := Lib.hid h
  have HV := Lib.hid hv
  have HM := Lib.hid hm
  have HOK := Lib.hid hok
  have hml : m ≤ 1048576 := by omega
  clear h hv hm hok
  unfold maxLen at hcm
  have hmk := run_make (P := Tryz.prog) w 66 69 i0 _ Tryz.underlying66 hi hz0 .i64 .i64 (m : Int) (m : Int) (by omega) (by omega) (by rw [hz2]; omega) (by omega)
  go_enter Tryz.func66, Tryz.ntmps66
  go_wp2
  clear hmk
  go_loopw [4] (fun i wr => ∃ k : Nat, k ≤ m ∧ i = .int .i64 k ∧ Filling w w.heap.size 69 m 1 rows k wr) (fun i _ => m - (intOf i).toNat)
  case atStart => exact ⟨0, Nat.zero_le _, rfl, Filling.start (by rw [size_madeCells]; omega)⟩
  case round =>
    obtain ⟨k, hk, rfl, hfill⟩ := hrel
    have hb := hfill.1
    by_cases hkm : k < m
    · obtain ⟨b, off, r, rfl, hS, hbz, hget, hokr, hrow⟩ := (HV.out.below hb).get HOK.out hkm
      obtain ⟨u0, c0, hvals⟩ := hrow.vals1 hokr.len
      have HT := H.out k r hget
      have HVALS := Lib.hid hvals
      have HOKR := Lib.hid hokr
      have HGET := Lib.hid hget
      have HF := Lib.hid hfill
      have hbg := bulk_get hget
      clear hvals hokr hrow hget hfill
      simp only [fieldsOf, termF, occF, sortsF, sigF, moduleF, algF, List.cons_append, List.nil_append, List.length_cons, List.length_nil, Nat.reduceAdd, Nat.mul_one] at c0
      go_wp2_with fail
      refine (HT S _ _ HOKR.out HVALS.out (by omega)).mono ?_
      rintro e w2 ⟨y0, rfl, hown, hb2⟩
      have hone := HOKR.out.one (OwnVals.rep _ _ (fun _ => True) _ (fun _ _ => trivial) hown)
      have hform : ∃ A1 n1 c1, y0 = Value.slice A1 n1 c1 := by
        obtain ⟨r0, rfl, _⟩ := okRow_Ints HOKR.out
        have hr := OwnVals.rep _ _ (fun _ => True) _ (fun _ _ => trivial) hown
        simp only [RepVals, and_true] at hr
        obtain ⟨A1, n1, c1, e1, _⟩ := hr.form
        exact ⟨A1, n1, c1, e1⟩
      obtain ⟨A1, n1, c1, rfl⟩ := hform
      have HOWN := Lib.hid hown
      have HONE := Lib.hid hone
      obtain ⟨cur, hcur, hcs⟩ := HF.out.row hb2
      have HCUR := Lib.hid hcur
      have HCS := Lib.hid hcs
      clear hown hone hcur hcs
      go_wp2_with (refine wpList_store_put rfl 69 _ _ rfl w.heap.size k rfl [.slice A1 n1 c1] rfl i0 hi hz1 69 cur HCUR.out (by have := HCS.out; simp only [List.length_cons, List.length_nil]; omega) HONE.out ?_; intro w3 hput)
      go_roundw
      case rel => exact ⟨k + 1, by omega, by go_num, HF.out.step (fs := fieldsOf .ints) HOK.out HGET.out hb2 HOWN.out (by simpa [fieldsOf] using hput)⟩
      case measure => simp [intOf]; omega
    · go_wp2
      go_ret
      have e : k = m := by omega
      subst e
      exact ⟨_, rfl, hfill.done HM.out (by unfold maxLen; omega) (by decide) HOK.out.lens⟩
theorem szIntsS_any (rows : List (List C)) : szIntsSC rows := szIntsS_of rows (fun _ r _ => szInts_any r)
theorem eqIntsS_any (rows : List (List C)) : eqIntsSC rows := eqIntsS_of rows (fun _ r _ => eqInts_any r)
theorem toIntsS_any (rows : List (List C)) : toIntsSC rows := toIntsS_of rows (fun _ r _ => toInts_any r)
end Go.Proofs.YtpbikjkjfojjiaaGreat
namespace Go.Proofs.YtpbikjkjfojjiaaGreat
open Go.RowKit
theorem okRow_Algebra {r : List C} (h : okRow (algF) r) : ∃ (i0 : Int) (r1 : List (List C)), r = [.lit (.int .i64 i0), .sl r1] ∧ I64 i0 ∧ okRows (fieldsOf .ints) r1 := by
  obtain ⟨c0, c1, rfl⟩ := len2 h.len
  simp only [fieldsOf, termF, occF, sortsF, sigF, moduleF, algF, List.cons_append, List.nil_append, okRow, and_true] at h
  obtain ⟨h0, h1⟩ := h
  obtain ⟨i0, rfl, g0⟩ := okC_int h0
  obtain ⟨r1, rfl, g1⟩ := okC_sl h1
  exact ⟨i0, r1, rfl, g0, g1⟩
theorem repVals_Algebra {w : World} {S : Nat → Prop} {i0 : Int} {r1 : List (List C)} {us : List Value} (h : RepVals w S [.lit (.int .i64 i0), .sl r1] us) : ∃ v1, us = [.int .i64 i0, v1] ∧ Rep w S (.sl r1) v1 := by
  obtain ⟨u0, u1, rfl⟩ := len2 h.len
  simp only [RepVals, Rep.lit_iff, and_true] at h
  obtain ⟨rfl, e1⟩ := h
  exact ⟨u1, rfl, e1⟩
def szAlgebraC (row : List C) : Prop := ∀ (S : Nat → Prop) (us : List Value) (left : Int) (w : World), okRow (algF) row → RepVals w S row us → 0 ≤ left → left ≤ 1048576 →
  Calls Tryz.prog 22 #[.agg us.toArray, .int .i64 left] w fun e w' => e = .returned (.int .i64 (sub left (bulkRow row))) ∧ Below w.heap.size w w'
def eqAlgebraC (row : List C) : Prop := ∀ (S S' : Nat → Prop) (us us' : List Value) (w : World), okRow (algF) row → RepVals w S row us → RepVals w S' row us' →
  Calls Tryz.prog 29 #[.agg us.toArray, .agg us'.toArray] w fun e w' => e = .returned (.bool true) ∧ Below w.heap.size w w'
def toAlgebraC (row : List C) : Prop := ∀ (S : Nat → Prop) (us : List Value) (w : World), okRow (algF) row → RepVals w S row us → bulkRow row ≤ 1048576 →
  Calls Tryz.prog 25 #[.agg us.toArray] w fun e w' => ∃ us' : List Value, e = .returned (.agg us'.toArray) ∧ OwnVals w' row (fun x => w.heap.size ≤ x ∧ x < w'.heap.size) us' ∧ Below w.heap.size w w'
set_option maxHeartbeats 1000000 in
theorem szAlgebra_of (row : List C) : szAlgebraC row := by
  intro S us left w hok hv h0 h1
  obtain ⟨i0, r1, rfl, g0, g1⟩ := okRow_Algebra hok
  obtain ⟨v1, rfl, e1⟩ := repVals_Algebra hv
  have HC1 := Lib.hid (szIntsS_any r1)
  have HB := Lib.hid (show bulkRow [.lit (.int .i64 i0), .sl r1] = (r1.length + bulkRows r1) from by simp only [bulkRow, bulkC]; omega)
  have G0 := Lib.hid g0
  have G1 := Lib.hid g1
  clear g0 g1 hok
  have E1 := Lib.hid e1
  clear hv e1
  generalize hrow : bulkRow [.lit (.int .i64 i0), .sl r1] = total at HB ⊢
  clear hrow
  have hbw := (Below.refl w.heap.size w).alloc (Nat.le_refl _) (.cells #[.int .i64 i0, v1] 68)
  go_enter Tryz.func22, Tryz.ntmps22
  go_wp2_with fail
  by_cases q1 : left < ((r1.length + bulkRows r1) : Nat)
  · refine (HC1.out S _ _ _ G1.out (E1.out.below hbw) (by omega) (by omega)).mono ?_
    rw [sub_neg (by omega)]
    rintro e w1 ⟨rfl, hb1⟩
    go_wp2
    go_ret
    exact ⟨ret_int (a := -1) (sub_neg (by have := HB.out; omega)).symm, hbw.trans (hb1.mono hbw.size)⟩
  refine (HC1.out S _ _ _ G1.out (E1.out.below hbw) (by omega) (by omega)).mono ?_
  rw [sub_pos (by omega)]
  rintro e w1 ⟨rfl, hb1⟩
  obtain ⟨hc1, hf1⟩ := bcell hb1
  have hz1 : w.heap.size < w1.heap.size := (by have := hb1.size; (try simp at this); omega)
  replace hbw := hbw.trans (hb1.mono hbw.size)
  go_wp2
  go_ret
  exact ⟨ret_int (by have := HB.out; rw [sub_pos (by omega)]; omega), hbw⟩
set_option maxHeartbeats 1000000 in
theorem eqAlgebra_of (row : List C) : eqAlgebraC row := by
  intro S S' us us' w hok hv hv'
  obtain ⟨i0, r1, rfl, g0, g1⟩ := okRow_Algebra hok
  obtain ⟨v1, rfl, e1⟩ := repVals_Algebra hv
  obtain ⟨x1, rfl, d1⟩ := repVals_Algebra hv'
  have HC1 := Lib.hid (eqIntsS_any r1)
  have G0 := Lib.hid g0
  have G1 := Lib.hid g1
  clear g0 g1 hok
  have E1 := Lib.hid e1
  have D1 := Lib.hid d1
  clear hv hv' e1 d1
  have hbw := ((Below.refl w.heap.size w).alloc (Nat.le_refl _) (.cells #[.int .i64 i0, v1] 73)).alloc (by simp) (.cells #[.int .i64 i0, x1] 73)
  go_enter Tryz.func29, Tryz.ntmps29
  go_wp2_with fail
  refine (HC1.out S S' _ _ _ G1.out (E1.out.below hbw) (D1.out.below hbw)).mono ?_
  rintro e w1 ⟨rfl, hb1⟩
  obtain ⟨hc1, hf1⟩ := bcell hb1
  have hz1 : w.heap.size + 1 < w1.heap.size := (by have := hb1.size; (try simp at this); omega)
  have ha1 : w.heap.size < w1.heap.size := by omega
  replace hbw := hbw.trans (hb1.mono hbw.size)
  go_wp2
  go_ret
  exact ⟨rfl, hbw⟩
set_option maxHeartbeats 2000000 in
theorem toAlgebra_of (row : List C) : toAlgebraC row := by
  intro S us w hok hv hlen
  obtain ⟨i0, r1, rfl, g0, g1⟩ := okRow_Algebra hok
  obtain ⟨v1, rfl, e1⟩ := repVals_Algebra hv
  have HC1 := Lib.hid (toIntsS_any r1)
  have G0 := Lib.hid g0
  have G1 := Lib.hid g1
  clear g0 g1 hok
  have E1 := Lib.hid e1
  clear hv e1
  have hl1 : (r1.length + bulkRows r1) ≤ 1048576 := by
    have e : (r1.length + bulkRows r1) ≤ bulkRow [.lit (.int .i64 i0), .sl r1] := by simp only [bulkRow, bulkC]; omega
    exact Nat.le_trans e hlen
  clear hlen
  go_enter Tryz.func25, Tryz.ntmps25
  go_wp2_with fail
  refine (HC1.out S _ _ G1.out (by exact E1.out.below (by repeat (first | refine Below.alloc ?_ (by simp; try omega) _ | exact Below.refl _ _))) hl1).mono ?_
  rintro e w1 ⟨y1, rfl, hown1, hb1⟩
  obtain ⟨A1, n1, cap1, rfl, _, _, _⟩ := (Own.rep _ _ _ hown1).form
  have hz1 := hb1.size
  simp at hz1 hown1
  have HOWN1 := Lib.hid hown1
  clear hown1
  have hbw1 : Below w.heap.size w w1 := Below.trans (by repeat (first | refine Below.alloc ?_ (by simp; try omega) _ | exact Below.refl _ _)) (hb1.mono (by simp; try omega))
  obtain ⟨hc1, hf1⟩ := bcell hb1
  have ha1 : w.heap.size < w1.heap.size := by omega
  have hbb1 : w.heap.size + 1 < w1.heap.size := by omega
  have hcc1 : w.heap.size + 1 + 1 < w1.heap.size := by omega
  go_wp2
  refine bodyPost_ret (v := .agg #[.int .i64 i0, .slice A1 n1 cap1]) (by simp [results, Tryz.results25, go_sem, hc1, ha1, hbb1, hcc1]) rfl ⟨[.int .i64 i0, .slice A1 n1 cap1], rfl, ?_, (by repeat (first | refine Below.setCell ?_ (by simp; try omega) _ | exact hbw1))⟩
  simp
  exact (OwnVals.lit (OwnVals.cons (fun x => w.heap.size + 1 + 1 + 1 ≤ x ∧ x < w1.heap.size) (fun x => w1.heap.size ≤ x ∧ x < w1.heap.size) (HOWN1.out.same (by repeat (first | refine Same.trans ?_ (Same.setCell _ _ _ _ (by simp; try omega)) | exact Same.refl _ _))) OwnVals.nil (fun x hx => ⟨by omega, by omega⟩) (fun x hx => ⟨by omega, by omega⟩) (fun x hx hy => by omega)))
theorem szAlgebra_any (row : List C) : szAlgebraC row := szAlgebra_of row
theorem eqAlgebra_any (row : List C) : eqAlgebraC row := eqAlgebra_of row
theorem toAlgebra_any (row : List C) : toAlgebraC row := toAlgebra_of row
end Go.Proofs.YtpbikjkjfojjiaaGreat
namespace Go.Proofs.YtpbikjkjfojjiaaGreat
open Go.RowKit
def encInts (l : List Int) : List C := [.sl (l.map encInt)]
def okInts (l : List Int) : Prop := ∀ x ∈ l, I64 x
theorem decInts : ∀ row, okRow (fieldsOf .ints) row → ∃ a, row = encInts a ∧ okInts a := fun row h => by
  obtain ⟨r0, rfl, g0⟩ := okRow_Ints h
  obtain ⟨l, rfl, hl⟩ := decL decInt g0
  exact ⟨l, rfl, hl⟩
theorem okIntsR : ∀ a, okInts a → okRow (fieldsOf .ints) (encInts a) := fun a h => mkRow_Ints (okL okInt h)
structure Alg where
  size : Int
  tables : List (List Int)
def encAlg (a : Alg) : List C := [.lit (.int .i64 a.size), .sl (a.tables.map encInts)]
def okAlg (a : Alg) : Prop := I64 a.size ∧ ∀ t ∈ a.tables, okInts t
theorem decAlg {row : List C} (h : okRow algF row) : ∃ a, row = encAlg a ∧ okAlg a := by
  obtain ⟨i0, r1, rfl, g0, g1⟩ := okRow_Algebra h
  obtain ⟨l, rfl, hl⟩ := decL decInts g1
  exact ⟨⟨i0, l⟩, rfl, g0, hl⟩
theorem Rep.intsAt {w : World} {S : Nat → Prop} {l : List (List Int)} {A : Option Addr} {m cap k : Nat} {t : List Int} (hl : ∀ x ∈ l, okInts x) (h : Rep w S (.sl (l.map encInts)) (.slice A m cap)) (ht : l[k]? = some t) :
    ∃ b off At ct, A = some ⟨b, off, none⟩ ∧ b < w.heap.size ∧ w.cell? ⟨b, off + k, none⟩ = some (.slice At t.length ct) ∧ t.length ≤ ct ∧ ct ≤ maxLen ∧ Rep w S (.sl (t.map encInt)) (.slice At t.length ct) := by
  obtain ⟨b, off, rfl, _, hb, hr⟩ := Rep.at okIntsR hl h ht
  simp only [encInts, RepRow, and_true, fieldsOf, List.length_cons, List.length_nil, Nat.zero_add, Nat.mul_one] at hr
  obtain ⟨u, c0, r0⟩ := hr
  obtain ⟨At, ct, rfl, h1, h2⟩ := r0.shape
  exact ⟨b, off, At, ct, rfl, hb, c0, h1, h2, r0⟩
end Go.Proofs.YtpbikjkjfojjiaaGreat
namespace Go.Proofs.YtpbikjkjfojjiaaGreat
open Go.RowKit
structure Kept (D : Prop) (E : Nat → Prop) (B : Nat) (w w' : World) : Prop where
  os : w'.os = w.os
  tape : w'.tape = w.tape
  output : w'.output = w.output
  drawn : D → w.drawn ≤ w'.drawn
  size : w.heap.size ≤ w'.heap.size
  block : ∀ k, k < B → ¬ E k → w'.heap[k]? = w.heap[k]?
theorem Kept.refl (D : Prop) (E : Nat → Prop) (B : Nat) (w : World) : Kept D E B w w := ⟨rfl, rfl, rfl, fun _ => Nat.le_refl _, Nat.le_refl _, fun _ _ _ => rfl⟩
theorem Kept.trans {D : Prop} {E : Nat → Prop} {B : Nat} {a b c : World} (h : Kept D E B a b) (k : Kept D E B b c) : Kept D E B a c :=
  ⟨k.os.trans h.os, k.tape.trans h.tape, k.output.trans h.output, fun d => Nat.le_trans (h.drawn d) (k.drawn d), Nat.le_trans h.size k.size, fun i hi hE => (k.block i hi hE).trans (h.block i hi hE)⟩
theorem Kept.mono {D : Prop} {E : Nat → Prop} {B B' : Nat} {w w' : World} (h : Kept D E B w w') (hB : B' ≤ B) : Kept D E B' w w' :=
  ⟨h.os, h.tape, h.output, h.drawn, h.size, fun k hk hE => h.block k (Nat.lt_of_lt_of_le hk hB) hE⟩
theorem Kept.of_below {D : Prop} {E : Nat → Prop} {B : Nat} {w w' : World} (h : Below B w w') (hd : D → w.drawn ≤ w'.drawn) : Kept D E B w w' := ⟨h.os, h.tape, h.output, hd, h.size, fun k hk _ => h.block k hk⟩
theorem Kept.below {D : Prop} {B : Nat} {w w' : World} (h : Kept D (fun _ => False) B w w') : Below B w w' := ⟨h.os, h.tape, h.output, h.size, fun k hk => h.block k hk id⟩
/-- The program, the blocks that may turn, what is kept of them, and whether it is told that no draw is undone. -/
structure Env where
  P : Program
  E : Nat → Prop
  G : World → Prop
  D : Prop
structure Env.Ok (e : Env) : Prop where
  keep : ∀ w w' : World, w.heap.size ≤ w'.heap.size → (∀ b, e.E b → w'.heap[b]? = w.heap[b]?) → e.G w → e.G w'
  mixed : e.P.follows .mixedOrders = true
/-- A datum that a slot holds: one cell, a struct's cells, or a slice without room behind its end. -/
inductive D where
  | one (c : C)
  | agg (cs : List C)
  | clip (rows : List (List C))
/-- What the call owns: a variable's cells, or a slice's rows (the elements' type and size); o: the address, where it is known. -/
inductive Bk where
  | var (o : Option Nat) (cs : List C)
  | buf (o : Option (Option Addr × Nat)) (e sz : Nat) (rows : List (List C))
  | set (E : Nat → Prop) (G : World → Prop)
/-- What G says is kept while the blocks of E are. -/
def StableOn (E : Nat → Prop) (G : World → Prop) : Prop := ∀ w w' : World, w.heap.size ≤ w'.heap.size → (∀ b, E b → w'.heap[b]? = w.heap[b]?) → G w → G w'
inductive A where
  | undef
  | no
  | d (x : D)
  | tup (xs : List D)
  | ref (k off : Nat)
  | buf (k : Nat)
  | row (k j sz off : Nat)
/-- Where the own things lie: the variables' blocks, the slices' values. -/
structure Lay where
  b : Nat → Nat
  v : Nat → Value
def DRel (w : World) (S : Nat → Prop) : D → Value → Prop
  | .one c, v => Rep w S c v
  | .agg cs, v => ∃ vs : List Value, v = .agg vs.toArray ∧ RepVals w S cs vs
  | .clip rows, v => Rep w S (.sl rows) v ∧ ∃ a n, v = .slice a n n
def DsRel (w : World) (S : Nat → Prop) : List D → List Value → Prop
  | [], [] => True
  | x :: xs, v :: vs => DRel w S x v ∧ DsRel w S xs vs
  | _, _ => False
/-- The block of a slice with room. -/
def vblk : Value → Option Nat
  | .slice (some a) _ cap => if cap = 0 then none else some a.block
  | _ => none
def ARel (w : World) (S : Nat → Prop) (L : Lay) : A → Value → Prop
  | .undef, _ => True
  | .no, v => v = Go.undef
  | .d x, v => DRel w S x v
  | .tup xs, v => ∃ vs : List Value, v = .tuple vs.toArray ∧ DsRel w S xs vs
  | .ref k off, v => v = .pointer (some ⟨L.b k, off, none⟩)
  | .buf k, v => v = L.v k
  | .row k j sz off, v => ∃ g, vblk (L.v k) = some g ∧ v = .pointer (some ⟨g, j * sz + off, none⟩)
def retA : List D → A
  | [x] => .d x
  | xs => .tup xs
def okCell : C → Bool
  | .lit v => v.oneCell'
  | .sl _ => true
  | .ptr _ => true
  | .fn _ _ => true
/-- All rows have the length n, and their cells are cells. -/
def rowsLen (n : Nat) (rows : List (List C)) : Prop := ∀ r ∈ rows, r.length = n ∧ r.all okCell = true
/-- A slice of the call's own. -/
def BufRel (w : World) (S : Nat → Prop) (e sz : Nat) (rows : List (List C)) (v : Value) : Prop :=
  0 < sz ∧ rowsLen sz rows ∧ ((rows = [] ∧ ∃ a, v = .slice a 0 0) ∨
    ∃ g cap cur, v = .slice (some ⟨g, 0, none⟩) rows.length cap ∧ 0 < cap ∧ g < w.heap.size ∧ ¬ S g ∧ w.heap[g]? = some (.cells cur e (0, 0)) ∧ rows.length ≤ cap ∧ cap ≤ maxLen ∧ cur.size = cap * sz ∧ RepRows w S g 0 rows)
def hasBody (P : Program) (f : FuncId) : Bool :=
  match P.funcs[f]? with
  | some fn => !(fn.name == "runtime.NumGoroutine") && fn.body.isSome
  | none => false
/-- What a call of a function gives, for data. -/
def Con (e : Env) (f : FuncId) (args r : List D) : Prop := hasBody e.P f = true ∧
  ∀ (w : World) (S : Nat → Prop) (vs : List Value), (∀ b, S b → b < w.heap.size ∧ ¬ e.E b) → (∀ b, e.E b → b < w.heap.size) → e.G w → DsRel w S args vs →
    Calls e.P f vs.toArray w fun en w' => ∃ v, en = .returned v ∧ Kept e.D e.E w.heap.size w w' ∧ e.G w' ∧ ARel w' (fun b => S b ∨ (w.heap.size ≤ b ∧ b < w'.heap.size)) ⟨fun _ => 0, fun _ => Go.undef⟩ (retA r) v
/-- A call that gives one of several data. -/
def ConE (e : Env) (f : FuncId) (args : List D) (R : List D → Prop) : Prop := hasBody e.P f = true ∧
  ∀ (w : World) (S : Nat → Prop) (vs : List Value), (∀ b, S b → b < w.heap.size ∧ ¬ e.E b) → (∀ b, e.E b → b < w.heap.size) → e.G w → DsRel w S args vs →
    Calls e.P f vs.toArray w fun en w' => ∃ v r, en = .returned v ∧ R r ∧ Kept e.D e.E w.heap.size w w' ∧ e.G w' ∧ ARel w' (fun b => S b ∨ (w.heap.size ≤ b ∧ b < w'.heap.size)) ⟨fun _ => 0, fun _ => Go.undef⟩ (retA r) v
/-- The blocks of an own thing whose place is known. -/
def pblk : Bk → Nat → Prop
  | .var (some b) _, g => b = g
  | .buf (some (a, cap)) _ _ rows, g => vblk (.slice a rows.length cap) = some g
  | .set E _, g => E g
  | _, _ => False
/-- An own thing whose place is known. -/
def PinRel (w : World) (S : Nat → Prop) : Bk → Prop
  | .var (some b) cs => b < w.heap.size ∧ ¬ S b ∧ (∃ arr ty, w.heap[b]? = some (.cells arr ty (0, 0)) ∧ arr.size = cs.length) ∧ RepRow w S b 0 cs
  | .buf (some (a, cap)) e sz rows => BufRel w S e sz rows (.slice a rows.length cap)
  | .set E G => (∀ b, E b → b < w.heap.size ∧ ¬ S b) ∧ G w ∧ StableOn E G
  | _ => False
def Apart : List Bk → Prop
  | [] => True
  | x :: r => (∀ y ∈ r, ∀ g, pblk x g → ¬ pblk y g) ∧ Apart r
def pblks (pm : List Bk) (g : Nat) : Prop := ∃ x ∈ pm, pblk x g
/-- A call to which own things whose places are known are lent: it gives one of several data, and own things. -/
def ConP (e : Env) (f : FuncId) (args : List D) (pm : List Bk) (R : List D → List Bk → Prop) : Prop := hasBody e.P f = true ∧
  ∀ (w : World) (S : Nat → Prop) (vs : List Value), (∀ b, S b → b < w.heap.size ∧ ¬ e.E b) → (∀ b, e.E b → b < w.heap.size) → e.G w → (∀ x ∈ pm, PinRel w S x ∧ ∀ g, pblk x g → ¬ e.E g) → Apart pm → DsRel w S args vs →
    Calls e.P f vs.toArray w fun en w' => ∃ v r pm', en = .returned v ∧ R r pm' ∧ Kept e.D (fun b => e.E b ∨ pblks pm b) w.heap.size w w' ∧ e.G w' ∧
      (∀ x ∈ pm', PinRel w' (fun b => (S b ∨ pblks pm b ∨ (w.heap.size ≤ b ∧ b < w'.heap.size)) ∧ ¬ pblks pm' b) x ∧ ∀ g, pblk x g → pblks pm g ∨ w.heap.size ≤ g) ∧ Apart pm' ∧
      ARel w' (fun b => (S b ∨ pblks pm b ∨ (w.heap.size ≤ b ∧ b < w'.heap.size)) ∧ ¬ pblks pm' b) ⟨fun _ => 0, fun _ => Go.undef⟩ (retA r) v
/-- A call that gives a new slice which nothing else refers to. -/
def ConR (e : Env) (f : FuncId) (args : List D) (ty sz : Nat) (rows : List (List C)) : Prop := hasBody e.P f = true ∧
  ∀ (w : World) (S : Nat → Prop) (vs : List Value), (∀ b, S b → b < w.heap.size ∧ ¬ e.E b) → (∀ b, e.E b → b < w.heap.size) → e.G w → DsRel w S args vs →
    Calls e.P f vs.toArray w fun en w' => ∃ v, en = .returned v ∧ Kept e.D e.E w.heap.size w w' ∧ e.G w' ∧ (∀ g, vblk v = some g → w.heap.size ≤ g) ∧ BufRel w' (fun b => (S b ∨ (w.heap.size ≤ b ∧ b < w'.heap.size)) ∧ vblk v ≠ some b) ty sz rows v
/-- A call that turns the rows of a slice which the caller lends, in place. -/
def ConI (e : Env) (f : FuncId) (ty sz : Nat) (rows : List (List C)) (args : List D) (rows' : List (List C)) (r : List D) : Prop := hasBody e.P f = true ∧
  ∀ (w : World) (S : Nat → Prop) (v0 : Value) (vs : List Value), (∀ b, S b → b < w.heap.size ∧ ¬ e.E b) → (∀ b, e.E b → b < w.heap.size) → (∀ g, vblk v0 = some g → ¬ e.E g) → e.G w → BufRel w S ty sz rows v0 → DsRel w S args vs →
    Calls e.P f (v0 :: vs).toArray w fun en w' => ∃ v, en = .returned v ∧ Kept e.D (fun b => e.E b ∨ vblk v0 = some b) w.heap.size w w' ∧ e.G w' ∧ BufRel w' (fun b => S b ∨ (w.heap.size ≤ b ∧ b < w'.heap.size)) ty sz rows' v0 ∧ ARel w' (fun b => S b ∨ (w.heap.size ≤ b ∧ b < w'.heap.size)) ⟨fun _ => 0, fun _ => Go.undef⟩ (retA r) v
def toC : Value → C
  | .slice none 0 0 => .sl []
  | v => .lit v
inductive TK where
  | one
  | agg (n : Nat)
def isAggD : TypeDesc → Bool
  | .struct _ => true
  | .array _ _ => true
  | _ => false
def kindT (P : Program) (t : TypeId) : Option TK :=
  match P.underlying t, P.info? t with
  | some d, some i => if isAggD d then some (.agg i.size) else if i.size = 1 then some .one else none
  | _, _ => none
def offT (P : Program) (t : TypeId) (f : Nat) : Option (Nat × TypeId) :=
  match P.underlying t with
  | some (.struct fs) => match fs[f]? with
    | some g => match P.info? g.type with
      | some i => if i.size = 0 then none else some (g.offset, g.type)
      | none => none
    | none => none
  | _ => none
def elemT (P : Program) (t : TypeId) : Option Nat :=
  match P.underlying t with
  | some (.slice e) => (P.info? e).map (·.size)
  | _ => none
def lenT (P : Program) (ts : Array TypeId) : Option Bool :=
  match ts[0]? with
  | some t => match P.underlying t with
    | some (.slice _) => some true
    | some .string => some false
    | _ => none
  | none => none
def bytesT (P : Program) (t : TypeId) : Option (TypeId × Nat × Nat) :=
  match P.underlying t with
  | some (.slice e) => match P.info? e with
    | some i => match i.zero with
      | some z => if z.cells.size = i.size ∧ 0 < i.size ∧ i.bytes ≤ 4096 then some (e, i.size, i.bytes) else none
      | none => none
    | none => none
  | _ => none
def sizeT (P : Program) (t : TypeId) : Option Nat := (P.info? t).map (·.size)
def zeroT (P : Program) (t : TypeId) : Option (List C) := ((P.info? t).bind (·.zero)).map fun v => v.cells.toList.map toC
def valT : TK → List C → Option A
  | .one, c :: _ => some (.d (.one c))
  | .agg n, cs => if n ≤ cs.length then some (.d (.agg (cs.take n))) else none
  | _, _ => none
def gs : List (Nat × A) → Nat → A
  | [], _ => .undef
  | (k, a) :: r, t => if t = k then a else gs r t
def gm : List (Nat × Bk) → Nat → Option Bk
  | [], _ => none
  | (k, a) :: r, t => if t = k then some a else gm r t
def remM (k : Nat) : List (Nat × Bk) → List (Nat × Bk)
  | [] => []
  | (t, a) :: r => if t = k then remM k r else (t, a) :: remM k r
structure St where
  s : List (Nat × A)
  m : List (Nat × Bk)
def constA : Value → A
  | .slice none 0 0 => .d (.clip [])
  | .agg vs => .d (.agg (vs.toList.map toC))
  | v => .d (.one (.lit v))
def evA (s : List (Nat × A)) : Operand → A
  | .tmp t => gs s t
  | .const v => constA v
  | .func f => .d (.one (.fn f []))
  | .global _ => .undef
def varA : Option Bk → Option (List C)
  | some (.var _ cs) => some cs
  | _ => none
def rowA (j sz : Nat) : Option Bk → Option (List C)
  | some (.buf _ _ sz' rows) => if sz' = sz then rows[j]? else none
  | _ => none
def ptrA (m : List (Nat × Bk)) : A → Option (List C)
  | .d (.one (.ptr cs)) => some cs
  | .ref k off => (varA (gm m k)).map (·.drop off)
  | .row k j sz off => (rowA j sz (gm m k)).map (·.drop off)
  | _ => none
/-- The rows that a slice in a slot has. -/
def bufA : Option Bk → Option (List (List C))
  | some (.buf _ _ _ rows) => some rows
  | _ => none
def slA (m : List (Nat × Bk)) : A → Option (List (List C))
  | .d (.one (.sl rows)) => some rows
  | .d (.clip rows) => some rows
  | .buf k => bufA (gm m k)
  | _ => none
def dsA : List A → Option (List D)
  | [] => some []
  | .d x :: r => (dsA r).map (x :: ·)
  | _ :: _ => none
def csA : List A → Option (List C)
  | [] => some []
  | .d (.one c) :: r => (csA r).map (c :: ·)
  | _ :: _ => none
def cellsA : A → Option (List C)
  | .d (.one c) => if okCell c then some [c] else none
  | .d (.agg cs) => if cs.all okCell then some cs else none
  | .d (.clip rows) => some [.sl rows]
  | _ => none
def binV : BinOp → Value → Value → Option Value
  | .add, .int .i64 a, .int .i64 b => some (.int .i64 (IntKind.i64.wrap (a + b)))
  | .sub, .int .i64 a, .int .i64 b => some (.int .i64 (IntKind.i64.wrap (a - b)))
  | .mul, .int .i64 a, .int .i64 b => some (.int .i64 (IntKind.i64.wrap (a * b)))
  | .lss, .int .i64 a, .int .i64 b => some (.bool (decide (a < b)))
  | .leq, .int .i64 a, .int .i64 b => some (.bool (decide (a ≤ b)))
  | .gtr, .int .i64 a, .int .i64 b => some (.bool (decide (b < a)))
  | .geq, .int .i64 a, .int .i64 b => some (.bool (decide (b ≤ a)))
  | .eql, .int .i64 a, .int .i64 b => some (.bool (decide (a = b)))
  | .neq, .int .i64 a, .int .i64 b => some (.bool (!decide (a = b)))
  | .lss, .int .u8 a, .int .u8 b => some (.bool (decide (a < b)))
  | .leq, .int .u8 a, .int .u8 b => some (.bool (decide (a ≤ b)))
  | .gtr, .int .u8 a, .int .u8 b => some (.bool (decide (b < a)))
  | .geq, .int .u8 a, .int .u8 b => some (.bool (decide (b ≤ a)))
  | .eql, .int .u8 a, .int .u8 b => some (.bool (decide (a = b)))
  | .neq, .int .u8 a, .int .u8 b => some (.bool (!decide (a = b)))
  | .and, .int .i64 a, .int .i64 b => some (.int .i64 (bits .and .i64 a b))
  | .or, .int .i64 a, .int .i64 b => some (.int .i64 (bits .or .i64 a b))
  | .xor, .int .i64 a, .int .i64 b => some (.int .i64 (bits .xor .i64 a b))
  | .andNot, .int .i64 a, .int .i64 b => some (.int .i64 (bits .andNot .i64 a b))
  | .shl, .int .i64 a, .int _ b => if 0 ≤ b then some (.int .i64 (IntKind.i64.wrap (a * 2 ^ (min b.toNat 64)))) else none
  | .shr, .int .i64 a, .int _ b => if 0 ≤ b then some (.int .i64 (a.fdiv (2 ^ (min b.toNat 64)))) else none
  | .quo, .int .i64 a, .int .i64 b => if b = 0 then none else some (.int .i64 (IntKind.i64.wrap (a.tdiv b)))
  | .rem, .int .i64 a, .int .i64 b => if b = 0 then none else some (.int .i64 (a.tmod b))
  | .add, .string a, .string b => if a.size + b.size ≤ 9223372036854775807 then some (.string (a ++ b)) else none
  | .eql, .string a, .string b => some (.bool (a.toList == b.toList))
  | .neq, .string a, .string b => some (.bool (!(a.toList == b.toList)))
  | .lss, .string a, .string b => some (.bool (Go.Op.bytesLess a.toList b.toList))
  | _, _, _ => none
def boolT (t : Option TypeDesc) (v : Bool) : Option Value :=
  match t with
  | some .bool => some (.bool v)
  | _ => none
def binT (P : Program) (op : BinOp) (t : TypeId) (a b : Value) : Option Value :=
  match op, a, b with
  | .eql, .bool a, .bool b => boolT (P.underlying t) (a == b)
  | .neq, .bool a, .bool b => boolT (P.underlying t) (!(a == b))
  | op, a, b => binV op a b
def unV : UnOp → Value → Option Value
  | .not, .bool b => some (.bool (!b))
  | .neg, .int .i64 a => some (.int .i64 (IntKind.i64.wrap (0 - a)))
  | _, _ => none
/-- The rows of a slice literal. -/
def partsA (sz : Nat) : Nat → List (Nat × A) → Option (List (List C))
  | _, [] => some []
  | i, (j, x) :: r => if i = j then match cellsA x with
      | some cs => if cs.length = sz then (partsA sz (i + 1) r).map (cs :: ·) else none
      | none => none
    else none
/-- The cells of a struct literal. -/
def fillA (P : Program) (t : TypeId) : List C → List (Nat × A) → Option (List C)
  | cs, [] => some cs
  | cs, (f, x) :: r => match offT P t f, cellsA x with
    | some (off, ft), some us => if sizeT P ft = some us.length ∧ off + us.length ≤ cs.length then fillA P t (cs.take off ++ us ++ cs.drop (off + us.length)) r else none
    | _, _ => none
def intA : A → Option Int
  | .d (.one (.lit (.int .i64 j))) => some j
  | _ => none
def loA : Option A → Option Int
  | none => some 0
  | some x => intA x
def hiA (n : Nat) : Option A → Option Int
  | none => some n
  | some x => intA x
/-- A part of a slice; with a third bound that is the second one it has no room. -/
def sliceA (rows : List (List C)) (lo hi : Option Int) (mx : Option (Option Int)) : Option D :=
  match lo, hi, mx with
  | some l, some h, none => if 0 ≤ l ∧ l ≤ h ∧ h ≤ rows.length then some (.one (.sl ((rows.take h.toNat).drop l.toNat))) else none
  | some l, some h, some (some m) => if 0 ≤ l ∧ l ≤ h ∧ h ≤ rows.length ∧ m = h then some (.clip ((rows.take h.toNat).drop l.toNat)) else none
  | _, _, _ => none
def dataSl : A → Option (List (List C))
  | .d (.one (.sl rows)) => some rows
  | .d (.clip rows) => some rows
  | _ => none
def isStrD : Option TypeDesc → Bool
  | some .string => true
  | _ => false
def strA : A → Option ByteArray
  | .d (.one (.lit (.string s))) => some s
  | _ => none
def substrA (s : ByteArray) (lo hi : Option Int) : Option D :=
  match lo, hi with
  | some l, some h => if 0 ≤ l ∧ l ≤ h ∧ h ≤ s.size then some (.one (.lit (.string (s.extract l.toNat h.toNat)))) else none
  | _, _ => none
/-- Which function a call enters, and what is captured. -/
def calleeA : A → Option (FuncId × List C)
  | .d (.one (.fn f caps)) => some (f, caps)
  | _ => none
def intKindT (t : Option TypeDesc) : Option IntKind :=
  match t with
  | some (.int k) => some k
  | _ => none
def convA (P : Program) (src dst : TypeId) : A → Option A
  | .d (.one (.lit (.int _ n))) => match P.underlying src, intKindT (P.underlying dst) with
    | some _, some k => some (.d (.one (.lit (.int k (k.wrap n)))))
    | _, _ => none
  | _ => none
def maxA : List A → Option A
  | [.d (.one (.lit (.int .i64 x))), .d (.one (.lit (.int .i64 y)))] => some (.d (.one (.lit (.int .i64 (if y > x then y else x)))))
  | _ => none
def minA : List A → Option A
  | [.d (.one (.lit (.int .i64 x))), .d (.one (.lit (.int .i64 y)))] => some (.d (.one (.lit (.int .i64 (if y < x then y else x)))))
  | _ => none
def killK (k : Nat) : List (Nat × A) → List (Nat × A)
  | [] => []
  | (t, .ref k' off) :: r => (t, if k' = k then .undef else .ref k' off) :: killK k r
  | (t, .buf k') :: r => (t, if k' = k then .undef else .buf k') :: killK k r
  | (t, .row k' j sz off) :: r => (t, if k' = k then .undef else .row k' j sz off) :: killK k r
  | (t, a) :: r => (t, a) :: killK k r
def setA (s : List (Nat × A)) : Option Nat → A → List (Nat × A)
  | some d, a => (d, a) :: s
  | none, _ => s
/-- What the call owned and now is left to all: it stays as it is from here on. -/
def frzA (k : Nat) (bk : Bk) : A → A
  | .ref k' off => if k' = k then match bk with
      | .var _ cs => .d (.one (.ptr (cs.drop off)))
      | _ => .undef
    else .ref k' off
  | .buf k' => if k' = k then match bk with
      | .buf _ _ _ rows => .d (.one (.sl rows))
      | _ => .undef
    else .buf k'
  | .row k' j sz off => if k' = k then .undef else .row k' j sz off
  | a => a
def frzS (k : Nat) (bk : Bk) : List (Nat × A) → List (Nat × A)
  | [] => []
  | (t, a) :: r => (t, frzA k bk a) :: frzS k bk r
def frzB (k : Nat) (σ : St) : Option Bk → St
  | some bk => ⟨frzS k bk σ.s, remM k σ.m⟩
  | none => σ
def frz (k : Nat) (σ : St) : St := frzB k σ (gm σ.m k)
def frzs : List Nat → St → St
  | [], σ => σ
  | k :: ks, σ => frzs ks (frz k σ)
def keyA : A → List Nat
  | .ref k _ => [k]
  | .buf k => [k]
  | _ => []
def keysA : List A → List Nat
  | [] => []
  | a :: r => keyA a ++ keysA r
def pickA (a b : A) : A → Option A
  | .d (.one (.lit (.bool t))) => some (if t then a else b)
  | _ => none
def loadA (k : Option TK) (p : Option (List C)) : Option A :=
  match k, p with
  | some k, some cs => valT k cs
  | _, _ => none
def fieldAddrA (x : A) : Option (Nat × TypeId) → Option A
  | some (n, _) => match x with
    | .d (.one (.ptr cs)) => some (.d (.one (.ptr (cs.drop n))))
    | .ref k off => some (.ref k (off + n))
    | .row k j sz off => some (.row k j sz (off + n))
    | .d (.one (.lit (.pointer (some ⟨b, off, none⟩)))) => some (.d (.one (.lit (.pointer (some ⟨b, off + n, none⟩)))))
    | _ => none
  | none => none
def fieldA (P : Program) (x : A) : Option (Nat × TypeId) → Option A
  | some (n, ft) => match x with
    | .d (.agg cs) => loadA (kindT P ft) (some (cs.drop n))
    | _ => none
  | none => none
def rowsB (n : Nat) (rows : List (List C)) : Bool := rows.all (fun r => r.length == n && r.all okCell)
def eltA : Option (List C) → Option A
  | some r => some (.d (.one (.ptr r)))
  | none => none
def rowOfA (k n : Nat) (j : Int) : Option Bk → Option A
  | some (.buf _ _ sz rows) => if sz = n then if 0 ≤ j then if j.toNat < rows.length then some (.row k j.toNat sz 0) else none else none else none
  | _ => none
def indexAddrA (m : List (Nat × Bk)) (n : Option Nat) (x i : A) : Option A :=
  match n, x, i with
  | some n, .buf k, .d (.one (.lit (.int _ j))) => rowOfA k n j (gm m k)
  | some n, .d (.one (.sl rows)), .d (.one (.lit (.int _ j))) => if 0 ≤ j then if rowsB n rows = true then eltA rows[j.toNat]? else none else none
  | some n, .d (.clip rows), .d (.one (.lit (.int _ j))) => if 0 ≤ j then if rowsB n rows = true then eltA rows[j.toNat]? else none else none
  | _, _, _ => none
def byteA : Option UInt8 → Option A
  | some b => some (.d (.one (.lit (.int .u8 b.toNat))))
  | none => none
def indexA (t : Option TypeDesc) (x i : A) : Option A :=
  match t, x, i with
  | some .string, .d (.one (.lit (.string s))), .d (.one (.lit (.int _ j))) => if 0 ≤ j then byteA s[j.toNat]? else none
  | _, _, _ => none
def litA : Option Value → Option A
  | some v => some (.d (.one (.lit v)))
  | none => none
def binA (P : Program) (t : TypeId) (op : BinOp) (x y : A) : Option A :=
  match x, y with
  | .d (.one (.lit a)), .d (.one (.lit b)) => litA (binT P op t a b)
  | _, _ => none
def unA (op : UnOp) (x : A) : Option A :=
  match x with
  | .d (.one (.lit a)) => litA (unV op a)
  | _ => none
def dA : Option D → Option A
  | some x => some (.d x)
  | none => none
def extractA (i : Nat) : A → Option A
  | .tup xs => dA xs[i]?
  | _ => none
def nilA : A → Option A
  | .d (.one (.ptr cs)) => some (.d (.one (.ptr cs)))
  | .d (.one (.fn f cs)) => some (.d (.one (.fn f cs)))
  | .ref k off => some (.ref k off)
  | .d (.one (.lit (.pointer (some p)))) => some (.d (.one (.lit (.pointer (some p)))))
  | _ => none
def lenS : Option (List (List C)) → Option A
  | some rows => some (.d (.one (.lit (.int .i64 rows.length))))
  | none => none
def lenA (m : List (Nat × Bk)) (t : Option Bool) (xs : List A) : Option A :=
  match t, xs with
  | some true, [.d (.one (.lit (.slice _ n _)))] => some (.d (.one (.lit (.int .i64 n))))
  | some true, [x] => lenS (slA m x)
  | some false, [.d (.one (.lit (.string s)))] => some (.d (.one (.lit (.int .i64 s.size))))
  | _, _ => none
def clipA : Option (List (List C)) → Option A
  | some rows => some (.d (.clip rows))
  | none => none
def buildSliceA (sz : Option (TypeId × Nat × Nat)) (n : Nat) (parts : List (Nat × A)) : Option A :=
  match sz with
  | some (_, s, _) => if parts.length = n ∧ n * s ≤ 16777216 then clipA (partsA s 0 parts) else none
  | none => none
def aggA : Option (List C) → Option A
  | some cs => some (.d (.agg cs))
  | none => none
def isStructT (P : Program) (t : TypeId) : Bool :=
  match P.underlying t with
  | some (.struct fs) => fs.toList.all fun f => (P.info? f.type).isSome
  | _ => false
def buildA (P : Program) (t : TypeId) (parts : List (Nat × A)) : Option A :=
  match isStructT P t, zeroT P t with
  | true, some cs => if cs.all okCell = true then aggA (fillA P t cs parts) else none
  | _, _ => none
def sliceOpA (P : Program) (t : TypeId) (x : A) (lo hi mx : Option A) : Option A :=
  match elemT P t with
  | some n => match dataSl x with
    | some rows => if rowsB n rows = true ∧ (mx.isNone || hi.isSome) = true then dA (sliceA rows (loA lo) (hiA rows.length hi) (mx.map intA)) else none
    | none => none
  | none => if isStrD (P.underlying t) ∧ mx = none then match strA x with
      | some s => dA (substrA s (loA lo) (hiA s.size hi))
      | none => none
    else none
def fnA (f : FuncId) : Option (List C) → Option A
  | some cs => some (.d (.one (.fn f cs)))
  | none => none
/-- Which own thing lies at a known place. -/
def varK (b : Nat) : List (Nat × Bk) → Option Nat
  | [] => none
  | (k, .var (some b') _) :: r => if b = b' then some k else varK b r
  | _ :: r => varK b r
def bufK (a : Option Addr) (n cap : Nat) : List (Nat × Bk) → Option Nat
  | [] => none
  | (k, .buf (some (a', cap')) _ _ rows) :: r => if a = a' ∧ n = rows.length ∧ cap = cap' then some k else bufK a n cap r
  | _ :: r => bufK a n cap r
def nrmV (b off : Nat) (k : Nat) : Option Bk → A
  | some (.var (some b') _) => if b = b' then .ref k off else .d (.one (.lit (.pointer (some ⟨b, off, none⟩))))
  | _ => .d (.one (.lit (.pointer (some ⟨b, off, none⟩))))
def nrmVK (m : List (Nat × Bk)) (b off : Nat) : Option Nat → A
  | some k => nrmV b off k (gm m k)
  | none => .d (.one (.lit (.pointer (some ⟨b, off, none⟩))))
def nrmB (a : Option Addr) (n cap k : Nat) : Option Bk → A
  | some (.buf (some (a', cap')) _ _ rows) => if a = a' ∧ n = rows.length ∧ cap = cap' then .buf k else .d (.one (.lit (.slice a n cap)))
  | _ => .d (.one (.lit (.slice a n cap)))
def nrmBK (m : List (Nat × Bk)) (a : Option Addr) (n cap : Nat) : Option Nat → A
  | some k => nrmB a n cap k (gm m k)
  | none => .d (.one (.lit (.slice a n cap)))
/-- A place in an own thing whose address is known, by that thing's key. -/
def nrm (m : List (Nat × Bk)) : A → A
  | .d (.one (.lit (.pointer (some ⟨b, off, none⟩)))) => nrmVK m b off (varK b m)
  | .d (.one (.lit (.slice a n cap))) => nrmBK m a n cap (bufK a n cap m)
  | x => x
/-- One operation that changes no memory and enters no function. -/
def stepV (P : Program) (m : List (Nat × Bk)) (ρ : Operand → A) : Op → Option A
  | .move x => some (ρ x)
  | .pick c a b => pickA (ρ a) (ρ b) (ρ c)
  | .load t x => loadA (kindT P t) (ptrA m (nrm m (ρ x)))
  | .fieldAddr t x f => fieldAddrA (ρ x) (offT P t f)
  | .field t x f => fieldA P (ρ x) (offT P t f)
  | .indexAddr t x i => indexAddrA m (elemT P t) (nrm m (ρ x)) (ρ i)
  | .index t x i => indexA (P.underlying t) (ρ x) (ρ i)
  | .binOp op t x y _ => binA P t op (ρ x) (ρ y)
  | .unOp op _ x => unA op (ρ x)
  | .extract x i => extractA i (ρ x)
  | .nilCheck x => nilA (ρ x)
  | .convert s d x => convA P s d (ρ x)
  | .slice t x lo hi mx => sliceOpA P t (ρ x) (lo.map ρ) (hi.map ρ) (mx.map ρ)
  | .build t parts => buildA P t (parts.toList.map fun p => (p.1, ρ p.2))
  | .buildSlice t n parts => buildSliceA (bytesT P t) n (parts.toList.map fun p => (p.1, ρ p.2))
  | .makeFunc (.func f) ⟨[]⟩ caps => fnA f (csA (caps.toList.map ρ))
  | .call ⟨.builtin .len, args, ts⟩ => lenA m (lenT P ts) (args.toList.map fun x => nrm m (ρ x))
  | .call ⟨.builtin .max, args, _⟩ => maxA (args.toList.map ρ)
  | .call ⟨.builtin .min, args, _⟩ => minA (args.toList.map ρ)
  | _ => none
def newE (σ : St) (d : Option Nat) (cs : Option (List C)) : Option St :=
  match d, cs with
  | some d, some cs => some ⟨(d, .ref d 0) :: killK d σ.s, (d, .var none cs) :: remM d σ.m⟩
  | _, _ => none
def storeVar (σ : St) (k off n : Nat) (us : List C) : Option Bk → Option St
  | some (.var o cs) => if us.length = n ∧ off + n ≤ cs.length then some ⟨σ.s, (k, .var o (cs.take off ++ us ++ cs.drop (off + n))) :: remM k σ.m⟩ else none
  | _ => none
def storeRow (σ : St) (k j sz off n : Nat) (us : List C) : Option Bk → Option St
  | some (.buf o e sz' rows) => if sz' = sz then match rows[j]? with
      | some r => if us.length = n ∧ off + n ≤ r.length then some ⟨σ.s, (k, .buf o e sz (rows.set j (r.take off ++ us ++ r.drop (off + n)))) :: remM k σ.m⟩ else none
      | none => none
    else none
  | _ => none
def storeE (σ : St) (d : Option Nat) (x : A) (us : Option (List C)) (n : Option Nat) : Option St :=
  match d, x, us, n with
  | none, .ref k off, some us, some n => storeVar σ k off n us (gm σ.m k)
  | none, .row k j sz off, some us, some n => storeRow σ k j sz off n us (gm σ.m k)
  | _, _, _, _ => none
def putE (σ : St) (d : Option Nat) : Option A → Option St
  | some α => some ⟨setA σ.s d α, σ.m⟩
  | none => none
/-- The own thing k is now the one of key d. -/
def ownE (σ : St) (k d : Nat) (bk : Bk) : St := ⟨(d, .buf d) :: killK d (killK k σ.s), (d, bk) :: remM d (remM k σ.m)⟩
def assignB (σ : St) (k d : Nat) : Option Bk → Option St
  | some (.buf o e sz rows) => if k = d then some ⟨(d, .buf d) :: σ.s, σ.m⟩ else some (ownE σ k d (.buf o e sz rows))
  | _ => none
def newB (σ : St) (d : Nat) : Option (TypeId × Nat × Nat) → Option St
  | some (e, sz, _) => some ⟨(d, .buf d) :: killK d σ.s, (d, .buf none e sz []) :: remM d σ.m⟩
  | none => some ⟨(d, .d (.clip [])) :: σ.s, σ.m⟩
def assignE (P : Program) (σ : St) (d : Option Nat) (ty : TypeId) (x : A) : Option St :=
  match d, x with
  | some d, .buf k => assignB σ k d (gm σ.m k)
  | some d, .d (.clip []) => newB σ d (bytesT P ty)
  | d, x => some ⟨setA σ.s d x, σ.m⟩
def isBuf (k : Nat) : A → Bool
  | .buf k' => k' == k
  | _ => false
def maxApp : Nat := 1073741824
def appendB (σ : St) (d k : Nat) (ety sz : Nat) (ys : List (List C)) : Option Bk → Option St
  | some (.buf _ e sz' rows) => if e = ety ∧ sz' = sz ∧ rows.length + ys.length ≤ maxApp then some (ownE σ k d (.buf none e sz (rows ++ ys))) else none
  | _ => none
def appendE (P : Program) (σ : St) (d : Option Nat) (ts : Array TypeId) (args : List A) : Option St :=
  match d, args, ts[0]? with
  | some d, [x, y], some t => if ts[1]? = some t then match bytesT P t, slA σ.m y with
      | some (e, sz, _), some ys => if rowsB sz ys = true then match x with
          | .buf k => if isBuf k y then none else appendB σ d k e sz ys (gm σ.m k)
          | .d (.clip rows) => if rowsB sz rows = true ∧ rows.length + ys.length ≤ maxApp ∧ (rows.isEmpty || !ys.isEmpty) = true then some ⟨(d, .buf d) :: killK d σ.s, (d, .buf none e sz (rows ++ ys)) :: remM d σ.m⟩ else none
          | _ => none
        else none
      | _, _ => none
    else none
  | _, _, _ => none
def makeE (P : Program) (σ : St) (d : Option Nat) (t : TypeId) (l c : A) : Option St :=
  match d, intA l, intA c, bytesT P t with
  | some d, some n, some n', some (e, sz, _) => match zeroT P e with
    | some z => if n = n' ∧ 0 ≤ n ∧ n ≤ maxApp ∧ z.all okCell = true then some ⟨(d, .buf d) :: killK d σ.s, (d, .buf none e sz (List.replicate n.toNat z)) :: remM d σ.m⟩ else none
    | none => none
  | _, _, _, _ => none
def frzQ (q : Bool) (ks : List Nat) (σ : St) : Option St :=
  match ks with
  | [] => some σ
  | _ :: _ => if q then none else some (frzs ks σ)
def thenV (P : Program) (d : Option Nat) (op : Op) : Option St → Option St
  | some σ => putE σ d (stepV P σ.m (evA σ.s) op)
  | none => none
def thenBox (d : Option Nat) (x : Operand) : Option St → Option St
  | some σ => newE σ d (cellsA (evA σ.s x))
  | none => none
def thenStore (P : Program) (d : Option Nat) (t : TypeId) (x y : Operand) : Option St → Option St
  | some σ => storeE σ d (nrm σ.m (evA σ.s x)) (cellsA (evA σ.s y)) (sizeT P t)
  | none => none
/-- One operation that enters no function; q: in a place where the order is not fixed. -/
def stepE (P : Program) (q : Bool) (σ : St) (d : Option Nat) (ty : TypeId) : Op → Option St
  | .alloc t => if q then none else newE σ d (zeroT P t)
  | .box _ x => if q then none else thenBox d x (frzQ q (keyA (evA σ.s x)) σ)
  | .store t x y => if q then none else thenStore P d t x y (frzQ q (keyA (evA σ.s y)) σ)
  | .assign x => if q then none else assignE P σ d ty (evA σ.s x)
  | .makeSlice t l c => if q then none else makeE P σ d t (evA σ.s l) (evA σ.s c)
  | .call ⟨.builtin .append, args, ts⟩ => if q then none else appendE P σ d ts (args.toList.map fun x => nrm σ.m (evA σ.s x))
  | .build t parts => thenV P d (.build t parts) (frzQ q (keysA (parts.toList.map fun p => evA σ.s p.2)) σ)
  | .buildSlice t n parts => thenV P d (.buildSlice t n parts) (frzQ q (keysA (parts.toList.map fun p => evA σ.s p.2)) σ)
  | .makeFunc f fs caps => thenV P d (.makeFunc f fs caps) (frzQ q (keysA (caps.toList.map (evA σ.s))) σ)
  | op => putE σ d (stepV P σ.m (evA σ.s) op)
def trimS (mask : Nat) : List (Nat × A) → List (Nat × A)
  | [] => []
  | (k, a) :: r => if mask.testBit k then (k, a) :: trimS mask r else trimS mask r
def weakS (s : List (Nat × A)) : List (Nat × A) → Prop
  | [] => True
  | (k, a) :: r => gs s k = a ∧ weakS s r
def weakM (m : List (Nat × Bk)) : List (Nat × Bk) → Prop
  | [] => True
  | (k, a) :: r => gm m k = some a ∧ weakM m r
inductive PX where
  | normal
  | exit (id : Nat)
  | ret
/-- The first n operations: each has a place of its own, and looks at no other's place but of one that it waits for. -/
def headB (ops : Array Oper) (n : Nat) : Bool :=
  (List.range n).all fun i => match ops[i]? with
    | none => false
    | some o => o.dst.isSome && o.after.all (fun e => !Region.binds .any e || decide (e.on < i)) &&
      (match o.guard with
       | none => true
       | some (j, _) => decide (j < n) && Region.waitsFor .any ops i j) &&
      (List.range n).all fun j => match ops[j]? with
        | none => false
        | some p => (j == i || p.dst != o.dst) && (!(slotsOf o).any (fun t => p.dst == some t) || Region.waitsFor .any ops i j)
def regB (ops : Array Oper) (n : Nat) : Bool :=
  headB ops n && decide (n ≤ ops.size) && (decide (n = ops.size) || (Region.sinkB .any ops n && Region.chainB .any ops n)) && Region.seqB .any ops (ops.size - n) n (headArr ops.size n)
/-- An operation that makes a variable, in any case. -/
def isAl : Oper → Bool
  | ⟨some _, .alloc _, _, _, _, none⟩ => true
  | _ => false
def isAllocB (ops : Array Oper) (n : Nat) : Bool :=
  match ops[n]? with
  | some o => isAl o
  | none => false
/-- (The last of the first n operations may make a variable.) -/
def regX (ops : Array Oper) (n : Nat) : Bool := regB ops n
/-- The second state tells less. -/
def Wk (σ σ1 : St) : Prop := (∀ t, gs σ1.s t = gs σ.s t ∨ gs σ1.s t = .undef) ∧ ∀ t x, gm σ1.m t = some x → gm σ.m t = some x
end Go.Proofs.YtpbikjkjfojjiaaGreat
namespace Go.Proofs.YtpbikjkjfojjiaaGreat
open Go.RowKit
section
variable {w w' : World} {S S' : Nat → Prop}
/-- A row in a block whose cells are as they were; what lies deeper by S. -/
theorem RepRow.keep2 (hz : w.heap.size ≤ w'.heap.size) (hk : ∀ b o, S b → w'.cell? ⟨b, o, none⟩ = w.cell? ⟨b, o, none⟩) (hS : ∀ b, S b → S' b) (b : Nat) (hb : ∀ o, w'.cell? ⟨b, o, none⟩ = w.cell? ⟨b, o, none⟩) :
    ∀ (off : Nat) (cs : List C), RepRow w S b off cs → RepRow w' S' b off cs
  | _, [], _ => by simp [RepRow]
  | off, c :: cs, h => by
    simp only [RepRow] at h ⊢
    obtain ⟨⟨u, hu, hr⟩, h2⟩ := h
    exact ⟨⟨u, by rw [hb off]; exact hu, Rep.keep hz hk hS c u hr⟩, RepRow.keep2 hz hk hS b hb _ cs h2⟩
theorem RepVals.keep2 (hz : w.heap.size ≤ w'.heap.size) (hk : ∀ b o, S b → w'.cell? ⟨b, o, none⟩ = w.cell? ⟨b, o, none⟩) (hS : ∀ b, S b → S' b) :
    ∀ {cs : List C} {us : List Value}, RepVals w S cs us → RepVals w' S' cs us
  | [], [], _ => by simp [RepVals]
  | c :: cs, u :: us, h => by
    simp only [RepVals] at h ⊢
    exact ⟨Rep.keep hz hk hS c u h.1, RepVals.keep2 hz hk hS h.2⟩
  | [], _ :: _, h => by simp [RepVals] at h
  | _ :: _, [], h => by simp [RepVals] at h
theorem RepRow.keepAt (hz : w.heap.size ≤ w'.heap.size) (hk : ∀ b o, S b → w'.cell? ⟨b, o, none⟩ = w.cell? ⟨b, o, none⟩) (hS : ∀ b, S b → S' b) (b : Nat) :
    ∀ (off : Nat) (cs : List C), (∀ j, j < cs.length → w'.cell? ⟨b, off + j, none⟩ = w.cell? ⟨b, off + j, none⟩) → RepRow w S b off cs → RepRow w' S' b off cs
  | _, [], _, _ => by simp [RepRow]
  | off, c :: cs, hb, h => by
    simp only [RepRow] at h ⊢
    obtain ⟨⟨u, hu, hr⟩, h2⟩ := h
    exact ⟨⟨u, by have := hb 0 (by simp); rw [Nat.add_zero] at this; rw [this]; exact hu, Rep.keep hz hk hS c u hr⟩,
      RepRow.keepAt hz hk hS b _ cs (fun j hj => by have := hb (j + 1) (by simp; omega); rw [show off + 1 + j = off + (j + 1) by omega]; exact this) h2⟩
theorem RepRow.of_vals {b : Nat} : ∀ (cs : List C) (vs : List Value) (off : Nat), RepVals w S cs vs → (∀ j u, vs[j]? = some u → w.cell? ⟨b, off + j, none⟩ = some u) → RepRow w S b off cs
  | [], _, _, _, _ => by simp [RepRow]
  | c :: cs, [], _, h, _ => by simp [RepVals] at h
  | c :: cs, v :: vs, off, h1, h2 => by
    simp only [RepVals, RepRow] at h1 ⊢
    exact ⟨⟨v, by simpa using h2 0 v (by simp), h1.1⟩, RepRow.of_vals cs vs (off + 1) h1.2 (fun j u hj => by have := h2 (j + 1) u (by simpa using hj); rw [show off + 1 + j = off + (j + 1) by omega]; exact this)⟩
theorem RepRow.append {b : Nat} : ∀ (xs ys : List C) (off : Nat), RepRow w S b off xs → RepRow w S b (off + xs.length) ys → RepRow w S b off (xs ++ ys)
  | [], ys, off, _, h2 => by simpa using h2
  | x :: xs, ys, off, h1, h2 => by
    simp only [RepRow, List.cons_append] at h1 ⊢
    refine ⟨h1.1, RepRow.append xs ys (off + 1) h1.2 ?_⟩
    rw [show off + 1 + xs.length = off + (x :: xs).length by simp; omega]
    exact h2
theorem DRel.keep (hz : w.heap.size ≤ w'.heap.size) (hk : ∀ b o, S b → w'.cell? ⟨b, o, none⟩ = w.cell? ⟨b, o, none⟩) (hS : ∀ b, S b → S' b) {x : D} {v : Value} (h : DRel w S x v) : DRel w' S' x v := by
  cases x with
  | one c => exact Rep.keep hz hk hS c v h
  | agg cs => obtain ⟨vs, hv, hr⟩ := h; exact ⟨vs, hv, RepVals.keep2 hz hk hS hr⟩
  | clip rows => exact ⟨Rep.keep hz hk hS _ v h.1, h.2⟩
theorem DsRel.keep (hz : w.heap.size ≤ w'.heap.size) (hk : ∀ b o, S b → w'.cell? ⟨b, o, none⟩ = w.cell? ⟨b, o, none⟩) (hS : ∀ b, S b → S' b) : ∀ {xs : List D} {vs : List Value}, DsRel w S xs vs → DsRel w' S' xs vs
  | [], [], _ => by simp [DsRel]
  | x :: xs, v :: vs, h => by
    simp only [DsRel] at h ⊢
    exact ⟨DRel.keep hz hk hS h.1, DsRel.keep hz hk hS h.2⟩
  | [], _ :: _, h => by simp [DsRel] at h
  | _ :: _, [], h => by simp [DsRel] at h
theorem ARel.keep {L : Lay} (hz : w.heap.size ≤ w'.heap.size) (hk : ∀ b o, S b → w'.cell? ⟨b, o, none⟩ = w.cell? ⟨b, o, none⟩) (hS : ∀ b, S b → S' b) {x : A} {v : Value} (h : ARel w S L x v) : ARel w' S' L x v := by
  cases x with
  | undef => trivial
  | no => exact h
  | d x => exact DRel.keep hz hk hS h
  | tup xs => obtain ⟨vs, hv, hr⟩ := h; exact ⟨vs, hv, DsRel.keep hz hk hS hr⟩
  | ref m off => exact h
  | buf k => exact h
  | row k j sz off => exact h
theorem DsRel.append : ∀ {xs ys : List D} {vs us : List Value}, DsRel w S xs vs → DsRel w S ys us → DsRel w S (xs ++ ys) (vs ++ us)
  | [], ys, [], us, _, h2 => by simpa using h2
  | x :: xs, ys, v :: vs, us, h1, h2 => by
    simp only [DsRel, List.cons_append] at h1 ⊢
    exact ⟨h1.1, DsRel.append h1.2 h2⟩
  | [], _, _ :: _, _, h, _ => by simp [DsRel] at h
  | _ :: _, _, [], _, h, _ => by simp [DsRel] at h
theorem DsRel.caps : ∀ {cs : List C} {us : List Value}, RepVals w S cs us → DsRel w S (cs.map .one) us
  | [], [], _ => by simp [DsRel]
  | c :: cs, u :: us, h => by
    simp only [RepVals, List.map_cons, DsRel] at h ⊢
    exact ⟨h.1, DsRel.caps h.2⟩
  | [], _ :: _, h => by simp [RepVals] at h
  | _ :: _, [], h => by simp [RepVals] at h
theorem DsRel.len : ∀ {xs : List D} {vs : List Value}, DsRel w S xs vs → vs.length = xs.length
  | [], [], _ => rfl
  | x :: xs, v :: vs, h => by simp only [DsRel] at h; simp [DsRel.len h.2]
  | [], _ :: _, h => by simp [DsRel] at h
  | _ :: _, [], h => by simp [DsRel] at h
theorem DsRel.get : ∀ {xs : List D} {vs : List Value} {i : Nat} {x : D}, DsRel w S xs vs → xs[i]? = some x → ∃ v, vs[i]? = some v ∧ DRel w S x v
  | [], _, _, _, _, hi => by simp at hi
  | x :: xs, v :: vs, 0, y, h, hi => by simp only [DsRel] at h; simp at hi; subst hi; exact ⟨v, by simp, h.1⟩
  | x :: xs, v :: vs, i + 1, y, h, hi => by simp only [DsRel] at h; have := DsRel.get h.2 (by simpa using hi); simpa using this
  | _ :: _, [], _, _, h, _ => by simp [DsRel] at h
end
section
variable {w w' : World} {S S' : Nat → Prop}
theorem RepRow.drop {w : World} {S : Nat → Prop} {b : Nat} : ∀ {cs : List C} {off : Nat} (n : Nat), RepRow w S b off cs → RepRow w S b (off + n) (cs.drop n)
  | cs, off, 0, h => by simpa using h
  | [], off, n + 1, h => by simp [RepRow]
  | c :: cs, off, n + 1, h => by
    simp only [RepRow] at h
    have := RepRow.drop (cs := cs) (off := off + 1) n h.2
    rw [show off + (n + 1) = off + 1 + n by omega]
    simpa using this
theorem RepRow.vals {w : World} {S : Nat → Prop} {b : Nat} : ∀ {cs : List C} {off : Nat}, RepRow w S b off cs → ∃ vs : List Value, RepVals w S cs vs ∧ ∀ j u, vs[j]? = some u → w.cell? ⟨b, off + j, none⟩ = some u
  | [], off, _ => ⟨[], by simp [RepVals], by simp⟩
  | c :: cs, off, h => by
    simp only [RepRow] at h
    obtain ⟨⟨u, hu, hr⟩, h2⟩ := h
    obtain ⟨vs, h3, h4⟩ := RepRow.vals h2
    refine ⟨u :: vs, by simp only [RepVals]; exact ⟨hr, h3⟩, fun j v hj => ?_⟩
    cases j with
    | zero => simp at hj; subst hj; simpa using hu
    | succ j => have := h4 j v (by simpa using hj); rw [show off + (j + 1) = off + 1 + j by omega]; exact this
theorem RepRow.take {w : World} {S : Nat → Prop} {b : Nat} : ∀ {cs : List C} {off : Nat} (n : Nat), RepRow w S b off cs → RepRow w S b off (cs.take n)
  | cs, off, 0, h => by simp [RepRow]
  | [], off, n + 1, h => by simp [RepRow]
  | c :: cs, off, n + 1, h => by
    simp only [RepRow, List.take_succ_cons] at h ⊢
    exact ⟨h.1, RepRow.take n h.2⟩
theorem RepVals.drop {w : World} {S : Nat → Prop} : ∀ {cs : List C} {vs : List Value} (n : Nat), RepVals w S cs vs → RepVals w S (cs.drop n) (vs.drop n)
  | cs, vs, 0, h => by simpa using h
  | [], [], n + 1, h => by simp [RepVals]
  | c :: cs, v :: vs, n + 1, h => by
    simp only [RepVals] at h
    simpa using RepVals.drop n h.2
  | [], _ :: _, _ + 1, h => by simp [RepVals] at h
  | _ :: _, [], _ + 1, h => by simp [RepVals] at h
theorem RepVals.take {w : World} {S : Nat → Prop} : ∀ {cs : List C} {vs : List Value} (n : Nat), RepVals w S cs vs → RepVals w S (cs.take n) (vs.take n)
  | cs, vs, 0, h => by simp [RepVals]
  | [], [], n + 1, h => by simp [RepVals]
  | c :: cs, v :: vs, n + 1, h => by
    simp only [RepVals, List.take_succ_cons] at h ⊢
    exact ⟨h.1, RepVals.take n h.2⟩
  | [], _ :: _, _ + 1, h => by simp [RepVals] at h
  | _ :: _, [], _ + 1, h => by simp [RepVals] at h
theorem Addr.add_at (b off n : Nat) : (⟨b, off, none⟩ : Addr).add n = ⟨b, off + n, none⟩ := by unfold Addr.add; split <;> simp_all
theorem cell_of_heap {w w' : World} {b : Nat} (h : w'.heap[b]? = w.heap[b]?) (o : Nat) : w'.cell? ⟨b, o, none⟩ = w.cell? ⟨b, o, none⟩ := World.cell?_of_block h
theorem RepVals.app : ∀ {cs ds : List C} {us vs : List Value}, RepVals w S cs us → RepVals w S ds vs → RepVals w S (cs ++ ds) (us ++ vs)
  | [], _, [], _, _, h2 => by simpa using h2
  | c :: cs, ds, u :: us, vs, h1, h2 => by
    simp only [RepVals, List.cons_append] at h1 ⊢
    exact ⟨h1.1, RepVals.app h1.2 h2⟩
  | [], _, _ :: _, _, h, _ => by simp [RepVals] at h
  | _ :: _, _, [], _, h, _ => by simp [RepVals] at h
theorem okCell_one {c : C} {v : Value} (h : okCell c = true) (hr : Rep w S c v) : v.oneCell' = true := by
  cases c with
  | lit x => simp only [Rep] at hr; subst hr; exact h
  | sl rows => simp only [Rep] at hr; obtain ⟨A, n, cap, rfl, _⟩ := hr; rfl
  | ptr cs => simp only [Rep] at hr; obtain ⟨b, off, rfl, _⟩ := hr; rfl
  | fn f caps => simp only [Rep] at hr; obtain ⟨us, rfl, _⟩ := hr; rfl
theorem okCell_all : ∀ {cs : List C} {vs : List Value}, cs.all okCell = true → RepVals w S cs vs → ∀ v ∈ vs, v.oneCell' = true
  | [], [], _, _ => by simp
  | c :: cs, v :: vs, h, hr => by
    simp only [List.all_cons, Bool.and_eq_true, RepVals] at h hr
    intro u hu
    rcases List.mem_cons.1 hu with rfl | hu
    · exact okCell_one h.1 hr.1
    · exact okCell_all h.2 hr.2 u hu
  | [], _ :: _, _, h => by simp [RepVals] at h
  | _ :: _, [], _, h => by simp [RepVals] at h
/-- Rows are one long row. -/
theorem RepRows.flat {b : Nat} : ∀ {rows : List (List C)} {off : Nat}, RepRows w S b off rows → RepRow w S b off rows.flatten
  | [], _, _ => by simp [RepRow]
  | r :: rs, off, h => by
    simp only [RepRows, List.flatten_cons] at h ⊢
    exact RepRow.append _ _ _ h.1 (RepRows.flat h.2)
theorem RepRow.left {b : Nat} : ∀ {xs ys : List C} {off : Nat}, RepRow w S b off (xs ++ ys) → RepRow w S b off xs ∧ RepRow w S b (off + xs.length) ys
  | [], ys, off, h => by simpa [RepRow] using h
  | x :: xs, ys, off, h => by
    simp only [RepRow, List.cons_append] at h ⊢
    have := RepRow.left h.2
    rw [show off + (x :: xs).length = off + 1 + xs.length by simp; omega]
    exact ⟨⟨h.1, this.1⟩, this.2⟩
theorem RepRows.of_flat {b : Nat} : ∀ {rows : List (List C)} {off : Nat}, RepRow w S b off rows.flatten → RepRows w S b off rows
  | [], _, _ => by simp [RepRows]
  | r :: rs, off, h => by
    simp only [RepRows, List.flatten_cons] at h ⊢
    have := RepRow.left h
    exact ⟨this.1, RepRows.of_flat this.2⟩
theorem flat_len {n : Nat} : ∀ {rows : List (List C)}, rowsLen n rows → rows.flatten.length = rows.length * n
  | [], _ => by simp
  | r :: rs, h => by
    have h1 := (h r (by simp)).1
    have h2 := flat_len (n := n) (rows := rs) (fun x hx => h x (by simp [hx]))
    simp only [List.flatten_cons, List.length_append, List.length_cons, h1, h2, Nat.add_mul]
    omega
theorem flat_ok {n : Nat} : ∀ {rows : List (List C)}, rowsLen n rows → rows.flatten.all okCell = true
  | [], _ => by simp
  | r :: rs, h => by
    have h1 := (h r (by simp)).2
    have h2 := flat_ok (n := n) (rows := rs) (fun x hx => h x (by simp [hx]))
    simp only [List.flatten_cons, List.all_append, h1, h2, Bool.and_self]
theorem rowsLen.append {n : Nat} {xs ys : List (List C)} (h1 : rowsLen n xs) (h2 : rowsLen n ys) : rowsLen n (xs ++ ys) := fun r hr => by
  rcases List.mem_append.1 hr with h | h
  · exact h1 r h
  · exact h2 r h
theorem rowsLen.nil {n : Nat} : rowsLen n [] := fun r hr => by simp at hr
theorem rowsB_iff {n : Nat} {rows : List (List C)} : rowsB n rows = true ↔ rowsLen n rows := by
  unfold rowsB rowsLen
  rw [List.all_eq_true]
  simp only [Bool.and_eq_true, beq_iff_eq]
end
/-- Where an own thing lies. -/
def blkOf (L : Lay) (k : Nat) : Bk → Nat → Prop
  | .var _ _, g => L.b k = g
  | .buf _ _ _ _, g => vblk (L.v k) = some g
  | .set E _, g => E g
def Own1 (w : World) (S : Nat → Prop) (L : Lay) (k : Nat) : Bk → Prop
  | .var o cs => (∀ b, o = some b → L.b k = b) ∧ L.b k < w.heap.size ∧ ¬ S (L.b k) ∧ (∃ arr ty, w.heap[L.b k]? = some (.cells arr ty (0, 0)) ∧ arr.size = cs.length) ∧ RepRow w S (L.b k) 0 cs
  | .buf o e sz rows => (∀ a, o = some a → L.v k = .slice a.1 rows.length a.2) ∧ BufRel w S e sz rows (L.v k)
  | .set E G => (∀ b, E b → b < w.heap.size ∧ ¬ S b) ∧ G w ∧ StableOn E G
theorem BufRel.keep {w w' : World} {S S' : Nat → Prop} {e sz : Nat} {rows : List (List C)} {v : Value} (h : BufRel w S e sz rows v) (hz : w.heap.size ≤ w'.heap.size) (hk : ∀ b o, S b → w'.cell? ⟨b, o, none⟩ = w.cell? ⟨b, o, none⟩) (hS : ∀ b, S b → S' b)
    (hb : ∀ g, vblk v = some g → w'.heap[g]? = w.heap[g]? ∧ ¬ S' g) : BufRel w' S' e sz rows v := by
  obtain ⟨h1, h2, h3⟩ := h
  refine ⟨h1, h2, ?_⟩
  rcases h3 with h3 | ⟨g, cap, cur, hv, hc, hg, hs, hh, hl, hm, hcs, hr⟩
  · exact .inl h3
  · have hvb : vblk v = some g := by rw [hv]; simp [vblk]; omega
    obtain ⟨k1, k2⟩ := hb g hvb
    refine .inr ⟨g, cap, cur, hv, hc, by omega, k2, by rw [k1]; exact hh, hl, hm, hcs, ?_⟩
    exact RepRows.of_flat (RepRow.keep2 hz hk hS g (fun o => cell_of_heap k1 o) 0 _ hr.flat)
theorem Own1.keep {w w' : World} {S S' : Nat → Prop} {L : Lay} {k : Nat} {bk : Bk} (h : Own1 w S L k bk) (hz : w.heap.size ≤ w'.heap.size) (hk : ∀ b o, S b → w'.cell? ⟨b, o, none⟩ = w.cell? ⟨b, o, none⟩) (hS : ∀ b, S b → S' b)
    (hb : ∀ g, blkOf L k bk g → w'.heap[g]? = w.heap[g]? ∧ ¬ S' g) : Own1 w' S' L k bk := by
  cases bk with
  | var o cs =>
    obtain ⟨h0, h1, h2, ⟨arr, ty, h3, h4⟩, h5⟩ := h
    obtain ⟨k1, k2⟩ := hb (L.b k) rfl
    exact ⟨h0, by omega, k2, ⟨arr, ty, by rw [k1]; exact h3, h4⟩, RepRow.keep2 hz hk hS _ (fun o => cell_of_heap k1 o) 0 cs h5⟩
  | buf o e sz rows => exact ⟨h.1, BufRel.keep h.2 hz hk hS hb⟩
  | set E G =>
    obtain ⟨h1, h2, h3⟩ := h
    exact ⟨fun b hE => ⟨by have := (h1 b hE).1; omega, (hb b hE).2⟩, h3 w w' hz (fun b hE => (hb b hE).1) h2, h3⟩
theorem Own1.lt {w : World} {S : Nat → Prop} {L : Lay} {k : Nat} {bk : Bk} (h : Own1 w S L k bk) {g : Nat} (hg : blkOf L k bk g) : g < w.heap.size ∧ ¬ S g := by
  cases bk with
  | var o cs => simp only [blkOf] at hg; subst hg; exact ⟨h.2.1, h.2.2.1⟩
  | set E G => exact h.1 g hg
  | buf o e sz rows =>
    obtain ⟨_, _, _, h3⟩ := h
    simp only [blkOf] at hg
    rcases h3 with ⟨_, a, hv⟩ | ⟨g', cap, cur, hv, hc, hg', hs, _⟩
    · rw [hv] at hg; cases a <;> simp [vblk] at hg
    · rw [hv] at hg
      simp only [vblk] at hg
      rw [if_neg (by omega)] at hg
      injection hg with hg
      subst hg
      exact ⟨hg', hs⟩
theorem Own1.lay {w : World} {S : Nat → Prop} {L L' : Lay} {k : Nat} {bk : Bk} (h : Own1 w S L k bk) (h1 : L'.b k = L.b k) (h2 : L'.v k = L.v k) : Own1 w S L' k bk := by
  cases bk with
  | var o cs => simpa [Own1, h1] using h
  | buf o e sz rows => simpa [Own1, h2] using h
  | set E G => exact h
theorem blkOf_lay {L L' : Lay} {k : Nat} {bk : Bk} (h1 : L'.b k = L.b k) (h2 : L'.v k = L.v k) : blkOf L' k bk = blkOf L k bk := by
  funext g
  cases bk <;> simp [blkOf, h1, h2]
/-- The world and the data of a call under way: S the blocks that stay, U the blocks that were lent to the call, L where the own things lie. -/
structure Cls (e : Env) (U : Nat → Prop) (base : Nat) (S0 : Nat → Prop) (m : List (Nat × Bk)) (w : World) (S : Nat → Prop) (L : Lay) : Prop where
  sin : ∀ b, S b → b < w.heap.size ∧ ¬ e.E b
  sfr : ∀ b, S b → S0 b ∨ base ≤ b ∨ U b
  ein : ∀ b, e.E b → b < base
  uin : ∀ b, U b → ¬ e.E b
  bsz : base ≤ w.heap.size
  mine : ∀ k bk g, gm m k = some bk → blkOf L k bk g → base ≤ g ∨ U g
  own : ∀ k bk, gm m k = some bk → Own1 w S L k bk
  inj : ∀ k k' x x' g, gm m k = some x → gm m k' = some x' → blkOf L k x g → blkOf L k' x' g → k = k'
  g : e.G w
section
variable {e : Env} {U : Nat → Prop} {base : Nat} {S0 : Nat → Prop} {m : List (Nat × Bk)} {w w' : World} {S S' : Nat → Prop} {L : Lay}
theorem Cls.notE (h : Cls e U base S0 m w S L) {k g : Nat} {bk : Bk} (hk : gm m k = some bk) (hg : blkOf L k bk g) : ¬ e.E g := fun hE => by
  rcases h.mine k bk g hk hg with h1 | h1
  · have := h.ein g hE; omega
  · exact h.uin g h1 hE
/-- After something that kept what was there, and made blocks. -/
theorem Cls.later (h : Cls e U base S0 m w S L) (hk : Kept e.D e.E w.heap.size w w') (hg : e.G w')
    (hS : ∀ b, S b → S' b) (hS' : ∀ b, S' b → S b ∨ (w.heap.size ≤ b ∧ b < w'.heap.size)) : Cls e U base S0 m w' S' L := by
  have hz := hk.size
  have hkc : ∀ b o, S b → w'.cell? ⟨b, o, none⟩ = w.cell? ⟨b, o, none⟩ := fun b o hs => cell_of_heap (hk.block b (h.sin b hs).1 (h.sin b hs).2) o
  refine ⟨fun b hb => ?_, fun b hb => ?_, h.ein, h.uin, Nat.le_trans h.bsz hz, h.mine, fun k bk hm => ?_, h.inj, hg⟩
  · rcases hS' b hb with h1 | ⟨h1, h2⟩
    · exact ⟨Nat.lt_of_lt_of_le (h.sin b h1).1 hz, (h.sin b h1).2⟩
    · exact ⟨h2, fun hE => by have := h.ein b hE; have := h.bsz; omega⟩
  · rcases hS' b hb with h1 | ⟨h1, h2⟩
    · exact h.sfr b h1
    · exact .inr (.inl (Nat.le_trans h.bsz h1))
  · have ho := h.own k bk hm
    refine ho.keep hz hkc hS fun g hgb => ?_
    obtain ⟨l1, l2⟩ := ho.lt hgb
    refine ⟨hk.block g l1 (h.notE hm hgb), fun hs => ?_⟩
    rcases hS' g hs with h7 | ⟨h7, _⟩
    · exact l2 h7
    · omega
theorem Cls.cell (h : Cls e U base S0 m w S L) (hk : Kept e.D e.E w.heap.size w w') : ∀ b o, S b → w'.cell? ⟨b, o, none⟩ = w.cell? ⟨b, o, none⟩ :=
  fun b o hs => cell_of_heap (hk.block b (h.sin b hs).1 (h.sin b hs).2) o
/-- Whatever world of the kind, and whatever values for the operands: the operation gives a value for α. -/
def GivesA (e : Env) (U : Nat → Prop) (base : Nat) (S0 : Nat → Prop) (m : List (Nat × Bk)) (o : Oper) (ρ : Operand → A) (α : A) : Prop :=
  ∀ (w : World) (S : Nat → Prop) (L : Lay) (ρv : Operand → Value), Cls e U base S0 m w S L → (∀ x, x ∈ o.op.operands → ARel w S L (ρ x) (ρv x)) →
    gives e.P o ρv w fun v w' => ∃ S' : Nat → Prop, ((∀ b, S b → S' b) ∧ ∀ b, S' b → S b ∨ w.heap.size ≤ b) ∧ Cls e U base S0 m w' S' L ∧ Kept e.D e.E w.heap.size w w' ∧ ARel w' S' L α v
theorem givesA_pure {o : Oper} {ρ : Operand → A} {α : A} (h : ∀ (w : World) (S : Nat → Prop) (L : Lay) (ρv : Operand → Value), Cls e U base S0 m w S L → (∀ x, x ∈ o.op.operands → ARel w S L (ρ x) (ρv x)) → ∃ v, (execOp ρv o).run e.P w = .ok (.value v) w ∧ ARel w S L α v) :
    GivesA e U base S0 m o ρ α := by
  intro w S L ρv hC hr
  obtain ⟨v, hv, ha⟩ := h w S L ρv hC hr
  unfold gives
  rw [hv]
  exact ⟨S, ⟨fun _ h => h, fun _ h => .inl h⟩, hC, Kept.refl _ _ _ _, ha⟩
end
/-- Reading a value at a place in memory. -/
theorem load_at {P : Program} {w : World} {S : Nat → Prop} {Bm : Lay} {t : TypeId} {k : TK} {b off : Nat} {cs : List C} {α : A} (hk : kindT P t = some k) (hr : RepRow w S b off cs) (hv : valT k cs = some α) :
    ∃ v, (Instr.loadAt t (.pointer (some ⟨b, off, none⟩))).run P w = .ok v w ∧ ARel w S Bm α v := by
  unfold kindT at hk
  cases hu : P.underlying t with
  | none => rw [hu] at hk; simp at hk
  | some d =>
    cases hi : P.info? t with
    | none => rw [hu, hi] at hk; simp at hk
    | some i =>
      rw [hu, hi] at hk
      simp only at hk
      cases hd : isAggD d with
      | true =>
        rw [hd] at hk
        simp only [if_true, Option.some.injEq] at hk
        subst hk
        simp only [valT] at hv
        split at hv
        · rename_i hle
          injection hv with hv
          subst hv
          obtain ⟨vs, h1, h2⟩ := (hr.take i.size).vals
          have hl : vs.length = i.size := by rw [h1.len, List.length_take]; omega
          have hlc := run_loadCells_list (P := P) w ⟨b, off, none⟩ vs (fun j u hj => by rw [Addr.add_at]; exact h2 j u hj)
          rw [hl] at hlc
          refine ⟨.agg vs.toArray, ?_, vs, rfl, h1⟩
          cases d <;> simp [isAggD] at hd <;> simp [Instr.loadAt, Instr.sureAddr, loadVar, isAgg, underlying, hu, sizeOf, typeInfo, hi, hlc, Result.andThen]
        · cases hv
      | false =>
        rw [hd] at hk
        simp only [Bool.false_eq_true, if_false] at hk
        split at hk
        · injection hk with hk
          subst hk
          cases cs with
          | nil => simp [valT] at hv
          | cons c cs =>
            simp only [valT, Option.some.injEq] at hv
            subst hv
            simp only [RepRow] at hr
            obtain ⟨⟨u, hu', hr'⟩, _⟩ := hr
            refine ⟨u, ?_, hr'⟩
            cases d <;> simp [isAggD] at hd <;> simp [Instr.loadAt, Instr.sureAddr, loadVar, isAgg, underlying, hu, hu', Result.andThen]
        · cases hk
end Go.Proofs.YtpbikjkjfojjiaaGreat
namespace Go.Proofs.YtpbikjkjfojjiaaGreat
open Go.RowKit
theorem binV_run {P : Program} {op : BinOp} {t : TypeId} {x y : Operand} {a b v : Value} (h : binV op a b = some v) (w : World) :
    ((do eqGuard op t x y a b; binOp op t a b : Sem Value)).run P w = .ok v w := by
  unfold binV at h
  split at h <;> first
    | (cases h; done)
    | (injection h with h; subst h; simp [eqGuard, binOp, Go.Op.intArith, Go.Op.intCmp, Go.Op.stringOp, intBits_and, intBits_or, intBits_xor, Result.andThen, bne]; done)
    | (injection h with h; subst h; simp [eqGuard, binOp, Go.Op.intArith, Go.Op.intCmp, Go.Op.stringOp, Result.andThen, bne]; rfl)
    | (injection h with h; subst h; simp [eqGuard, binOp, Result.andThen, bne]; rfl)
    | (split at h
       · rename_i hb
         injection h with h; subst h
         have hb' : ¬ (_ < (0 : Int)) := Int.not_lt.2 hb
         simp [eqGuard, binOp, Go.Op.shift, hb', Result.andThen, IntKind.bits]
       · cases h)
    | (split at h
       · cases h
       · rename_i hb
         injection h with h; subst h
         simp [eqGuard, binOp, Go.Op.intDiv, hb, Result.andThen])
    | (rename_i a b
       split at h
       · rename_i hb
         injection h with h; subst h
         have hb' : ¬ (((a.size + b.size : Nat) : Int) > IntKind.i64.max) := by simp [IntKind.max, IntKind.signed, IntKind.bits]; omega
         simp only [eqGuard, binOp, Go.Op.stringOp, Sem.run_bind, Sem.run_pure, Result.andThen_ok, hb', if_false]
         simp [Result.andThen]
       · cases h)
theorem binT_run {P : Program} {op : BinOp} {t : TypeId} {x y : Operand} {a b v : Value} (h : binT P op t a b = some v) (w : World) :
    ((do eqGuard op t x y a b; binOp op t a b : Sem Value)).run P w = .ok v w := by
  unfold binT at h
  split at h
  · unfold boolT at h
    split at h
    · rename_i hu; injection h with h; subst h
      simp [eqGuard, binOp, run_equal_bool _ _ _ _ hu, Result.andThen]
    · cases h
  · unfold boolT at h
    split at h
    · rename_i hu; injection h with h; subst h
      simp [eqGuard, binOp, run_equal_bool _ _ _ _ hu, Result.andThen]
    · cases h
  · exact binV_run h w
theorem unV_run {P : Program} {op : UnOp} {a v : Value} (h : unV op a = some v) (w : World) : (Go.Op.unary op a).run P w = .ok v w := by
  unfold unV at h
  split at h <;> first
    | (cases h; done)
    | (injection h with h; subst h; simp [Go.Op.unary, Go.Op.intArith])
theorem fieldAt_run {P : Program} {t : TypeId} {f n : Nat} {ft : TypeId} (h : offT P t f = some (n, ft)) (b off : Nat) (w : World) : (Instr.fieldAt t (.pointer (some ⟨b, off, none⟩)) f).run P w = .ok (.pointer (some ⟨b, off + n, none⟩)) w := by
  unfold offT at h
  split at h
  · rename_i fs hu
    split at h
    · rename_i g hg
      split at h
      · rename_i i hi
        split at h
        · cases h
        · rename_i hz
          injection h with h
          injection h with h1 h2
          subst h1 h2
          simp [Instr.fieldAt, underlying, hu, hg, Instr.sureAddr, fieldPlace, sizeOf, typeInfo, hi, hz, Addr.add_at, Result.andThen]
      · cases h
    · cases h
  · cases h
theorem part_run {P : Program} {w : World} {S : Nat → Prop} {Bm : Lay} {t : TypeId} {k : TK} {n : Nat} {cs : List C} {vs : List Value} {α : A} (hk : kindT P t = some k) (hr : RepVals w S cs vs) (hv : valT k (cs.drop n) = some α) :
    ∃ v, (part t vs.toArray n).run P w = .ok v w ∧ ARel w S Bm α v := by
  unfold kindT at hk
  cases hu : P.underlying t with
  | none => rw [hu] at hk; simp at hk
  | some d =>
    cases hi : P.info? t with
    | none => rw [hu, hi] at hk; simp at hk
    | some i =>
      rw [hu, hi] at hk
      simp only at hk
      have hrd := hr.drop n
      cases hd : isAggD d with
      | true =>
        rw [hd] at hk
        simp only [if_true, Option.some.injEq] at hk
        subst hk
        simp only [valT] at hv
        split at hv
        · injection hv with hv
          subst hv
          refine ⟨.agg ((vs.drop n).take i.size).toArray, ?_, _, rfl, hrd.take i.size⟩
          have e1 : vs.toArray.extract n (n + i.size) = ((vs.drop n).take i.size).toArray := by
            simp [List.extract_toArray, List.extract_eq_take_drop]
          cases d <;> simp [isAggD] at hd <;> simp [part, isAgg, underlying, hu, sizeOf, typeInfo, hi, e1, Result.andThen]
        · cases hv
      | false =>
        rw [hd] at hk
        simp only [Bool.false_eq_true, if_false] at hk
        split at hk
        · injection hk with hk
          subst hk
          cases hcs : cs.drop n with
          | nil => rw [hcs] at hv; simp [valT] at hv
          | cons c cs' =>
            rw [hcs] at hv hrd
            simp only [valT, Option.some.injEq] at hv
            subst hv
            cases hvs : vs.drop n with
            | nil => rw [hvs] at hrd; simp [RepVals] at hrd
            | cons u us =>
              rw [hvs] at hrd
              simp only [RepVals] at hrd
              have hu' : vs[n]? = some u := by
                have : (vs.drop n)[0]? = some u := by rw [hvs]; rfl
                simpa using this
              refine ⟨u, ?_, hrd.1⟩
              cases d <;> simp [isAggD] at hd <;> simp [part, isAgg, underlying, hu, hu', Result.andThen]
        · cases hk
theorem indexAt_run {P : Program} {w : World} {S : Nat → Prop} {Bm : Lay} {t : TypeId} {n : Nat} {rows : List (List C)} {k : IntKind} {j : Int} {r : List C} {u : Value} (h : elemT P t = some n) (hj : 0 ≤ j) (hl : rowsLen n rows) (hr : rows[j.toNat]? = some r) (hv : Rep w S (.sl rows) u) :
    ∃ v, (Instr.indexAt t u (.int k j)).run P w = .ok v w ∧ ARel w S Bm (.d (.one (.ptr r))) v := by
  unfold elemT at h
  split at h
  · rename_i el hu
    simp only [Option.map_eq_some_iff] at h
    obtain ⟨i, hi, hn⟩ := h
    simp only [Rep] at hv
    obtain ⟨A, len, cap, rfl, hlen, _, _, h4⟩ := hv
    have hjl : j.toNat < rows.length := (List.getElem?_eq_some_iff.1 hr).1
    obtain ⟨b, off, rfl, hs, hb, hrows⟩ := h4 (by omega)
    have hrow := RepRows.get rows off j.toNat r (fun x hx => (hl x hx).1) hrows hr
    refine ⟨.pointer (some ⟨b, off + j.toNat * n, none⟩), ?_, ?_⟩
    · have hlt : j < (len : Int) := by omega
      simp [Instr.indexAt, asIntOf, underlying, hu, sizeOf, typeInfo, hi, hn, Addr.add_at, hj, hlt, Result.andThen]
    · simp only [ARel, DRel, Rep]
      exact ⟨b, _, rfl, hs, hb, hrow⟩
  · cases h
theorem indexBuf_run {P : Program} {w : World} {t : TypeId} {n g len cap : Nat} {k : IntKind} {j : Int} (h : elemT P t = some n) (hj : 0 ≤ j) (hl : j.toNat < len) :
    (Instr.indexAt t (.slice (some ⟨g, 0, none⟩) len cap) (.int k j)).run P w = .ok (.pointer (some ⟨g, j.toNat * n, none⟩)) w := by
  unfold elemT at h
  split at h
  · rename_i el hu
    simp only [Option.map_eq_some_iff] at h
    obtain ⟨i, hi, hn⟩ := h
    have hlt : j < (len : Int) := by omega
    simp [Instr.indexAt, asIntOf, underlying, hu, sizeOf, typeInfo, hi, hn, Addr.add_at, hj, hlt, Result.andThen]
  · cases h
section
variable {e : Env} {U : Nat → Prop} {base : Nat} {S0 : Nat → Prop} {m : List (Nat × Bk)} {w : World} {S : Nat → Prop} {L : Lay}
theorem lit_val {x : Value} {v : Value} (h : ARel w S L (.d (.one (.lit x))) v) : v = x := by simpa [ARel, DRel, Rep] using h
theorem DsRel_of : ∀ {xs : List A} {vs : List Value} {ds : List D}, dsA xs = some ds → vs.length = xs.length → (∀ (i : Nat) (x : A) (v : Value), xs[i]? = some x → vs[i]? = some v → ARel w S L x v) → DsRel w S ds vs
  | [], [], ds, h, _, _ => by simp [dsA] at h; subst h; simp [DsRel]
  | [], _ :: _, _, _, hl, _ => by simp at hl
  | _ :: _, [], _, _, hl, _ => by simp at hl
  | x :: xs, v :: vs, ds, h, hl, hr => by
    have h0 := hr 0 x v (by simp) (by simp)
    cases x with
    | d y =>
      simp only [dsA, Option.map_eq_some_iff] at h
      obtain ⟨ys, h1, h2⟩ := h
      subst h2
      simp only [DsRel]
      exact ⟨h0, DsRel_of h1 (by simpa using hl) (fun i y v hy hv => hr (i + 1) y v (by simpa using hy) (by simpa using hv))⟩
    | undef => simp [dsA] at h
    | no => simp [dsA] at h
    | tup ys => simp [dsA] at h
    | ref k off => simp [dsA] at h
    | buf k => simp [dsA] at h
    | row k j sz off => simp [dsA] at h
theorem RepVals_of : ∀ {xs : List A} {vs : List Value} {cs : List C}, csA xs = some cs → vs.length = xs.length → (∀ (i : Nat) (x : A) (v : Value), xs[i]? = some x → vs[i]? = some v → ARel w S L x v) → RepVals w S cs vs
  | [], [], ds, h, _, _ => by simp [csA] at h; subst h; simp [RepVals]
  | [], _ :: _, _, _, hl, _ => by simp at hl
  | _ :: _, [], _, _, hl, _ => by simp at hl
  | x :: xs, v :: vs, ds, h, hl, hr => by
    have h0 := hr 0 x v (by simp) (by simp)
    cases x with
    | d y =>
      cases y with
      | one c =>
        simp only [csA, Option.map_eq_some_iff] at h
        obtain ⟨ys, h1, h2⟩ := h
        subst h2
        simp only [RepVals]
        exact ⟨h0, RepVals_of h1 (by simpa using hl) (fun i y v hy hv => hr (i + 1) y v (by simpa using hy) (by simpa using hv))⟩
      | agg cs => simp [csA] at h
      | clip rows => simp [csA] at h
    | undef => simp [csA] at h
    | no => simp [csA] at h
    | tup ys => simp [csA] at h
    | ref k off => simp [csA] at h
    | buf k => simp [csA] at h
    | row k j sz off => simp [csA] at h
theorem oneCell_cells {v : Value} (h : v.oneCell' = true) : v.cells = #[v] := by
  cases v <;> simp [Value.oneCell', Value.cells] at h ⊢
theorem cellsA_spec {x : A} {v : Value} {cs : List C} (h : cellsA x = some cs) (hr : ARel w S L x v) : RepVals w S cs v.cells.toList ∧ cs.all okCell = true := by
  unfold cellsA at h
  split at h
  · rename_i c
    split at h
    · rename_i hok
      injection h with h
      subst h
      have h1 := okCell_one hok hr
      rw [oneCell_cells h1]
      exact ⟨by simp only [RepVals]; exact ⟨hr, trivial⟩, by simpa using hok⟩
    · cases h
  · rename_i cs'
    split at h
    · rename_i hok
      injection h with h
      subst h
      obtain ⟨vs, rfl, hv⟩ := hr
      exact ⟨by simpa [Value.cells] using hv, hok⟩
    · cases h
  · rename_i rows
    injection h with h
    subst h
    obtain ⟨h1, a, n, rfl⟩ := hr
    exact ⟨by simp only [Value.cells, RepVals]; exact ⟨h1, trivial⟩, rfl⟩
  · cases h
theorem nrm_rel (hC : Cls e U base S0 m w S L) {x : A} {v : Value} (hr : ARel w S L x v) : ARel w S L (nrm m x) v := by
  unfold nrm
  split
  · rename_i b off
    have hv : v = .pointer (some ⟨b, off, none⟩) := by simpa [ARel, DRel, Rep] using hr
    unfold nrmVK
    split
    · rename_i k hk
      unfold nrmV
      split
      · rename_i b' cs hm
        split
        · rename_i hb
          have := (hC.own k _ hm).1 b' rfl
          show v = _
          rw [hv, this, hb]
        · exact hr
      · exact hr
    · exact hr
  · rename_i a n cap
    have hv : v = .slice a n cap := by simpa [ARel, DRel, Rep] using hr
    unfold nrmBK
    split
    · rename_i k hk
      unfold nrmB
      split
      · rename_i a' cap' e' sz' rows hm
        split
        · rename_i hb
          obtain ⟨rfl, rfl, rfl⟩ := hb
          have := (hC.own k _ hm).1 (a, cap) rfl
          show v = _
          rw [hv, this]
        · exact hr
      · exact hr
    · exact hr
  · exact hr
/-- The rows that a slice in a slot has. -/
theorem slA_spec (hC : Cls e U base S0 m w S L) {x : A} {v : Value} {rows : List (List C)} (h : slA m x = some rows) (hr : ARel w S L x v) : ∃ a cap, v = .slice a rows.length cap ∧ rows.length ≤ cap ∧ cap ≤ maxLen := by
  unfold slA at h
  split at h
  · injection h with h; subst h
    obtain ⟨A, n, cap, hv, hn, hc, hm⟩ := Rep.form hr
    exact ⟨A, cap, by rw [hv, hn], by omega, by omega⟩
  · injection h with h; subst h
    obtain ⟨A, n, cap, hv, hn, hc, hm⟩ := Rep.form hr.1
    exact ⟨A, cap, by rw [hv, hn], by omega, by omega⟩
  · rename_i k
    unfold bufA at h
    split at h
    · rename_i o' e' sz rows' hm
      injection h with h; subst h
      have hr : v = L.v k := hr
      obtain ⟨_, _, _, h3⟩ := hC.own k _ hm
      rcases h3 with ⟨h4, a, hv⟩ | ⟨g, cap, cur, hv, _, _, _, _, hl, hc, _⟩
      · exact ⟨a, 0, by rw [hr, hv, h4]; rfl, by simp [h4], by simp [maxLen]⟩
      · exact ⟨_, cap, by rw [hr, hv], hl, hc⟩
    · cases h
  · cases h
theorem ptrA_load (hC : Cls e U base S0 m w S L) {x : A} {v : Value} {cs : List C} {t : TypeId} {k : TK} {α : A} (hp : ptrA m x = some cs) (hr : ARel w S L x v) (hk : kindT e.P t = some k) (hv : valT k cs = some α) :
    ∃ u, (Instr.loadAt t v).run e.P w = .ok u w ∧ ARel w S L α u := by
  unfold ptrA at hp
  split at hp
  · injection hp with hp; subst hp
    simp only [ARel, DRel, Rep] at hr
    obtain ⟨b, off, rfl, hs, hb, hrow⟩ := hr
    exact load_at hk hrow hv
  · rename_i k' off
    simp only [Option.map_eq_some_iff] at hp
    obtain ⟨cs', h2, h3⟩ := hp
    unfold varA at h2
    split at h2
    · rename_i o2 cs2 hm
      injection h2 with h2; subst h2
      obtain ⟨_, _, _, _, h7⟩ := hC.own k' _ hm
      have h8 := h7.drop off
      rw [h3, Nat.zero_add] at h8
      have hr : v = .pointer (some ⟨L.b k', off, none⟩) := hr
      rw [hr]
      exact load_at hk h8 hv
    · cases h2
  · rename_i k' j sz off
    simp only [Option.map_eq_some_iff] at hp
    obtain ⟨cs', h2, h3⟩ := hp
    unfold rowA at h2
    split at h2
    · rename_i o' e' sz' rows hm
      split at h2
      · rename_i hsz
        subst hsz
        obtain ⟨g, hg, rfl⟩ := hr
        obtain ⟨_, _, hl, h4⟩ := hC.own k' _ hm
        rcases h4 with ⟨h4, _⟩ | ⟨g', cap, cur, hv', hcp, _, _, _, _, _, _, hrows⟩
        · rw [h4] at h2; simp at h2
        · have hgg : g' = g := by rw [hv'] at hg; simp only [vblk] at hg; rw [if_neg (by omega)] at hg; injection hg
          subst hgg
          have h8 := (RepRows.get rows 0 j cs' (fun x hx => (hl x hx).1) hrows h2).drop off
          rw [h3, Nat.zero_add] at h8
          exact load_at hk h8 hv
      · cases h2
    · cases h2
  · cases hp
theorem partsA_spec : ∀ {sz i : Nat} {ps : List (Nat × A)} {rows : List (List C)} {vs : List Value}, partsA sz i ps = some rows → vs.length = ps.length → (∀ (i : Nat) (x : Nat × A) (v : Value), ps[i]? = some x → vs[i]? = some v → ARel w S L x.2 v) →
    rows.length = ps.length ∧ rowsLen sz rows ∧ (ps.map (·.1)) = (List.range' i ps.length) ∧ (∀ v ∈ vs, v.cells.size = sz) ∧ RepVals w S rows.flatten (vs.flatMap fun v => v.cells.toList)
  | sz, i, [], rows, vs, h, hl, _ => by
    simp [partsA] at h
    subst h
    have : vs = [] := List.eq_nil_of_length_eq_zero (by simpa using hl)
    subst this
    exact ⟨rfl, rowsLen.nil, rfl, by simp, by simp [RepVals]⟩
  | sz, i, (j, x) :: ps, rows, [], h, hl, _ => by simp at hl
  | sz, i, (j, x) :: ps, rows, v :: vs, h, hl, hr => by
    simp only [partsA] at h
    split at h
    · rename_i hij
      split at h
      · rename_i cs hcs
        split at h
        · rename_i hlen
          simp only [Option.map_eq_some_iff] at h
          obtain ⟨rs, h1, h2⟩ := h
          subst h2
          obtain ⟨q1, q2, q3, q4, q5⟩ := partsA_spec (sz := sz) (i := i + 1) (ps := ps) (rows := rs) (vs := vs) h1 (by simpa using hl) (fun k y u hy hu => hr (k + 1) y u (by simpa using hy) (by simpa using hu))
          obtain ⟨c1, c2⟩ := cellsA_spec hcs (hr 0 (j, x) v (by simp) (by simp))
          have hvs : v.cells.size = sz := by rw [← hlen, ← c1.len, Array.length_toList]
          refine ⟨by simp [q1], fun r hr' => ?_, by simp [q3, List.range'_succ, hij], fun u hu => ?_, ?_⟩
          · rcases List.mem_cons.1 hr' with rfl | h5
            · exact ⟨hlen, c2⟩
            · exact q2 r h5
          · rcases List.mem_cons.1 hu with rfl | h5
            · exact hvs
            · exact q4 u h5
          · simp only [List.flatten_cons, List.flatMap_cons]
            exact RepVals.app c1 q5
        · cases h
      · cases h
    · cases h
/-- One part of a struct literal goes into its place. -/
theorem fill_step {place : Nat → Option (Nat × Nat)} {cells : Array Value} {i off : Nat} {v : Value} {rest : List (Nat × Value)} (hp : place i = some (off, v.cells.size)) (hl : off + v.cells.size ≤ cells.size) :
    Instr.fill place cells ((i, v) :: rest) = Instr.fill place (cells.toList.take off ++ v.cells.toList ++ cells.toList.drop (off + v.cells.size)).toArray rest := by
  obtain ⟨g1, g2⟩ := Go.Great.foldl_set off v.cells.toList 0 cells
  have e : (v.cells.toList.zipIdx 0).foldl (fun cs (x : Value × Nat) => cs.setIfInBounds (off + x.2) x.1) cells = (cells.toList.take off ++ v.cells.toList ++ cells.toList.drop (off + v.cells.size)).toArray := by
    apply Array.ext_getElem?
    intro k
    rw [g2 k]
    simp only [Nat.add_zero, Array.length_toList, List.getElem?_toArray]
    by_cases h1 : k < off
    · rw [if_neg (by omega), List.append_assoc, List.getElem?_append_left (by simp; omega), List.getElem?_take, if_pos h1]
      simp
    · by_cases h2 : k < off + v.cells.size
      · rw [if_pos (by omega), List.append_assoc, List.getElem?_append_right (by simp; omega), List.getElem?_append_left (by simp; omega)]
        simp only [List.length_take, Array.length_toList]
        congr 1
        omega
      · rw [if_neg (by omega), List.getElem?_append_right (by simp; omega), List.getElem?_drop]
        simp only [List.length_append, List.length_take, Array.length_toList, Array.getElem?_toList]
        congr 1
        omega
  rw [← e]
  conv => lhs; unfold Instr.fill
  simp only [hp]
  rw [if_neg (by simp; omega)]
  congr 1
  rw [← Array.foldl_toList]
  congr 1
  simp
theorem fillA_spec {P : Program} {t : TypeId} {place : Nat → Option (Nat × Nat)} (hpl : ∀ f off ft n, offT P t f = some (off, ft) → sizeT P ft = some n → place f = some (off, n)) : ∀ {ps : List (Nat × A)} {cs cs' : List C} {vs : List (Nat × Value)} {cells : Array Value}, fillA P t cs ps = some cs' →
    RepVals w S cs cells.toList → cs.all okCell = true → vs.map (·.1) = ps.map (·.1) → (∀ (i : Nat) (x : Nat × A) (v : Nat × Value), ps[i]? = some x → vs[i]? = some v → ARel w S L x.2 v.2) →
    ∃ cells' : Array Value, Instr.fill place cells vs = some cells' ∧ RepVals w S cs' cells'.toList ∧ cs'.all okCell = true
  | [], cs, cs', vs, cells, h, hr, hok, hv, _ => by
    simp [fillA] at h
    subst h
    have : vs = [] := by simpa using hv
    subst this
    exact ⟨cells, rfl, hr, hok⟩
  | (f, x) :: ps, cs, cs', [], cells, h, hr, hok, hv, _ => by simp at hv
  | (f, x) :: ps, cs, cs', (f', v) :: vs, cells, h, hr, hok, hv, ha => by
    simp only [List.map_cons, List.cons.injEq] at hv
    obtain ⟨rfl, hv⟩ := hv
    simp only [fillA] at h
    split at h
    · rename_i off ft us ho hcs
      split at h
      · rename_i hsz
        obtain ⟨c1, c2⟩ := cellsA_spec hcs (ha 0 (f', x) (f', v) (by simp) (by simp))
        have hvl : v.cells.size = us.length := by rw [← c1.len, Array.length_toList]
        have hcl := hr.len
        simp only [Array.length_toList] at hcl
        have hp := hpl f' off ft us.length ho hsz.1
        rw [← hvl] at hp
        rw [fill_step hp (by omega)]
        refine fillA_spec hpl h ?_ ?_ hv (fun i y u hy hu => ha (i + 1) y u (by simpa using hy) (by simpa using hu))
        · simp only
          rw [hvl]
          exact RepVals.app (RepVals.app (hr.take off) c1) (hr.drop (off + us.length))
        · simp only [List.all_append, c2, Bool.and_eq_true, and_true]
          exact ⟨List.all_eq_true.2 fun y hy => List.all_eq_true.1 hok y (List.mem_of_mem_take hy), List.all_eq_true.2 fun y hy => List.all_eq_true.1 hok y (List.mem_of_mem_drop hy)⟩
      · cases h
    · cases h
theorem RepVals_zero : ∀ (l : List Value), RepVals w S (l.map toC) l
  | [] => by simp [RepVals]
  | v :: l => by
    simp only [List.map_cons, RepVals]
    refine ⟨?_, RepVals_zero l⟩
    unfold toC
    split
    · simp only [Rep]; exact ⟨none, 0, 0, rfl, rfl, Nat.le_refl _, by decide, fun h => absurd h (by decide)⟩
    · simp [Rep]
theorem bytesT_spec {P : Program} {t : TypeId} {ety sz by' : Nat} (h : bytesT P t = some (ety, sz, by')) : ∃ i z, P.underlying t = some (.slice ety) ∧ P.info? ety = some i ∧ i.zero = some z ∧ i.size = sz ∧ i.bytes = by' ∧ z.cells.size = sz ∧ 0 < sz ∧ by' ≤ 4096 := by
  unfold bytesT at h
  split at h
  · rename_i e' hu
    split at h
    · rename_i i hi
      split at h
      · rename_i z hz
        split at h
        · rename_i hc
          simp only [Option.some.injEq, Prod.mk.injEq] at h
          obtain ⟨rfl, rfl, rfl⟩ := h
          exact ⟨i, z, hu, hi, hz, rfl, rfl, hc.1, hc.2.1, hc.2.2⟩
        · cases h
      · cases h
    · cases h
  · cases h
theorem mapv {ps : List (Nat × Operand)} {ρ : Operand → A} {ρv : Operand → Value} (hr : ∀ p ∈ ps, ARel w S L (ρ p.2) (ρv p.2)) (i : Nat) (x : Nat × A) (v : Value) (h1 : (ps.map fun p => (p.1, ρ p.2))[i]? = some x) (h2 : (ps.map fun p => ρv p.2)[i]? = some v) : ARel w S L x.2 v := by
  simp only [List.getElem?_map, Option.map_eq_some_iff] at h1 h2
  obtain ⟨p, hp, rfl⟩ := h1
  obtain ⟨q, hq, rfl⟩ := h2
  rw [hp] at hq
  injection hq with hq
  subst hq
  exact hr p (List.mem_of_getElem? hp)
theorem mapv2 {ps : List (Nat × Operand)} {ρ : Operand → A} {ρv : Operand → Value} (hr : ∀ p ∈ ps, ARel w S L (ρ p.2) (ρv p.2)) (i : Nat) (x : Nat × A) (v : Nat × Value) (h1 : (ps.map fun p => (p.1, ρ p.2))[i]? = some x) (h2 : (ps.map fun p => (p.1, ρv p.2))[i]? = some v) : ARel w S L x.2 v.2 := by
  simp only [List.getElem?_map, Option.map_eq_some_iff] at h1 h2
  obtain ⟨p, hp, rfl⟩ := h1
  obtain ⟨q, hq, rfl⟩ := h2
  rw [hp] at hq
  injection hq with hq
  subst hq
  exact hr p (List.mem_of_getElem? hp)
theorem mapx {ps : List Operand} {ρ : Operand → A} {ρv : Operand → Value} (hr : ∀ p ∈ ps, ARel w S L (ρ p) (ρv p)) (i : Nat) (x : A) (v : Value) (h1 : (ps.map ρ)[i]? = some x) (h2 : (ps.map ρv)[i]? = some v) : ARel w S L x v := by
  simp only [List.getElem?_map, Option.map_eq_some_iff] at h1 h2
  obtain ⟨p, hp, rfl⟩ := h1
  obtain ⟨q, hq, rfl⟩ := h2
  rw [hp] at hq
  injection hq with hq
  subst hq
  exact hr p (List.mem_of_getElem? hp)
end
end Go.Proofs.YtpbikjkjfojjiaaGreat
namespace Go.Proofs.YtpbikjkjfojjiaaGreat
open Go.RowKit
section
variable {e : Env} {U : Nat → Prop} {base : Nat} {S0 : Nat → Prop} {m : List (Nat × Bk)} {o : Oper} {ρ : Operand → A} {α : A}
theorem gives_load {t : TypeId} {x : Operand} (ho : o.op = .load t x) (h : loadA (kindT e.P t) (ptrA m (nrm m (ρ x))) = some α) : GivesA e U base S0 m o ρ α := by
  unfold loadA at h
  split at h
  · rename_i k cs hk hp
    refine givesA_pure fun w S L ρv hC hr => ?_
    obtain ⟨v, h1, h2⟩ := ptrA_load hC hp (nrm_rel hC (hr x (by simp [ho, Op.operands]))) hk h
    exact ⟨v, by simp [execOp, ho, h1], h2⟩
  · cases h
theorem gives_fieldAddr {t : TypeId} {x : Operand} {f : Nat} (ho : o.op = .fieldAddr t x f) (h : fieldAddrA (ρ x) (offT e.P t f) = some α) : GivesA e U base S0 m o ρ α := by
  unfold fieldAddrA at h
  split at h
  · rename_i n ft hk
    refine givesA_pure fun w S L ρv hC hr => ?_
    have h1 := hr x (by simp [ho, Op.operands])
    split at h
    · rename_i cs hx
      injection h with h; subst h
      rw [hx] at h1
      simp only [ARel, DRel, Rep] at h1
      obtain ⟨b, off, hv', hs, hb, hrow⟩ := h1
      refine ⟨.pointer (some ⟨b, off + n, none⟩), by simp [execOp, ho, hv', fieldAt_run hk], ?_⟩
      simp only [ARel, DRel, Rep]
      exact ⟨b, off + n, rfl, hs, hb, hrow.drop n⟩
    · rename_i k off hx
      injection h with h; subst h
      rw [hx] at h1
      have h1 : ρv x = .pointer (some ⟨L.b k, off, none⟩) := h1
      exact ⟨_, by simp [execOp, ho, h1, fieldAt_run hk], rfl⟩
    · rename_i k j sz off hx
      injection h with h; subst h
      rw [hx] at h1
      obtain ⟨g, hg, h1⟩ := h1
      exact ⟨.pointer (some ⟨g, j * sz + (off + n), none⟩), by simp [execOp, ho, h1, fieldAt_run hk, Nat.add_assoc], g, hg, rfl⟩
    · rename_i b off hx
      injection h with h; subst h
      rw [hx] at h1
      have h1 := lit_val h1
      exact ⟨.pointer (some ⟨b, off + n, none⟩), by simp [execOp, ho, h1, fieldAt_run hk], by simp [ARel, DRel, Rep]⟩
    · cases h
  · cases h
theorem gives_field {t : TypeId} {x : Operand} {f : Nat} (ho : o.op = .field t x f) (h : fieldA e.P (ρ x) (offT e.P t f) = some α) : GivesA e U base S0 m o ρ α := by
  unfold fieldA at h
  split at h
  · rename_i n ft hk
    split at h
    · rename_i cs hx
      unfold loadA at h
      split at h
      · rename_i k cs' hk2 hp
        injection hp with hp; subst hp
        refine givesA_pure fun w S L ρv hC hr => ?_
        have h1 := hr x (by simp [ho, Op.operands])
        rw [hx] at h1
        obtain ⟨vs, hv', hrow⟩ := h1
        obtain ⟨v, h2, h3⟩ := part_run (Bm := L) hk2 hrow h
        unfold offT at hk
        split at hk
        · rename_i fs hu
          split at hk
          · rename_i g hg
            split at hk
            · split at hk
              · cases hk
              · injection hk with hk
                injection hk with e1 e2
                subst e1 e2
                exact ⟨v, by simp [execOp, ho, hv', Instr.field, underlying, hu, hg, asAgg, h2, Result.andThen], h3⟩
            · cases hk
          · cases hk
        · cases hk
      · cases h
    · cases h
  · cases h
theorem gives_indexAddr {t : TypeId} {x i : Operand} (ho : o.op = .indexAddr t x i) (h : indexAddrA m (elemT e.P t) (nrm m (ρ x)) (ρ i) = some α) : GivesA e U base S0 m o ρ α := by
  have data : ∀ (rows : List (List C)) (n : Nat) (k : IntKind) (j : Int), elemT e.P t = some n → ρ i = .d (.one (.lit (.int k j))) → (if 0 ≤ j then if rowsB n rows = true then eltA rows[j.toNat]? else none else none) = some α →
      ∀ (w : World) (S : Nat → Prop) (L : Lay) (ρv : Operand → Value), Rep w S (.sl rows) (ρv x) → ARel w S L (ρ i) (ρv i) → ∃ v, (execOp ρv o).run e.P w = .ok (.value v) w ∧ ARel w S L α v := by
    intro rows n k j hn hi h w S L ρv hx hi'
    split at h
    · rename_i hj
      split at h
      · rename_i hrb
        unfold eltA at h
        split at h
        · rename_i r hrow
          injection h with h; subst h
          rw [hi] at hi'
          have hi' := lit_val hi'
          obtain ⟨v, h5, h6⟩ := indexAt_run (Bm := L) (k := k) hn hj (rowsB_iff.1 hrb) hrow hx
          exact ⟨v, by simp [execOp, ho, hi', h5], h6⟩
        · cases h
      · cases h
    · cases h
  unfold indexAddrA at h
  split at h
  · rename_i n k kk j hn hx hi
    unfold rowOfA at h
    split at h
    · rename_i o' e' sz rows hm
      split at h
      · rename_i hsz
        split at h
        · rename_i hj
          split at h
          · rename_i hlt
            injection h with h; subst h
            refine givesA_pure fun w S L ρv hC hr => ?_
            have hx' := nrm_rel hC (hr x (by simp [ho, Op.operands]))
            have hi' := hr i (by simp [ho, Op.operands])
            rw [hx] at hx'
            rw [hi] at hi'
            have hi' := lit_val hi'
            have hx' : ρv x = L.v k := hx'
            obtain ⟨_, _, _, h4⟩ := hC.own k _ hm
            rcases h4 with ⟨h4, _⟩ | ⟨g, cap, cur, hv, hcp, _⟩
            · rw [h4] at hlt; simp at hlt
            · refine ⟨.pointer (some ⟨g, j.toNat * n, none⟩), ?_, g, ?_, by rw [hsz]; rfl⟩
              · simp [execOp, ho, hi', hx', hv, indexBuf_run hn hj hlt]
              · rw [hv]; simp only [vblk]; rw [if_neg (by omega)]
          · cases h
        · cases h
      · cases h
    · cases h
  · rename_i n rows kk j hn hx hi
    refine givesA_pure fun w S L ρv hC hr => ?_
    have hx' := nrm_rel hC (hr x (by simp [ho, Op.operands]))
    rw [hx] at hx'
    exact data rows n kk j hn hi h w S L ρv hx' (hr i (by simp [ho, Op.operands]))
  · rename_i n rows kk j hn hx hi
    refine givesA_pure fun w S L ρv hC hr => ?_
    have hx' := nrm_rel hC (hr x (by simp [ho, Op.operands]))
    rw [hx] at hx'
    exact data rows n kk j hn hi h w S L ρv hx'.1 (hr i (by simp [ho, Op.operands]))
  · cases h
theorem gives_index {t : TypeId} {x i : Operand} (ho : o.op = .index t x i) (h : indexA (e.P.underlying t) (ρ x) (ρ i) = some α) : GivesA e U base S0 m o ρ α := by
  unfold indexA at h
  split at h
  · rename_i s k j hk hx hi
    split at h
    · rename_i h1
      unfold byteA at h
      split at h
      · rename_i b h3
        injection h with h; subst h
        refine givesA_pure fun w S L ρv hC hr => ?_
        have hx' := hr x (by simp [ho, Op.operands])
        have hi' := hr i (by simp [ho, Op.operands])
        rw [hx] at hx'
        rw [hi] at hi'
        have hi' := lit_val hi'
        have hx' := lit_val hx'
        exact ⟨.int .u8 b.toNat, by simp [execOp, ho, hi', hx', Instr.index, asIntOf, underlying, hk, h1, h3, Result.andThen], by simp [ARel, DRel, Rep]⟩
      · cases h
    · cases h
  · cases h
theorem gives_binOp {op : BinOp} {t t' : TypeId} {x y : Operand} (ho : o.op = .binOp op t x y t') (h : binA e.P t op (ρ x) (ρ y) = some α) : GivesA e U base S0 m o ρ α := by
  unfold binA at h
  split at h
  · rename_i a b hx hy
    unfold litA at h
    split at h
    · rename_i v hv
      injection h with h; subst h
      refine givesA_pure fun w S L ρv hC hr => ?_
      have hx' := hr x (by simp [ho, Op.operands])
      have hy' := hr y (by simp [ho, Op.operands])
      rw [hx] at hx'
      rw [hy] at hy'
      have hx' := lit_val hx'
      have hy' := lit_val hy'
      have hb := binT_run (P := e.P) (t := t) (x := x) (y := y) hv w
      exact ⟨v, by simp only [execOp, ho, hx', hy']; rw [Sem.run_bind, hb]; rfl, by simp [ARel, DRel, Rep]⟩
    · cases h
  · cases h
theorem gives_unOp {op : UnOp} {t : TypeId} {x : Operand} (ho : o.op = .unOp op t x) (h : unA op (ρ x) = some α) : GivesA e U base S0 m o ρ α := by
  unfold unA at h
  split at h
  · rename_i a hx
    unfold litA at h
    split at h
    · rename_i v hv
      injection h with h; subst h
      refine givesA_pure fun w S L ρv hC hr => ?_
      have hx' := hr x (by simp [ho, Op.operands])
      rw [hx] at hx'
      have hx' := lit_val hx'
      exact ⟨v, by simp only [execOp, ho, hx']; rw [Sem.run_bind, unV_run hv]; rfl, by simp [ARel, DRel, Rep]⟩
    · cases h
  · cases h
theorem gives_extract {x : Operand} {i : Nat} (ho : o.op = .extract x i) (h : extractA i (ρ x) = some α) : GivesA e U base S0 m o ρ α := by
  unfold extractA at h
  split at h
  · rename_i xs hx
    unfold dA at h
    split at h
    · rename_i r hi
      injection h with h; subst h
      refine givesA_pure fun w S L ρv hC hr => ?_
      have hx' := hr x (by simp [ho, Op.operands])
      rw [hx] at hx'
      obtain ⟨vs, hv, hd⟩ := hx'
      obtain ⟨v, h1, h2⟩ := hd.get hi
      exact ⟨v, by simp [execOp, ho, hv, Instr.extract, h1, Result.andThen], h2⟩
    · cases h
  · cases h
theorem gives_nilCheck {x : Operand} (ho : o.op = .nilCheck x) (h : nilA (ρ x) = some α) : GivesA e U base S0 m o ρ α := by
  unfold nilA at h
  split at h
  · rename_i cs hx
    injection h with h; subst h
    refine givesA_pure fun w S L ρv hC hr => ?_
    have hx' := hr x (by simp [ho, Op.operands])
    rw [hx] at hx'
    have hx2 := hx'
    simp only [ARel, DRel, Rep] at hx2
    obtain ⟨b, off, hv, hr'⟩ := hx2
    exact ⟨ρv x, by simp [execOp, ho, hv], hx'⟩
  · rename_i f cs hx
    injection h with h; subst h
    refine givesA_pure fun w S L ρv hC hr => ?_
    have hx' := hr x (by simp [ho, Op.operands])
    rw [hx] at hx'
    have hx2 := hx'
    simp only [ARel, DRel, Rep] at hx2
    obtain ⟨us, hv, hr'⟩ := hx2
    exact ⟨ρv x, by simp [execOp, ho, hv], hx'⟩
  · rename_i k off hx
    injection h with h; subst h
    refine givesA_pure fun w S L ρv hC hr => ?_
    have hx' := hr x (by simp [ho, Op.operands])
    rw [hx] at hx'
    have hx2 : ρv x = .pointer (some ⟨L.b k, off, none⟩) := hx'
    exact ⟨ρv x, by simp [execOp, ho, hx2], hx'⟩
  · rename_i p hx
    injection h with h; subst h
    refine givesA_pure fun w S L ρv hC hr => ?_
    have hx' := hr x (by simp [ho, Op.operands])
    rw [hx] at hx'
    have hx2 := lit_val hx'
    exact ⟨ρv x, by simp [execOp, ho, hx2], hx'⟩
  · cases h
theorem gives_convert {s d : TypeId} {x : Operand} (ho : o.op = .convert s d x) (h : convA e.P s d (ρ x) = some α) : GivesA e U base S0 m o ρ α := by
  unfold convA at h
  split at h
  · rename_i k0 n hx
    split at h
    · rename_i d1 k h1 h2
      injection h with h; subst h
      refine givesA_pure fun w S L ρv hC hr => ?_
      have hx' := hr x (by simp [ho, Op.operands])
      rw [hx] at hx'
      have hx' := lit_val hx'
      unfold intKindT at h2
      split at h2
      · rename_i k' hk
        injection h2 with h2; subst h2
        refine ⟨.int k' (k'.wrap n), ?_, by simp [ARel, DRel, Rep]⟩
        simp [execOp, ho, hx', convert, underlying, h1, hk, Conv.intToInt, Result.andThen]
      · cases h2
    · cases h
  · cases h
theorem places_run {P : Program} {w : World} : ∀ (l : List Field), (∀ f ∈ l, (P.info? f.type).isSome) → ∃ ps : List (Nat × Nat), (l.mapM (m := Sem) fun (f : Field) => do pure (f.offset, ← sizeOf f.type)).run P w = .ok ps w ∧ ∀ (i : Nat) (f : Field) (n : Nat), l[i]? = some f → sizeT P f.type = some n → ps[i]? = some (f.offset, n)
  | [], _ => ⟨[], by simp, by simp⟩
  | f :: l, h => by
    obtain ⟨ps, h1, h2⟩ := places_run l (fun g hg => h g (by simp [hg]))
    obtain ⟨i0, hi0⟩ := Option.isSome_iff_exists.1 (h f (by simp))
    refine ⟨(f.offset, i0.size) :: ps, ?_, ?_⟩
    · rw [List.mapM_cons]
      have hs : (sizeOf f.type).run P w = .ok i0.size w := by simp [sizeOf, typeInfo, hi0, Result.andThen]
      simp only [Sem.run_bind, hs, Result.andThen_ok, Sem.run_pure]
      rw [h1]
      simp
    · intro i g n hg hn
      cases i with
      | zero => simp at hg; subst hg; simp [sizeT, hi0] at hn; simp [hn]
      | succ i => simpa using h2 i g n (by simpa using hg) hn
theorem gives_buildG {t : TypeId} {parts : Array (Nat × Operand)} (ho : o.op = .build t parts) {i : TypeInfo} {v : Value} {cs cs' : List C} (hi : e.P.info? t = some i) (hv : i.zero = some v) (hst : isStructT e.P t = true) (hok : cs.all okCell = true) (hrep : ∀ (w : World) (S : Nat → Prop), RepVals w S cs v.cells.toList)
    (hf : fillA e.P t cs (parts.toList.map fun p => (p.1, ρ p.2)) = some cs') : GivesA e U base S0 m o ρ (.d (.agg cs')) := by
  refine givesA_pure fun w S L ρv hC hr => ?_
  unfold isStructT at hst
  split at hst
  · rename_i fs hu
    obtain ⟨ps, hp1, hp2⟩ := places_run (P := e.P) (w := w) fs.toList (fun f hf => List.all_eq_true.1 hst f hf)
    have hpl : ∀ f off ft n, offT e.P t f = some (off, ft) → sizeT e.P ft = some n → (fun i => ps.toArray[i]?) f = some (off, n) := by
      intro f off ft n ho hn
      unfold offT at ho
      rw [hu] at ho
      simp only at ho
      split at ho
      · rename_i g hg
        split at ho
        · split at ho
          · cases ho
          · simp only [Option.some.injEq, Prod.mk.injEq] at ho
            obtain ⟨rfl, rfl⟩ := ho
            simpa using hp2 f g n (by simpa using hg) hn
        · cases ho
      · cases ho
    obtain ⟨cells', hc1, hc2, hc3⟩ := fillA_spec (w := w) (S := S) (L := L) (place := fun i => ps.toArray[i]?) hpl (vs := parts.toList.map fun p => (p.1, ρv p.2)) (cells := v.cells) hf (hrep w S) hok (by simp) (mapv2 (fun p hp => hr p.2 (by simp [ho, Op.operands]; exact ⟨p.1, by simpa using hp⟩)))
    refine ⟨.agg cells', ?_, cells'.toList, by simp, hc2⟩
    have hm : (fs.mapM (m := Sem) fun (f : Field) => do pure (f.offset, ← sizeOf f.type)).run e.P w = .ok ps.toArray w := by
      rw [Array.mapM_eq_mapM_toList]
      simp only [Sem.run_map, hp1, Result.andThen_ok]
    have hc1' : Instr.fill (fun x => ps.toArray[x]?) v.cells (parts.map fun (p : Nat × Operand) => (p.1, ρv p.2)).toList = some cells' := by
      rw [Array.toList_map]; exact hc1
    have hb : (Instr.build t (parts.map fun (p : Nat × Operand) => (p.1, ρv p.2))).run e.P w = .ok (.agg cells') w := by
      unfold Instr.build
      simp only [Sem.run_bind, zeroValue, typeInfo, Sem.run_pure, Result.andThen_ok, run_program, hi, hv, underlying, hu]
      rw [hm]
      simp only [Result.andThen_ok, hc1', Sem.run_pure]
    simp only [execOp, ho, Sem.run_bind]
    have e1 : (parts.map fun x => match x with | (i, x) => (i, ρv x)) = parts.map fun (p : Nat × Operand) => (p.1, ρv p.2) := rfl
    rw [e1, hb]
    rfl
  · cases hst
theorem gives_build {t : TypeId} {parts : Array (Nat × Operand)} (ho : o.op = .build t parts) (h : buildA e.P t (parts.toList.map fun p => (p.1, ρ p.2)) = some α) : GivesA e U base S0 m o ρ α := by
  unfold buildA at h
  split at h
  · rename_i cs hst hz
    split at h
    · rename_i hok
      unfold aggA at h
      split at h
      · rename_i cs' hf
        injection h with h; subst h
        unfold zeroT at hz
        simp only [Option.map_eq_some_iff, Option.bind_eq_some_iff] at hz
        obtain ⟨v, ⟨i, hi, hv⟩, rfl⟩ := hz
        exact gives_buildG ho hi hv hst hok (fun w S => RepVals_zero v.cells.toList) hf
      · cases h
    · cases h
  · cases h
/-- The zero value of a type, to the cell. -/
def zeroX (P : Program) (t : TypeId) : Option (List C) := ((P.info? t).bind (·.zero)).map fun v => v.cells.toList.map .lit
theorem RepVals_lits {w : World} {S : Nat → Prop} : ∀ (l : List Value), RepVals w S (l.map .lit) l
  | [] => by simp [RepVals]
  | v :: vs => by simp only [List.map_cons, RepVals, Rep]; exact ⟨trivial, RepVals_lits vs⟩
theorem zip_parts : ∀ (l : List (Nat × Value)) (i : Nat), l.map (·.1) = List.range' i l.length → l = ((l.map (·.2)).zipIdx i).map fun x => (x.2, x.1)
  | [], i, _ => rfl
  | (j, v) :: l, i, h => by
    simp only [List.map_cons, List.length_cons, List.range'_succ, List.cons.injEq] at h
    obtain ⟨rfl, h2⟩ := h
    simp only [List.map_cons, List.zipIdx_cons]
    rw [← zip_parts l (j + 1) h2]
theorem gives_buildSlice {t : TypeId} {n : Nat} {parts : Array (Nat × Operand)} (ho : o.op = .buildSlice t n parts) (h : buildSliceA (bytesT e.P t) n (parts.toList.map fun p => (p.1, ρ p.2)) = some α) (he : e.Ok) : GivesA e U base S0 m o ρ α := by
  unfold buildSliceA at h
  split at h
  · rename_i ety sz by' hb
    split at h
    · rename_i hn
      unfold clipA at h
      split at h
      · rename_i rows hp
        injection h with h; subst h
        intro w S L ρv hC hr
        obtain ⟨i, z, hu, hi, hz, hsz, hby, hzs, hs0, _⟩ := bytesT_spec hb
        simp only [List.length_map, Array.length_toList] at hn
        obtain ⟨q1, q2, q3, q4, q5⟩ := partsA_spec (w := w) (S := S) (L := L) (vs := parts.toList.map fun p => ρv p.2) hp (by simp) (mapv (fun p hp => hr p.2 (by simp [ho, Op.operands]; exact ⟨p.1, by simpa using hp⟩)))
        simp only [List.length_map, Array.length_toList, List.map_map] at q1 q3
        generalize hvs : (parts.toList.map fun p => ρv p.2) = vs at q4 q5
        have hvl : vs.length = n := by rw [← hvs]; simp [hn.1]
        have hparts : (parts.map fun (p : Nat × Operand) => (p.1, ρv p.2)).toList = (vs.zipIdx 0).map fun x => (x.2, x.1) := by
          have := zip_parts (parts.map fun (p : Nat × Operand) => (p.1, ρv p.2)).toList 0 (by simpa [Function.comp_def] using q3)
          rw [this, ← hvs]
          simp [Function.comp_def]
        have hbs : (Instr.buildSlice t n (parts.map fun (p : Nat × Operand) => (p.1, ρv p.2))).run e.P w = .ok (.slice (some ⟨w.heap.size, 0, none⟩) n n) (w.alloc (.cells (vs.flatMap fun v => v.cells.toList).toArray ety)) := by
          by_cases h0 : n * i.size = 0
          · have hn0 : n = 0 := by rw [hsz] at h0; rcases Nat.mul_eq_zero.1 h0 with h | h <;> omega
            have hvn : vs = [] := List.eq_nil_of_length_eq_zero (by omega)
            have hpe : (parts.map fun (p : Nat × Operand) => (p.1, ρv p.2)).toList = [] := by rw [hparts, hvn]; rfl
            have hsm : ¬ (16777216 < n * i.size) := by omega
            simp only [Instr.buildSlice, Sem.run_bind, underlying, run_program, Result.andThen_ok, hu, Sem.run_pure, sizeOf, typeInfo, hi, hpe]
            subst hn0
            simp [Instr.fill, newRow, hvn, Result.andThen, Array.range_zero']
          · have hfill := Go.Great.fill_whole hs0 vs ((Array.range (n * i.size)).map (z.cells[· % z.cells.size]!)) q4 (by simp [hvl, hsz])
            refine run_buildSlice w t ety n _ _ i z hu hi hz (by rw [hsz]; omega) h0 ?_
            rw [hparts, hsz] at *
            exact hfill
        have hcell : ∀ j u, (vs.flatMap fun v => v.cells.toList)[j]? = some u → (w.alloc (.cells (vs.flatMap fun v => v.cells.toList).toArray ety)).cell? ⟨w.heap.size, 0 + j, none⟩ = some u := fun j u hj => by
          rw [Nat.zero_add]; exact keepNew rfl (by simpa using hj)
        have hb0 : Below w.heap.size w (w.alloc (.cells (vs.flatMap fun v => v.cells.toList).toArray ety)) := belowA w _
        generalize hW : w.alloc (.cells (vs.flatMap fun v => v.cells.toList).toArray ety) = W at hbs hcell hb0
        have hzW : W.heap.size = w.heap.size + 1 := by rw [← hW]; simp
        have hg : e.G W := he.keep _ _ hb0.size (fun b hE => hb0.block b (Nat.lt_of_lt_of_le (hC.ein b hE) hC.bsz)) hC.g
        have hkp : Kept e.D e.E w.heap.size w W := Kept.of_below hb0 (fun _ => by rw [← hW]; exact Nat.le_refl _)
        have hC' : Cls e U base S0 m W (fun b => S b ∨ (w.heap.size ≤ b ∧ b < W.heap.size)) L := hC.later hkp hg (fun _ h => .inl h) (fun _ h => h)
        have hq5 : RepVals W (fun b => S b ∨ (w.heap.size ≤ b ∧ b < W.heap.size)) rows.flatten (vs.flatMap fun v => v.cells.toList) := RepVals.keep2 hkp.size (hC.cell hkp) (fun _ h => .inl h) q5
        have hrun : (execOp ρv o).run e.P w = .ok (.value (.slice (some ⟨w.heap.size, 0, none⟩) n n)) W := by
          simp only [execOp, ho, Sem.run_bind]
          have e1 : (parts.map fun x => match x with | (i, x) => (i, ρv x)) = parts.map fun (p : Nat × Operand) => (p.1, ρv p.2) := rfl
          rw [e1, hbs]
          rfl
        unfold gives
        rw [hrun]
        refine ⟨_, ⟨fun _ h => .inl h, fun _ h => h.elim .inl (fun q => .inr q.1)⟩, hC', hkp, ?_⟩
        simp only [ARel, DRel, Rep]
        refine ⟨⟨some ⟨w.heap.size, 0, none⟩, n, n, rfl, by omega, Nat.le_refl _, ?_, fun h0 => ⟨w.heap.size, 0, rfl, .inr ⟨Nat.le_refl _, by omega⟩, by omega, ?_⟩⟩, _, _, rfl⟩
        · have : n * 1 ≤ n * sz := Nat.mul_le_mul_left n hs0
          unfold maxLen
          omega
        · exact RepRows.of_flat (RepRow.of_vals _ _ 0 hq5 hcell)
      · cases h
    · cases h
  · cases h
theorem loA_spec {w : World} {S : Nat → Prop} {L : Lay} {ρv : Operand → Value} {x : Option Operand} {l : Int} (h : loA (x.map ρ) = some l) (hr : ∀ y, x = some y → ARel w S L (ρ y) (ρv y)) : (x = none ∧ l = 0) ∨ (x.map ρv = some (.int .i64 l)) := by
  cases x with
  | none => simp [loA] at h; exact .inl ⟨rfl, h.symm⟩
  | some y =>
    simp only [Option.map_some, loA] at h
    unfold intA at h
    split at h
    · rename_i j hj
      injection h with h; subst h
      have := hr y rfl
      rw [hj] at this
      exact .inr (by simp [lit_val this])
    · cases h
theorem hiA_spec {w : World} {S : Nat → Prop} {L : Lay} {ρv : Operand → Value} {x : Option Operand} {l : Int} {n : Nat} (h : hiA n (x.map ρ) = some l) (hr : ∀ y, x = some y → ARel w S L (ρ y) (ρv y)) : (x = none ∧ l = n) ∨ (x.map ρv = some (.int .i64 l)) := by
  cases x with
  | none => simp [hiA] at h; exact .inl ⟨rfl, h.symm⟩
  | some y =>
    simp only [Option.map_some, hiA] at h
    unfold intA at h
    split at h
    · rename_i j hj
      injection h with h; subst h
      have := hr y rfl
      rw [hj] at this
      exact .inr (by simp [lit_val this])
    · cases h
theorem RepRows.sub {w : World} {S : Nat → Prop} {b n off : Nat} {rows : List (List C)} (hl : rowsLen n rows) (h : RepRows w S b off rows) (l k : Nat) : RepRows w S b (off + l * n) ((rows.take k).drop l) := by
  by_cases hlk : l < rows.length
  · have e1 := flat_len hl
    have h1 := h.flat
    have e2 : rows.flatten.drop (l * n) = (rows.drop l).flatten := by
      have : rows.flatten = (rows.take l).flatten ++ (rows.drop l).flatten := by rw [← List.flatten_append, List.take_append_drop]
      have hl2 : (rows.take l).flatten.length = l * n := by rw [flat_len (n := n) (fun x hx => hl x (List.mem_of_mem_take hx)), List.length_take]; congr 1; omega
      rw [this, ← hl2, List.drop_left]
    have h2 := h1.drop (l * n)
    rw [e2] at h2
    have h3 : RepRows w S b (off + l * n) (rows.drop l) := RepRows.of_flat h2
    rw [List.drop_take]
    have : ∀ (rs : List (List C)) (o k : Nat), RepRows w S b o rs → RepRows w S b o (rs.take k) := by
      intro rs
      induction rs with
      | nil => intro o k h; simp [RepRows]
      | cons r rs ih =>
        intro o k h
        cases k with
        | zero => simp [RepRows]
        | succ k => simp only [RepRows, List.take_succ_cons] at h ⊢; exact ⟨h.1, ih _ k h.2⟩
    exact this _ _ _ h3
  · have : (rows.take k).drop l = [] := by apply List.drop_eq_nil_of_le; simp; omega
    rw [this]; simp [RepRows]
theorem gives_slice {t : TypeId} {x : Operand} {lo hi mx : Option Operand} (ho : o.op = .slice t x lo hi mx) (h : sliceOpA e.P t (ρ x) (lo.map ρ) (hi.map ρ) (mx.map ρ) = some α) : GivesA e U base S0 m o ρ α := by
  have hx0 : x ∈ o.op.operands := by simp [ho, Op.operands]
  have hlo0 : ∀ y, lo = some y → y ∈ o.op.operands := fun y hy => by simp [ho, Op.operands, hy]
  have hhi0 : ∀ y, hi = some y → y ∈ o.op.operands := fun y hy => by simp [ho, Op.operands, hy]
  have hmx0 : ∀ y, mx = some y → y ∈ o.op.operands := fun y hy => by simp [ho, Op.operands, hy]
  unfold sliceOpA at h
  split at h
  · rename_i n hn
    split at h
    · rename_i rows hx
      split at h
      · rename_i hrb
        unfold dA at h
        split at h
        · rename_i D hD
          injection h with h; subst h
          refine givesA_pure fun w S L ρv hC hr => ?_
          have hx' := hr x hx0
          have hrep : Rep w S (.sl rows) (ρv x) := by
            unfold dataSl at hx
            split at hx
            · rename_i r hq; injection hx with hx; subst hx; rw [hq] at hx'; exact hx'
            · rename_i r hq; injection hx with hx; subst hx; rw [hq] at hx'; exact hx'.1
            · cases hx
          have hel : ∃ ety i, e.P.underlying t = some (.slice ety) ∧ e.P.info? ety = some i ∧ i.size = n := by
            unfold elemT at hn
            split at hn
            · rename_i ety hu
              simp only [Option.map_eq_some_iff] at hn
              obtain ⟨i, hi, hs⟩ := hn
              exact ⟨ety, i, hu, hi, hs⟩
            · cases hn
          obtain ⟨ety, i, hu, hi', hsz⟩ := hel
          simp only [Rep] at hrep
          obtain ⟨a, len, cap, hv, hlen, hc, hm, h4⟩ := hrep
          have hrl := rowsB_iff.1 hrb.1
          have key : ∀ (l hh mm : Nat), l ≤ hh → hh ≤ rows.length → hh ≤ mm → mm ≤ cap → Rep w S (.sl ((rows.take hh).drop l)) (sliced a l hh mm n) := by
            intro l hh mm k1 k2 k3 k4
            simp only [Rep, sliced]
            refine ⟨_, _, _, rfl, by simp; omega, by omega, by omega, fun h0 => ?_⟩
            obtain ⟨b, off, rfl, hs, hb, hrows⟩ := h4 (by omega)
            refine ⟨b, off + l * n, ?_, hs, hb, hrows.sub hrl l hh⟩
            rw [if_neg (by omega)]
            simp [Addr.add_at]
          have hlo := fun l (hq : loA (lo.map ρ) = some l) => loA_spec (w := w) (S := S) (L := L) (ρv := ρv) hq (fun y hy => hr y (hlo0 y hy))
          have hhi := fun l (hq : hiA rows.length (hi.map ρ) = some l) => hiA_spec (w := w) (S := S) (L := L) (ρv := ρv) hq (fun y hy => hr y (hhi0 y hy))
          unfold sliceA at hD
          split at hD
          · rename_i l hh q1 q2 q3
            split at hD
            · rename_i hb
              injection hD with hD; subst hD
              have hmn : mx = none := by simpa using q3
              refine ⟨sliced a l.toNat hh.toNat cap n, ?_, key l.toNat hh.toNat cap (by omega) (by omega) (by omega) (Nat.le_refl _)⟩
              have hbnd : (Instr.sliceBounds true len cap (lo.map ρv) (hi.map ρv) (mx.map ρv)).run e.P w = .ok (l.toNat, hh.toNat, cap) w := by
                subst hmn
                have eh : (hh.toNat : Int) = hh := Int.toNat_of_nonneg (by omega)
                have b1 : 0 ≤ hh := by omega
                have b2 : hh ≤ (cap : Int) := by omega
                have b3 : 0 ≤ l := hb.1
                have b4 : l ≤ hh := hb.2.1
                rcases hlo l q1 with ⟨rfl, rfl⟩ | e1 <;> rcases hhi hh q2 with ⟨rfl, e2⟩ | e2
                · simp [Instr.sliceBounds, e2, Result.andThen, hlen]
                · simp [Instr.sliceBounds, e2, Result.andThen, run_sliceBound, b1, b2]
                · have b5 : l ≤ (len : Int) := by omega
                  simp [Instr.sliceBounds, e1, e2, Result.andThen, run_sliceBound, b3, b5, hlen]
                · simp [Instr.sliceBounds, e1, e2, Result.andThen, run_sliceBound, b1, b2, b3, b4, eh]
              simp only [execOp, ho, Sem.run_bind, hv, Instr.sliceAt, Instr.slice, underlying, run_program, Result.andThen_ok, hu, Sem.run_pure, hbnd, sizeOf, typeInfo, hi', hsz, sliced]
            · cases hD
          · rename_i l hh mm q1 q2 q3
            split at hD
            · rename_i hb
              injection hD with hD; subst hD
              have hmh : mm = hh := hb.2.2.2
              subst hmh
              rename_i mm
              refine ⟨sliced a l.toNat mm.toNat mm.toNat n, ?_, key l.toNat mm.toNat mm.toNat (by omega) (by omega) (Nat.le_refl _) (by omega), _, _, rfl⟩
              have q3' : ∃ y, mx = some y ∧ intA (ρ y) = some mm := by
                cases mx with
                | none => simp at q3
                | some y => exact ⟨y, rfl, by simpa using q3⟩
              obtain ⟨y, rfl, q4⟩ := q3'
              have hy := hr y (hmx0 y rfl)
              unfold intA at q4
              split at q4
              · rename_i j hj
                injection q4 with q4; subst q4
                rw [hj] at hy
                have hy := lit_val hy
                have eh : (j.toNat : Int) = j := Int.toNat_of_nonneg (by omega)
                have b1 : 0 ≤ j := by omega
                have b2 : j ≤ (cap : Int) := by omega
                have b3 : 0 ≤ l := hb.1
                have b4 : l ≤ j := hb.2.1
                have hbnd : (Instr.sliceBounds true len cap (lo.map ρv) (hi.map ρv) (some (ρv y))).run e.P w = .ok (l.toNat, j.toNat, j.toNat) w := by
                  rcases hlo l q1 with ⟨rfl, rfl⟩ | e1 <;> rcases hhi j q2 with ⟨rfl, e2⟩ | e2
                  · simp at hrb
                  · simp [Instr.sliceBounds, hy, e2, Result.andThen, run_sliceBound, b1, b2, eh]
                  · simp at hrb
                  · simp [Instr.sliceBounds, hy, e1, e2, Result.andThen, run_sliceBound, b1, b2, b3, b4, eh]
                simp only [execOp, ho, Sem.run_bind, hv, Instr.sliceAt, Instr.slice, underlying, run_program, Result.andThen_ok, hu, Sem.run_pure, Option.map_some, hbnd, sizeOf, typeInfo, hi', hsz, sliced]
              · cases q4
            · cases hD
          · cases hD
        · cases h
      · cases h
    · cases h
  · rename_i hn
    split at h
    · rename_i hst
      split at h
      · rename_i s hs
        unfold dA at h
        split at h
        · rename_i D hD
          injection h with h; subst h
          refine givesA_pure fun w S L ρv hC hr => ?_
          have hx' := hr x hx0
          unfold strA at hs
          split at hs
          · rename_i s' hs'
            injection hs with hs; subst hs
            rw [hs'] at hx'
            have hx' := lit_val hx'
            have hmn : mx = none := by simpa using hst.2
            subst hmn
            have hu : e.P.underlying t = some .string := by
              have := hst.1
              unfold isStrD at this
              split at this
              · rename_i h; exact h
              · cases this
            unfold substrA at hD
            split at hD
            · rename_i l hh q1 q2
              split at hD
              · rename_i hb
                injection hD with hD; subst hD
                have hlo := loA_spec (w := w) (S := S) (L := L) (ρv := ρv) q1 (fun y hy => hr y (hlo0 y hy))
                have hhi := hiA_spec (w := w) (S := S) (L := L) (ρv := ρv) q2 (fun y hy => hr y (hhi0 y hy))
                refine ⟨.string (s'.extract l.toNat hh.toNat), ?_, by simp [ARel, DRel, Rep]⟩
                have eh : (hh.toNat : Int) = hh := Int.toNat_of_nonneg (by omega)
                have b1 : 0 ≤ hh := by omega
                have b2 : hh ≤ (s'.size : Int) := by omega
                have b3 : 0 ≤ l := hb.1
                have b4 : l ≤ hh := hb.2.1
                have hbnd : (Instr.sliceBounds false s'.size s'.size (lo.map ρv) (hi.map ρv) none).run e.P w = .ok (l.toNat, hh.toNat, s'.size) w := by
                  rcases hlo with ⟨rfl, rfl⟩ | e1 <;> rcases hhi with ⟨rfl, e2⟩ | e2
                  · simp [Instr.sliceBounds, e2, Result.andThen]
                  · simp [Instr.sliceBounds, e2, Result.andThen, run_sliceBound, b1, b2]
                  · have b5 : l ≤ (s'.size : Int) := by omega
                    simp [Instr.sliceBounds, e1, e2, Result.andThen, run_sliceBound, b3, b5]
                  · simp [Instr.sliceBounds, e1, e2, Result.andThen, run_sliceBound, b1, b2, b3, b4, eh]
                simp only [execOp, ho, Sem.run_bind, hx', Instr.sliceAt, Instr.slice, underlying, run_program, Result.andThen_ok, hu, Sem.run_pure, Option.map_none, Option.isSome_none, Bool.false_eq_true, if_false, hbnd]
              · cases hD
            · cases hD
          · cases hs
        · cases h
      · cases h
    · cases h
theorem gives_makeFunc {f : FuncId} {caps : Array Operand} (ho : o.op = .makeFunc (.func f) #[] caps) (h : fnA f (csA (caps.toList.map ρ)) = some α) : GivesA e U base S0 m o ρ α := by
  unfold fnA at h
  split at h
  · rename_i cs hcs
    injection h with h; subst h
    refine givesA_pure fun w S L ρv hC hr => ?_
    have h1 := RepVals_of (w := w) (S := S) (L := L) (vs := caps.toList.map ρv) hcs (by simp) (mapx (fun p hp => hr p (by simp [ho, Op.operands]; simpa using hp)))
    refine ⟨.func (.func f) #[] (caps.toList.map ρv).toArray, ?_, ?_⟩
    · have e1 : caps.map ρv = (caps.toList.map ρv).toArray := by apply Array.toList_inj.1; simp
      simp [execOp, ho, Instr.makeFunc, Result.andThen, e1]
    · simp only [ARel, DRel, Rep]
      exact ⟨_, rfl, h1⟩
  · cases h
theorem gives_len {args : Array Operand} {ts : Array TypeId} (ho : o.op = .call ⟨.builtin .len, args, ts⟩) (h : lenA m (lenT e.P ts) (args.toList.map fun x => nrm m (ρ x)) = some α) : GivesA e U base S0 m o ρ α := by
  unfold lenA at h
  split at h
  · rename_i p n cap hlt hxs
    injection h with h; subst h
    refine givesA_pure fun w S L ρv hC hr => ?_
    obtain ⟨x, hx1, hx2⟩ := List.map_eq_singleton_iff.1 hxs
    have hx' := nrm_rel hC (hr x (by simp [ho, Op.operands, Call.operands]; rw [← Array.mem_toList_iff, hx1]; simp))
    rw [hx2] at hx'
    have hv := lit_val hx'
    have ha : args.map ρv = #[ρv x] := by
      apply Array.toList_inj.1
      simp [hx1]
    unfold lenT at hlt
    split at hlt
    · rename_i t ht
      split at hlt
      · rename_i el hu
        refine ⟨.int .i64 n, ?_, by simp [ARel, DRel, Rep]⟩
        simp [execOp, ho, resolve, invoke, builtin, Builtin.len_, ha, ht, underlying, hu, hv, goInt, Result.andThen]
      · cases hlt
      · cases hlt
    · cases hlt
  · rename_i y hne hlt hxs
    unfold lenS at h
    split at h
    · rename_i rows hsl
      injection h with h; subst h
      refine givesA_pure fun w S L ρv hC hr => ?_
      obtain ⟨x, hx1, hx2⟩ := List.map_eq_singleton_iff.1 hxs
      have hx' := nrm_rel hC (hr x (by simp [ho, Op.operands, Call.operands]; rw [← Array.mem_toList_iff, hx1]; simp))
      rw [hx2] at hx'
      obtain ⟨a, cap, hv, _, _⟩ := slA_spec hC hsl hx'
      have ha : args.map ρv = #[ρv x] := by
        apply Array.toList_inj.1
        simp [hx1]
      unfold lenT at hlt
      split at hlt
      · rename_i t ht
        split at hlt
        · rename_i el hu
          refine ⟨.int .i64 rows.length, ?_, by simp [ARel, DRel, Rep]⟩
          simp [execOp, ho, resolve, invoke, builtin, Builtin.len_, ha, ht, underlying, hu, hv, goInt, Result.andThen]
        · cases hlt
        · cases hlt
      · cases hlt
    · cases h
  · rename_i s hlt hxs
    injection h with h; subst h
    refine givesA_pure fun w S L ρv hC hr => ?_
    obtain ⟨x, hx1, hx2⟩ := List.map_eq_singleton_iff.1 hxs
    have hx' := nrm_rel hC (hr x (by simp [ho, Op.operands, Call.operands]; rw [← Array.mem_toList_iff, hx1]; simp))
    rw [hx2] at hx'
    have hx' := lit_val hx'
    have ha : args.map ρv = #[ρv x] := by
      apply Array.toList_inj.1
      simp [hx1]
    unfold lenT at hlt
    split at hlt
    · rename_i t ht
      split at hlt
      · cases hlt
      · rename_i hu
        refine ⟨.int .i64 s.size, ?_, by simp [ARel, DRel, Rep]⟩
        simp [execOp, ho, resolve, invoke, builtin, Builtin.len_, ha, ht, underlying, hu, hx', goInt, Result.andThen]
      · cases hlt
    · cases hlt
  · cases h
theorem map_two {α β : Type} {f : α → β} {l : List α} {x y : β} (h : l.map f = [x, y]) : ∃ p q, l = [p, q] ∧ f p = x ∧ f q = y := by
  match l, h with
  | [p, q], h => simp at h; exact ⟨p, q, rfl, h.1, h.2⟩
theorem gives_max {args : Array Operand} {ts : Array TypeId} (ho : o.op = .call ⟨.builtin .max, args, ts⟩) (h : maxA (args.toList.map ρ) = some α) : GivesA e U base S0 m o ρ α := by
  unfold maxA at h
  split at h
  · rename_i x y hxs
    injection h with h; subst h
    refine givesA_pure fun w S L ρv hC hr => ?_
    obtain ⟨p, q, ha, hxs⟩ := map_two hxs
    · have hp := hr p (by simp [ho, Op.operands, Call.operands]; rw [← Array.mem_toList_iff, ha]; simp)
      have hq := hr q (by simp [ho, Op.operands, Call.operands]; rw [← Array.mem_toList_iff, ha]; simp)
      rw [hxs.1] at hp
      rw [hxs.2] at hq
      have hp := lit_val hp
      have hq := lit_val hq
      have ha' : args.map ρv = #[ρv p, ρv q] := by
        apply Array.toList_inj.1
        simp [ha]
      refine ⟨.int .i64 (if y > x then y else x), ?_, by simp [ARel, DRel, Rep]⟩
      simp [execOp, ho, resolve, invoke, builtin, Builtin.max_, Builtin.max2, ha', hp, hq, Result.andThen]
  · cases h
theorem gives_min {args : Array Operand} {ts : Array TypeId} (ho : o.op = .call ⟨.builtin .min, args, ts⟩) (h : minA (args.toList.map ρ) = some α) : GivesA e U base S0 m o ρ α := by
  unfold minA at h
  split at h
  · rename_i x y hxs
    injection h with h; subst h
    refine givesA_pure fun w S L ρv hC hr => ?_
    obtain ⟨p, q, ha, hxs⟩ := map_two hxs
    · have hp := hr p (by simp [ho, Op.operands, Call.operands]; rw [← Array.mem_toList_iff, ha]; simp)
      have hq := hr q (by simp [ho, Op.operands, Call.operands]; rw [← Array.mem_toList_iff, ha]; simp)
      rw [hxs.1] at hp
      rw [hxs.2] at hq
      have hp := lit_val hp
      have hq := lit_val hq
      have ha' : args.map ρv = #[ρv p, ρv q] := by
        apply Array.toList_inj.1
        simp [ha]
      refine ⟨.int .i64 (if y < x then y else x), ?_, by simp [ARel, DRel, Rep]⟩
      simp [execOp, ho, resolve, invoke, builtin, Builtin.min_, Builtin.min2, ha', hp, hq, Result.andThen]
  · cases h
theorem stepV_gives (he : e.Ok) (h : stepV e.P m ρ o.op = some α) : GivesA e U base S0 m o ρ α := by
  unfold stepV at h
  split at h
  · rename_i x ho
    injection h with h; subst h
    exact givesA_pure fun w S L ρv hC hr => ⟨ρv x, by simp [execOp, ho], hr x (by simp [ho, Op.operands])⟩
  · rename_i c a b ho
    unfold pickA at h
    split at h
    · rename_i t hc
      injection h with h; subst h
      refine givesA_pure fun w S L ρv hC hr => ?_
      have h1 := hr c (by simp [ho, Op.operands])
      rw [hc] at h1
      have h1 := lit_val h1
      cases t
      · exact ⟨ρv b, by simp [execOp, ho, h1, asBool], by simpa using hr b (by simp [ho, Op.operands])⟩
      · exact ⟨ρv a, by simp [execOp, ho, h1, asBool], by simpa using hr a (by simp [ho, Op.operands])⟩
    · cases h
  · rename_i ho; exact gives_load ho h
  · rename_i ho; exact gives_fieldAddr ho h
  · rename_i ho; exact gives_field ho h
  · rename_i ho; exact gives_indexAddr ho h
  · rename_i ho; exact gives_index ho h
  · rename_i ho; exact gives_binOp ho h
  · rename_i ho; exact gives_unOp ho h
  · rename_i ho; exact gives_extract ho h
  · rename_i ho; exact gives_nilCheck ho h
  · rename_i ho; exact gives_convert ho h
  · rename_i ho; exact gives_slice ho h
  · rename_i ho; exact gives_build ho h
  · rename_i ho; exact gives_buildSlice ho h he
  · rename_i ho; exact gives_makeFunc ho h
  · rename_i ho; exact gives_len ho h
  · rename_i ho; exact gives_max ho h
  · rename_i ho; exact gives_min ho h
  · cases h
end
end Go.Proofs.YtpbikjkjfojjiaaGreat
