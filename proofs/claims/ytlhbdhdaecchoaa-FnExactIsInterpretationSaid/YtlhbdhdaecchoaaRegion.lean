/-
  A region that draws its order: each of its first n operations gives a value of which something lasting can be said, whatever the order; what follows them comes in one order. No function of the program is named here.
-/
import Derived.Test.YtlhbdhdaecchoaaKeep
import Derived.StillTail
set_option linter.unusedSimpArgs false
set_option linter.unusedVariables false
namespace Go.Proofs.Ytlhbdhdaecchoaa
open Go.RowKit

/-- What an operation gives, from the operands' values: a value and a world. -/
def gives (P : Program) (o : Oper) (ρ : Operand → Value) (w : World) (R : Value → World → Prop) : Prop :=
  match (execOp ρ o).run P w with
  | .ok (.value v) w' => R v w'
  | .ok .skip w' => R undef w'
  | .ok (.enter f args) w' => Calls P f args w' (fun e w'' => ∃ v, e = .returned v ∧ R v w'')
  | _ => False
theorem gives_wp {P : Program} {o : Oper} {a : Act} {w : World} {R : Value → World → Prop} {K : Act → World → Prop} {Q : Exit → Act → World → Prop} (h : gives P o a.eval w R) (hK : ∀ v w', R v w' → K (a.put o.dst v) w') : o.wp P a w K Q := by
  unfold gives at h
  unfold Oper.wp
  generalize (execOp a.eval o).run P w = r at *
  cases r with
  | ok n w' =>
    cases n <;> simp only at h <;> simp only [Oper.upon]
    case value u => exact hK _ _ h
    case skip => exact hK _ _ h
    case enter f args => exact h.mono fun e w'' ⟨v, he, hr⟩ => by subst he; exact hK _ _ hr
  | halt x w' => simp only at h

def slotsOf (o : Oper) : List Nat := o.op.operands.toList.filterMap fun | .tmp t => some t | _ => none
abbrev Says := Value → List Value → Nat → Nat → World → Prop

/-- The first n operations: none is guarded, each has a place of its own, and looks at no other's place but of one that it waits for. -/
def depB (ops : Array Oper) (n : Nat) : Bool :=
  (List.range n).all fun i => match ops[i]? with
    | none => false
    | some o => o.guard.isNone && o.dst.isSome && o.after.all (fun e => !Region.binds .any e || decide (e.on < i)) &&
      (List.range n).all fun j => match ops[j]? with
        | none => false
        | some p => (j == i || p.dst != o.dst) && (!(slotsOf o).any (fun t => p.dst == some t) || Region.waitsFor .any ops i j)

/-- The values of the slots: in the places of the operations those that were given, elsewhere the old ones. -/
def putAll (a : Act) : List (Nat × Value) → Act
  | [] => a
  | (d, v) :: r => putAll (a.put (some d) v) r

structure Inv (P : Program) (ops : Array Oper) (n : Nat) (Gs : List Says) (C : World → Prop) (a0 : Act) (w0 : World) (listed : Array Bool) (a : Act) (w : World) (lo hi : Nat → Nat) : Prop where
  head : HeadInv .any ops n listed
  size : a.tmps.size = a0.tmps.size
  defers : a.defers = a0.defers
  out : ∀ t, (∀ (i : Nat) (o : Oper), i < n → ops[i]? = some o → o.dst ≠ some t) → a.tmps.getD t undef = a0.tmps.getD t undef
  cls : C w
  below : Below w0.heap.size w0 w
  done : ∀ (i : Nat) (o : Oper) (d : Nat) (g : Says), i < n → listed.getD i false = true → ops[i]? = some o → o.dst = some d → Gs[i]? = some g →
    g (a.tmps.getD d undef) ((slotsOf o).map (fun t => a.tmps.getD t undef)) (lo i) (hi i) w ∧ w0.heap.size ≤ lo i ∧ lo i ≤ hi i ∧ hi i ≤ w.heap.size
  apart : ∀ i j, i < n → j < n → i ≠ j → listed.getD i false = true → listed.getD j false = true → hi i ≤ lo j ∨ hi j ≤ lo i

/-- One operation: from what is said of its operands, what it gives. -/
def StepD (P : Program) (ops : Array Oper) (n : Nat) (Gs : List Says) (C : World → Prop) (a0 : Act) (o : Oper) (g : Says) : Prop :=
  ∀ (a : Act) (w : World), C w →
    (∀ t, (∀ (i : Nat) (o' : Oper), i < n → ops[i]? = some o' → o'.dst ≠ some t) → a.tmps.getD t undef = a0.tmps.getD t undef) →
    (∀ (i : Nat) (o' : Oper) (d : Nat) (g' : Says), i < n → ops[i]? = some o' → o'.dst = some d → d ∈ slotsOf o → Gs[i]? = some g' → ∃ lo hi, g' (a.tmps.getD d undef) ((slotsOf o').map (fun t => a.tmps.getD t undef)) lo hi w) →
    gives P o a.eval w (fun v w' => C w' ∧ Below w.heap.size w w' ∧ g v ((slotsOf o).map (fun t => a.tmps.getD t undef)) w.heap.size w'.heap.size w')

theorem countP_lt {α : Type} {p q : α → Bool} : ∀ {l : List α}, (∀ x ∈ l, q x = true → p x = true) → ∀ {i : α}, i ∈ l → p i = true → q i = false → l.countP q < l.countP p
  | [], _, _, hi, _, _ => by simp at hi
  | x :: xs, h, i, hi, hp, hq => by
    have hle : xs.countP q ≤ xs.countP p := List.countP_mono_left (fun y hy => h y (by simp [hy]))
    simp only [List.countP_cons]
    rcases List.mem_cons.1 hi with rfl | hi
    · simp [hp, hq]; omega
    · have := countP_lt (l := xs) (fun y hy => h y (by simp [hy])) hi hp hq
      have hx := h x (by simp)
      cases hqx : q x
      · simp; omega
      · rw [hx hqx]; simp; omega

theorem getD_put_self {a : Act} {d : Nat} {v : Value} (h : d < a.tmps.size) : (a.put (some d) v).tmps.getD d undef = v := by simp [Act.put, h]
theorem getD_put_ne {a : Act} {d t : Nat} {v : Value} (h : d ≠ t) : (a.put (some d) v).tmps.getD t undef = a.tmps.getD t undef := by simp [Act.put, Array.getElem?_setIfInBounds_ne h]
theorem getD_ftt {listed : Array Bool} {i : Nat} (h : i < listed.size) : listed.getD i true = listed.getD i false := by simp [h]

section
variable {P : Program} {ops : Array Oper} {n : Nat} {Gs : List Says} {C : World → Prop} {a0 : Act} {w0 : World}
theorem depB.get (h : depB ops n = true) {i : Nat} (hi : i < n) : ∃ o d, ops[i]? = some o ∧ o.guard = none ∧ o.dst = some d ∧ (∀ e ∈ o.after, Region.binds .any e = true → e.on < i) ∧
    ∀ (j : Nat) (p : Oper), j < n → ops[j]? = some p → (j ≠ i → p.dst ≠ some d) ∧ (∀ t ∈ slotsOf o, p.dst = some t → Region.waitsFor .any ops i j = true) := by
  have h1 := List.all_eq_true.1 h i (List.mem_range.2 hi)
  cases ho : ops[i]? with
  | none => rw [ho] at h1; simp at h1
  | some o =>
    rw [ho] at h1
    simp only [Bool.and_eq_true] at h1
    obtain ⟨⟨⟨h1, h2⟩, h3⟩, h4⟩ := h1
    obtain ⟨d, hd⟩ := Option.isSome_iff_exists.1 h2
    refine ⟨o, d, rfl, by simpa using h1, hd, fun e he hb => ?_, fun j p hj hp => ?_⟩
    · have := Array.all_eq_true'.1 h3 e he
      simpa [hb] using this
    · have h5 := List.all_eq_true.1 h4 j (List.mem_range.2 hj)
      rw [hp] at h5
      simp only [Bool.and_eq_true, Bool.or_eq_true, beq_iff_eq, bne_iff_ne, ne_eq, Bool.not_eq_true'] at h5
      refine ⟨fun hne hpd => ?_, fun t ht hpt => ?_⟩
      · rcases h5.1 with h | h
        · exact hne h
        · exact h (hpd.trans hd.symm)
      · rcases h5.2 with h | h
        · have := List.any_eq_false.1 h t ht
          simp [hpt] at this
        · exact h

theorem Inv.step (hD : depB ops n = true) (hlen : Gs.length = n) (hsz : ∀ (i : Nat) (o : Oper) (d : Nat), i < n → ops[i]? = some o → o.dst = some d → d < a0.tmps.size)
    (hG : ∀ (i : Nat) (g : Says), Gs[i]? = some g → ∀ v ds lo hi w w', Below w.heap.size w w' → g v ds lo hi w → g v ds lo hi w')
    {listed : Array Bool} {a : Act} {w w' : World} {lo hi : Nat → Nat} {i : Nat} {o : Oper} {d : Nat} {g : Says} {v : Value} (hI : Inv P ops n Gs C a0 w0 listed a w lo hi) (hi' : i < n) (ho : ops[i]? = some o) (hd : o.dst = some d) (hg : Gs[i]? = some g)
    (hr : i ∈ Region.ready .any ops listed) (hC : C w') (hb : Below w.heap.size w w') (hv : g v ((slotsOf o).map (fun t => a.tmps.getD t undef)) w.heap.size w'.heap.size w') :
    Inv P ops n Gs C a0 w0 (listed.setIfInBounds i true) (a.put o.dst v) w' (fun j => if j = i then w.heap.size else lo j) (fun j => if j = i then w'.heap.size else hi j) := by
  obtain ⟨hun, _, _, hall⟩ := mem_ready.1 hr
  obtain ⟨o2, d2, ho2, _, hd2, _, hdep⟩ := depB.get hD hi'
  rw [ho] at ho2
  injection ho2 with ho2
  subst ho2
  rw [hd] at hd2
  injection hd2 with hd2
  subst hd2
  have hdl : d < a.tmps.size := by rw [hI.size]; exact hsz i o d hi' ho hd
  have hls : i < listed.size := by
    rw [hI.head.size]; exact (Array.getElem?_eq_some_iff.1 ho).1
  rw [hd]
  have old : ∀ j, j ≠ i → (listed.setIfInBounds i true).getD j false = listed.getD j false := fun j hj => getD_set_ne false (Ne.symm hj)
  -- the operands of what is listed do not lie in the new place
  have safe : ∀ (j : Nat) (p : Oper), j < n → ops[j]? = some p → (listed.getD j false = true ∨ j = i) → ∀ t ∈ slotsOf p, d ≠ t := by
    intro j p hj hp hl t ht e
    subst e
    obtain ⟨p2, _, hp2, _, _, hback, hdep2⟩ := depB.get hD hj
    rw [hp] at hp2
    injection hp2 with hp2
    subst hp2
    have hw := (hdep2 i o hi' ho).2 d ht hd
    obtain ⟨p3, hp3, e, he, hbe, hon⟩ := Region.waitsFor_spec hw
    rw [hp] at hp3
    injection hp3 with hp3
    subst hp3
    rcases hl with hl | rfl
    · have := hI.head.closed j p hp hl e he hbe
      rw [hon, ← getD_ftt hls, hun] at this
      cases this
    · have := hback e he hbe
      omega
  have same : ∀ (j : Nat) (p : Oper), j < n → ops[j]? = some p → (listed.getD j false = true ∨ j = i) → (slotsOf p).map (fun t => (a.put (some d) v).tmps.getD t undef) = (slotsOf p).map (fun t => a.tmps.getD t undef) := fun j p hj hp hl =>
    List.map_congr_left fun t ht => getD_put_ne (safe j p hj hp hl t ht)
  have hwz := hb.size
  refine ⟨hI.head.set hr hi', by simp [Act.put, hI.size], by simp [Act.put, hI.defers], fun t ht => ?_, hC, hI.below.trans (hb.mono hI.below.size), fun j p dj gj hj hl hp hdj hgj => ?_, fun j k hj hk hne hlj hlk => ?_⟩
  · rw [getD_put_ne (fun e => ht i o hi' ho (by rw [hd, e]))]
    exact hI.out t ht
  · by_cases hji : j = i
    · subst hji
      rw [ho] at hp
      injection hp with hp
      subst hp
      rw [hd] at hdj
      injection hdj with hdj
      subst hdj
      rw [hg] at hgj
      injection hgj with hgj
      subst hgj
      rw [same j o hj ho (.inr rfl), getD_put_self hdl]
      simp only [if_true]
      exact ⟨hv, hI.below.size, hwz, Nat.le_refl _⟩
    · rw [old j hji] at hl
      simp only [hji, if_false]
      obtain ⟨h1, h2, h3, h4⟩ := hI.done j p dj gj hj hl hp hdj hgj
      have hne : d ≠ dj := fun e => (hdep j p hj hp).1 hji (by rw [hdj, e])
      rw [same j p hj hp (.inl hl), getD_put_ne hne]
      exact ⟨hG j gj hgj _ _ _ _ w w' hb h1, h2, h3, by omega⟩
  · by_cases hji : j = i
    · by_cases hki : k = i
      · omega
      · rw [old k hki] at hlk
        simp only [hji, hki, if_true, if_false]
        obtain ⟨p, dk, hp, _, hdk, _, _⟩ := depB.get hD hk
        have hgk : Gs[k]? = some Gs[k] := List.getElem?_eq_getElem (by omega)
        have := hI.done k p dk _ hk hlk hp hdk hgk
        omega
    · rw [old j hji] at hlj
      by_cases hki : k = i
      · simp only [hji, hki, if_true, if_false]
        obtain ⟨p, dk, hp, _, hdk, _, _⟩ := depB.get hD hj
        have hgk : Gs[j]? = some Gs[j] := List.getElem?_eq_getElem (by omega)
        have := hI.done j p dk _ hj hlj hp hdk hgk
        omega
      · rw [old k hki] at hlk
        simp only [hji, hki, if_false]
        exact hI.apart j k hj hk hne hlj hlk

/-- Of the operations that are not yet listed, the first can come up. -/
theorem first_ready (hD : depB ops n = true) {listed : Array Bool} (hh : HeadInv .any ops n listed) {i : Nat} (hi : i < n) (hun : listed.getD i true = false) : Region.ready .any ops listed ≠ [] := by
  induction i using Nat.strongRecOn with
  | _ i ih =>
    obtain ⟨o, d, ho, _, _, hback, _⟩ := depB.get hD hi
    by_cases hall : ∀ e ∈ o.after, Region.binds .any e = true → listed.getD e.on false = true
    · intro h0
      have := mem_ready.2 ⟨hun, o, ho, hall⟩
      rw [h0] at this
      cases this
    · simp only [Classical.not_forall] at hall
      obtain ⟨e, he, hb, hl⟩ := hall
      have hlt := hback e he hb
      have hs : e.on < listed.size := by rw [hh.size]; have := (Array.getElem?_eq_some_iff.1 ho).1; omega
      exact ih e.on hlt (by omega) (by rw [getD_ftt hs]; simpa using hl)

def headArr (m n : Nat) : Array Bool := (Array.range m).map fun i => decide (i < n)
theorem listed_eq {listed : Array Bool} (hh : HeadInv .any ops n listed) (hn : n ≤ ops.size) (h : ∀ i, i < n → listed.getD i true = true) : listed = headArr ops.size n := by
  apply Array.ext
  · simp [headArr, hh.size]
  · intro i h1 h2
    have e : listed[i] = listed.getD i true := by simp [h1]
    rw [e]
    by_cases hi : i < n
    · rw [h i hi]; simp [headArr, hi]
    · rw [hh.tail i (by omega) (by rw [← hh.size]; exact h1)]; simp [headArr, hi]

theorem wpAny_head (hD : depB ops n = true) (hlen : Gs.length = n) (hn : n ≤ ops.size) (hs : n < ops.size → Region.sinkB .any ops n = true ∧ Region.chainB .any ops n = true) (hsq : Region.seqB .any ops (ops.size - n) n (headArr ops.size n) = true)
    (hsz : ∀ (i : Nat) (o : Oper) (d : Nat), i < n → ops[i]? = some o → o.dst = some d → d < a0.tmps.size)
    (hG : ∀ (i : Nat) (g : Says), Gs[i]? = some g → ∀ v ds lo hi w w', Below w.heap.size w w' → g v ds lo hi w → g v ds lo hi w')
    (hst : ∀ (i : Nat) (o : Oper) (g : Says), i < n → ops[i]? = some o → Gs[i]? = some g → StepD P ops n Gs C a0 o g) {Q : Exit → Act → World → Prop}
    (hend : ∀ listed a w lo hi, Inv P ops n Gs C a0 w0 listed a w lo hi → (∀ i, i < n → listed.getD i false = true) → wpList P ops Q (ops.toList.drop n) a w) :
    ∀ (m : Nat) (listed : Array Bool) (a : Act) (w : World) (lo hi : Nat → Nat), Inv P ops n Gs C a0 w0 listed a w lo hi → (List.range n).countP (fun i => !listed.getD i true) = m → wpAny P .any ops Q (m + (ops.size - n)) listed a w
  | 0, listed, a, w, lo, hi, hI, hc => by
    have hall : ∀ i, i < n → listed.getD i true = true := fun i hi => by
      have := List.countP_eq_zero.1 hc i (List.mem_range.2 hi)
      simpa using this
    have he := listed_eq hI.head hn hall
    have hdl : (ops.toList.drop n).length = ops.size - n := by simp
    have hE := hend listed a w lo hi hI (fun i hi => by
      have hl : i < listed.size := by rw [hI.head.size]; omega
      rw [← getD_ftt hl]; exact hall i hi)
    have := wpAny_of_seq (md := .any) (Q' := Q) (ops.toList.drop n) n listed a w (fun j => by simp [List.getElem?_drop]) (by rw [hdl, he]; exact hsq) hE
    rw [hdl] at this
    simpa using this
  | m + 1, listed, a, w, lo, hi, hI, hc => by
    obtain ⟨i0, hi0, hu0⟩ : ∃ i, i < n ∧ listed.getD i true = false := by
      have : 0 < (List.range n).countP (fun i => !listed.getD i true) := by omega
      obtain ⟨i, hi, hp⟩ := List.countP_pos_iff.1 this
      exact ⟨i, List.mem_range.1 hi, by simpa using hp⟩
    rw [show m + 1 + (ops.size - n) = (m + (ops.size - n)) + 1 by omega]
    refine ⟨fun h0 => absurd h0 (first_ready hD hI.head hi0 hu0), fun i hr => ?_⟩
    obtain ⟨hun, oi, hoi, hall⟩ := mem_ready.1 hr
    have hin : i < n := by
      rcases Nat.lt_or_ge i n with h | h
      · exact h
      · have hns : n < ops.size := Nat.lt_of_le_of_lt h (Array.getElem?_eq_some_iff.1 hoi).1
        exact absurd hr (tail_waits (hs hns).1 (hs hns).2 hns hI.head _ i0 rfl hi0 hu0 i h)
    obtain ⟨o, d, ho, hgd, hd, _, _⟩ := depB.get hD hin
    have hg : Gs[i]? = some Gs[i] := List.getElem?_eq_getElem (by omega)
    have hls : i < listed.size := by rw [hI.head.size]; exact (Array.getElem?_eq_some_iff.1 ho).1
    have hS := hst i o _ hin ho hg a w hI.cls hI.out (fun j o' d' g' hj ho' hd' hmem hg' => by
      obtain ⟨o2, _, ho2, _, _, _, hdep⟩ := depB.get hD hin
      rw [ho] at ho2
      injection ho2 with ho2
      subst ho2
      have hw := (hdep j o' hj ho').2 d' hmem hd'
      obtain ⟨p3, hp3, e, he, hbe, hon⟩ := Region.waitsFor_spec hw
      rw [hoi] at hp3
      injection hp3 with hp3
      subst hp3
      have hl := hall e he hbe
      rw [hon] at hl
      exact ⟨_, _, (hI.done j o' d' g' hj hl ho' hd' hg').1⟩)
    unfold wpOp
    simp only [ho]
    have hwt : Region.wanted o (yielded ops a.tmps) = true := by simp [Region.wanted, hgd]
    rw [if_pos hwt]
    refine .inl (gives_wp hS fun v w' ⟨hC, hb, hv⟩ => ?_)
    refine wpAny_head hD hlen hn hs hsq hsz hG hst hend m _ _ _ _ _ (hI.step hD hlen hsz hG hin ho hd hg hr hC hb hv) ?_
    have h1 : (List.range n).countP (fun j => !(listed.setIfInBounds i true).getD j true) + 1 = (List.range n).countP (fun j => !listed.getD j true) := by
      have hperm := List.perm_cons_erase (List.mem_range.2 hin)
      rw [hperm.countP_eq, hperm.countP_eq, List.countP_cons, List.countP_cons]
      have hcong : ((List.range n).erase i).countP (fun j => !(listed.setIfInBounds i true).getD j true) = ((List.range n).erase i).countP (fun j => !listed.getD j true) := by
        refine List.countP_congr fun j hj => ?_
        have hne : j ≠ i := fun e => by
          subst e
          exact List.Nodup.not_mem_erase (List.nodup_range) hj
        rw [getD_set_ne true (Ne.symm hne)]
      rw [hcong, hun]
      simp [hls]
    omega

/-- All the facts on the operations' places, once they are done. -/
structure DoneD (ops : Array Oper) (n : Nat) (Gs : List Says) (w0 : World) (f : Nat → Value) (w : World) (lo hi : Nat → Nat) : Prop where
  done : ∀ (i : Nat) (o : Oper) (d : Nat) (g : Says), i < n → ops[i]? = some o → o.dst = some d → Gs[i]? = some g →
    g (f d) ((slotsOf o).map f) (lo i) (hi i) w ∧ w0.heap.size ≤ lo i ∧ lo i ≤ hi i ∧ hi i ≤ w.heap.size
  apart : ∀ i j, i < n → j < n → i ≠ j → hi i ≤ lo j ∨ hi j ≤ lo i

def dstsOf (l : List Oper) : List Nat := l.filterMap (·.dst)
theorem putAll_size : ∀ (l : List (Nat × Value)) (a : Act), (putAll a l).tmps.size = a.tmps.size
  | [], a => rfl
  | (d, v) :: r, a => by simp only [putAll]; rw [putAll_size r]; simp [Act.put]
theorem putAll_defers : ∀ (l : List (Nat × Value)) (a : Act), (putAll a l).defers = a.defers
  | [], a => rfl
  | (d, v) :: r, a => by simp only [putAll]; rw [putAll_defers r]; simp [Act.put]
theorem putAll_out : ∀ (l : List (Nat × Value)) (a : Act) (t : Nat), (∀ p ∈ l, p.1 ≠ t) → (putAll a l).tmps[t]? = a.tmps[t]?
  | [], a, t, _ => rfl
  | (d, v) :: r, a, t, h => by
    simp only [putAll]
    rw [putAll_out r _ t (fun p hp => h p (by simp [hp]))]
    simp [Act.put, Array.getElem?_setIfInBounds_ne (h (d, v) (by simp))]
theorem putAll_in (f : Nat → Value) : ∀ (ds : List Nat) (a : Act) (t : Nat), t ∈ ds → t < a.tmps.size → (putAll a (ds.map fun d => (d, f d))).tmps[t]? = some (f t)
  | [], _, _, h, _ => by simp at h
  | d :: ds, a, t, h, ht => by
    simp only [List.map_cons, putAll]
    by_cases hm : t ∈ ds
    · exact putAll_in f ds _ t hm (by simpa [Act.put] using ht)
    · have hdt : t = d := by
        rcases List.mem_cons.1 h with h | h
        · exact h
        · exact absurd h hm
      subst hdt
      rw [putAll_out _ _ _ (by intro p hp; obtain ⟨x, hx, rfl⟩ := List.mem_map.1 hp; intro e; have e' : x = t := e; exact hm (e' ▸ hx))]
      simp [Act.put, ht]

/-- **A region that draws its order, by what its operations say.** -/
theorem wp_region_dep {id : Nat} {l : List Oper} {Q : Exit → Act → World → Prop} (n : Nat) (Gs : List Says) (C : World → Prop) (hm : P.follows .mixedOrders = true)
    (hB : (depB l.toArray n && decide (n ≤ l.length) && (decide (n = l.length) || (Region.sinkB .any l.toArray n && Region.chainB .any l.toArray n)) && Region.seqB .any l.toArray (l.length - n) n (headArr l.length n)) = true)
    (hlen : Gs.length = n) (hsz : (dstsOf (l.take n)).all (fun d => decide (d < a0.tmps.size)) = true)
    (hC : C w0.drew)
    (hG : ∀ g ∈ Gs, ∀ v ds lo hi w w', Below w.heap.size w w' → g v ds lo hi w → g v ds lo hi w')
    (hst : ∀ (i : Nat) (o : Oper) (g : Says), i < n → l[i]? = some o → Gs[i]? = some g → StepD P l.toArray n Gs C a0 o g)
    (hend : ∀ (f : Nat → Value) w lo hi, C w → Below w0.heap.size w0 w → (∀ t, t ∉ dstsOf (l.take n) → f t = a0.tmps.getD t undef) → DoneD l.toArray n Gs w0 f w lo hi → wpList P l.toArray Q (l.drop n) (putAll a0 ((dstsOf (l.take n)).map fun d => (d, f d))) w) :
    (Code.region id l.toArray true).wp P Q a0 w0 := by
  simp only [Bool.and_eq_true, Bool.or_eq_true, decide_eq_true_eq] at hB
  obtain ⟨⟨⟨hD, hn⟩, hs⟩, hsq⟩ := hB
  have mem : ∀ (i : Nat) (o : Oper) (d : Nat), i < n → l.toArray[i]? = some o → o.dst = some d → d ∈ dstsOf (l.take n) := fun i o d hi ho hd =>
    List.mem_filterMap.2 ⟨o, List.mem_of_getElem? (i := i) (by rw [List.getElem?_take]; simpa [hi] using ho), hd⟩
  have hsz' : ∀ (i : Nat) (o : Oper) (d : Nat), i < n → l.toArray[i]? = some o → o.dst = some d → d < a0.tmps.size := fun i o d hi ho hd => by
    have := List.all_eq_true.1 hsz d (mem i o d hi ho hd)
    simpa using this
  refine wp_region_any hm ?_
  have inv0 : Inv P l.toArray n Gs C a0 w0.drew (Array.replicate l.toArray.size false) a0 w0.drew (fun _ => 0) (fun _ => 0) :=
    ⟨⟨by simp, fun j oj _ hl => (by rw [getD_replicate_false] at hl; cases hl), fun t _ ht => getD_in (by simpa using ht) (getD_replicate_false _ _)⟩, rfl, rfl, fun _ _ => rfl, hC, Below.refl _ _,
      fun i o d g _ hl => (by rw [getD_replicate_false] at hl; cases hl), fun i j _ _ _ hl => (by rw [getD_replicate_false] at hl; cases hl)⟩
  have H := wpAny_head (P := P) (C := C) (a0 := a0) (w0 := w0.drew) (Q := Q) hD hlen (by simpa using hn) (fun h => by
      rcases hs with hs | hs
      · simp at h; omega
      · exact hs) (by simpa using hsq) hsz' (fun i g hg => hG g (List.mem_of_getElem? hg)) (fun i o g hi ho hg => hst i o g hi (by simpa using ho) hg) (fun listed a w lo hi hI hall => ?_) n _ a0 w0.drew _ _ inv0 ?_
  · have e : n + (l.toArray.size - n) = l.toArray.size := by simp; omega
    rw [e] at H
    exact H
  · have ea : a = putAll a0 ((dstsOf (l.take n)).map fun d => (d, a.tmps.getD d undef)) := by
      have et : a.tmps = (putAll a0 ((dstsOf (l.take n)).map fun d => (d, a.tmps.getD d undef))).tmps := by
        apply Array.ext_getElem?
        intro t
        by_cases ht : t ∈ dstsOf (l.take n)
        · have hlt : t < a0.tmps.size := by
            have := List.all_eq_true.1 hsz t ht
            simpa using this
          rw [putAll_in _ _ _ _ ht hlt]
          have : t < a.tmps.size := by rw [hI.size]; exact hlt
          simp [this]
        · rw [putAll_out _ _ _ (by intro p hp; obtain ⟨x, hx, rfl⟩ := List.mem_map.1 hp; intro e; have e' : x = t := e; exact ht (e' ▸ hx))]
          have ho := hI.out t (fun i o hi ho hd => ht (mem i o t hi ho hd))
          by_cases hlt : t < a0.tmps.size
          · have : t < a.tmps.size := by rw [hI.size]; exact hlt
            simp [this, hlt] at ho
            simp [this, hlt, ho]
          · have : ¬ t < a.tmps.size := by rw [hI.size]; exact hlt
            rw [Array.getElem?_eq_none (by omega), Array.getElem?_eq_none (by omega)]
      have ed : a.defers = (putAll a0 ((dstsOf (l.take n)).map fun d => (d, a.tmps.getD d undef))).defers := by rw [putAll_defers]; exact hI.defers
      obtain ⟨at', ad⟩ := a
      generalize putAll a0 _ = b at et ed ⊢
      obtain ⟨bt, bd⟩ := b
      simp only at et ed
      rw [et, ed]
    have := hend (fun d => a.tmps.getD d undef) w lo hi hI.cls ((belowD w0).trans hI.below) (fun t ht => hI.out t (fun i o hi ho hd => ht (mem i o t hi ho hd)))
      ⟨fun i o d g hi ho hd hg => hI.done i o d g hi (hall i hi) ho hd hg, fun i j hi hj hne => hI.apart i j hi hj hne (hall i hi) (hall j hj)⟩
    rw [← ea] at this
    simpa using this
  · rw [List.countP_eq_length.2]
    · simp
    · intro i hi
      have hi' := List.mem_range.1 hi
      have hs : i < (Array.replicate l.toArray.size false).size := by simp; omega
      rw [getD_ftt hs, getD_replicate_false]
      rfl

theorem out_of {t : Nat} (h : (List.range n).all (fun i => (ops[i]?).all (fun o => o.dst != some t)) = true) : ∀ (i : Nat) (o' : Oper), i < n → ops[i]? = some o' → o'.dst ≠ some t := by
  intro i o hi ho
  have := List.all_eq_true.1 h i (List.mem_range.2 hi)
  rw [ho] at this
  simpa using this
/-- What the steps are, one after the other. -/
def StepsD (P : Program) (ops : Array Oper) (n : Nat) (Gs : List Says) (C : World → Prop) (a0 : Act) : List Oper → List Says → Prop
  | o :: os, g :: gs => StepD P ops n Gs C a0 o g ∧ StepsD P ops n Gs C a0 os gs
  | _, _ => True
theorem StepsD.get : ∀ {os : List Oper} {gs : List Says}, StepsD P ops n Gs C a0 os gs → ∀ (i : Nat) (o : Oper) (g : Says), os[i]? = some o → gs[i]? = some g → StepD P ops n Gs C a0 o g
  | [], _, _, _, _, _, h, _ => by simp at h
  | _ :: _, [], _, _, _, _, _, h => by simp at h
  | o :: os, g :: gs, h, 0, o', g', h1, h2 => by
    simp at h1 h2
    subst h1 h2
    exact h.1
  | o :: os, g :: gs, h, i + 1, o', g', h1, h2 => StepsD.get h.2 i o' g' (by simpa using h1) (by simpa using h2)
def DoneAll (n : Nat) (w0 : World) (f : Nat → Value) (w : World) (lo hi : Nat → Nat) : Nat → List Oper → List Says → Prop
  | i, o :: os, g :: gs => (g (f (o.dst.getD 0)) ((slotsOf o).map f) (lo i) (hi i) w ∧ w0.heap.size ≤ lo i ∧ lo i ≤ hi i ∧ hi i ≤ w.heap.size) ∧ DoneAll n w0 f w lo hi (i + 1) os gs
  | _, _, _ => True
theorem DoneAll.of {f : Nat → Value} {w : World} {lo hi : Nat → Nat} {l : List Oper} (h : DoneD l.toArray n Gs w0 f w lo hi) (hds : (l.take n).all (fun o => o.dst.isSome) = true) : ∀ (os : List Oper) (gs : List Says) (i : Nat), i + os.length ≤ n → (∀ j, j < os.length → os[j]? = l[i + j]?) → (∀ j, gs[j]? = Gs[i + j]?) → DoneAll n w0 f w lo hi i os gs
  | [], _, _, _, _, _ => by simp [DoneAll]
  | _ :: _, [], _, _, _, _ => by simp [DoneAll]
  | o :: os, g :: gs, i, hi, ho, hg => by
    simp only [List.length_cons] at hi
    have h0 : l[i]? = some o := by simpa using (ho 0 (by simp)).symm
    have hd : o.dst.isSome = true := List.all_eq_true.1 hds o (List.mem_of_getElem? (i := i) (by rw [List.getElem?_take]; simp [h0]; omega))
    obtain ⟨d, hd⟩ := Option.isSome_iff_exists.1 hd
    refine ⟨?_, DoneAll.of h hds os gs (i + 1) (by omega) (fun j hj => by have := ho (j + 1) (by simp; omega); simpa [Nat.add_assoc, Nat.add_comm 1 j] using this) (fun j => by have := hg (j + 1); simpa [Nat.add_assoc, Nat.add_comm 1 j] using this)⟩
    have := h.done i o d g (by omega) (by simpa using h0) hd (by simpa using (hg 0).symm)
    rw [hd]
    exact this
/-- The rule, with the steps and what is known at the end written out. -/
theorem wp_region_says {id : Nat} {l : List Oper} {Q : Exit → Act → World → Prop} (n : Nat) (Gs : List Says) (C : World → Prop) (hm : P.follows .mixedOrders = true)
    (hB : (depB l.toArray n && decide (n ≤ l.length) && (decide (n = l.length) || (Region.sinkB .any l.toArray n && Region.chainB .any l.toArray n)) && Region.seqB .any l.toArray (l.length - n) n (headArr l.length n)) = true)
    (hlen : Gs.length = n) (hsz : (dstsOf (l.take n)).all (fun d => decide (d < a0.tmps.size)) = true)
    (hC : C w0.drew)
    (hG : ∀ g ∈ Gs, ∀ v ds lo hi w w', Below w.heap.size w w' → g v ds lo hi w → g v ds lo hi w')
    (hst : StepsD P l.toArray n Gs C a0 (l.take n) Gs)
    (hend : ∀ (f : Nat → Value) w lo hi, C w → Below w0.heap.size w0 w → (∀ i j, i < n → j < n → i ≠ j → hi i ≤ lo j ∨ hi j ≤ lo i) → (∀ t, t ∉ dstsOf (l.take n) → f t = a0.tmps.getD t undef) → DoneAll n w0 f w lo hi 0 (l.take n) Gs → wpList P l.toArray Q (l.drop n) (putAll a0 ((dstsOf (l.take n)).map fun d => (d, f d))) w) :
    (Code.region id l.toArray true).wp P Q a0 w0 := by
  have hB' := hB
  simp only [Bool.and_eq_true, Bool.or_eq_true, decide_eq_true_eq] at hB'
  obtain ⟨⟨⟨hD, hn⟩, _⟩, _⟩ := hB'
  refine wp_region_dep n Gs C hm hB hlen hsz hC hG (fun i o g hi ho hg => StepsD.get hst i o g (by rw [List.getElem?_take]; simpa [hi] using ho) hg) (fun f w lo hi hC hb hf hd => ?_)
  refine hend f w lo hi hC hb hd.apart hf (DoneAll.of hd ?_ _ _ 0 (by simp; omega) (fun j hj => by simp at hj; rw [List.getElem?_take]; simp; omega) (fun j => by simp))
  refine List.all_eq_true.2 fun o ho => ?_
  obtain ⟨i, hi⟩ := List.mem_iff_getElem?.1 ho
  rw [List.getElem?_take] at hi
  split at hi
  · rename_i hin
    obtain ⟨o2, d, ho2, _, hd, _⟩ := depB.get hD hin
    have : l.toArray[i]? = some o := by simpa using hi
    rw [this] at ho2
    injection ho2 with ho2
    subst ho2
    rw [hd]
    rfl
  · cases hi
end
end Go.Proofs.Ytlhbdhdaecchoaa
