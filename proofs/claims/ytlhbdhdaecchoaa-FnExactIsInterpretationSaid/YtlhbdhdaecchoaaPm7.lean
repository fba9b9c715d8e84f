/-
  The plain machine is sound: code, and calls of functions. No function of the program is named here.
-/
import Derived.Test.YtlhbdhdaecchoaaPm6
set_option linter.unusedSimpArgs false
set_option linter.unusedVariables false
namespace Go.Proofs.Ytlhbdhdaecchoaa
open Go.RowKit

section
variable {e : Env} {w0 : World} {S0 : Nat → Prop} {nt : Nat}

theorem SimE.drew {σ : St} {a : Act} {w : World} (he : e.Ok) (h : SimE e w0 S0 nt σ a w) : SimE e w0 S0 nt σ a { w with drawn := w.drawn + 1 } := by
  obtain ⟨S, B, h⟩ := h
  have hk : Kept e.E w.heap.size w { w with drawn := w.drawn + 1 } := ⟨rfl, rfl, rfl, Nat.le_refl _, fun _ _ _ => rfl⟩
  exact ⟨S, B, h.later (h.cls.later hk (he.keep w _ (Nat.le_refl _) (fun _ _ => rfl) h.cls.g) (fun _ h => h) (fun _ h => .inl h)) hk (fun _ h => h)⟩
theorem region_draw (he : e.Ok) {id : Nat} {ops : Array Oper} (hB : drawB ops = true) {K : St → Prop} {Q : Exit → Act → World → Prop} (hQ : ∀ a w, Then e w0 S0 nt K a w → Q .normal a w) {σ : St} {a : Act} {w : World}
    (hd : ∀ o ∈ ops.toList, ∀ d, o.dst = some d → d < nt) (h : SimE e w0 S0 nt σ a w) (hp : pops e ops.toList ops.toList σ K) : (Code.region id ops true).wp e.P Q a w := by
  obtain ⟨k, _, hk⟩ := List.any_eq_true.1 hB
  generalize ops.size - k = n at hk
  simp only [regB, Bool.and_eq_true, Bool.or_eq_true, decide_eq_true_eq] at hk
  obtain ⟨⟨⟨hH, hn⟩, hs⟩, hsq⟩ := hk
  obtain ⟨S, B, h1⟩ := h.drew he
  refine wp_region_any he.mixed ?_
  have hsplit : ops.toList = ops.toList.take n ++ ops.toList.drop n := (List.take_append_drop n _).symm
  have hlen : (ops.toList.take n).length = n := by simp; omega
  have hp' : pops e ops.toList (ops.toList.take n ++ ops.toList.drop n) σ K := by rw [← hsplit]; exact hp
  obtain ⟨αs, hal, hch, hrest⟩ := pops_chain he w0.heap.size S0 ops.toList (ops.toList.drop n) (ops.toList.take n) σ (fun o ho => by
    obtain ⟨i, hi⟩ := List.mem_iff_getElem?.1 ho
    rw [List.getElem?_take] at hi
    split at hi
    · rename_i hin
      obtain ⟨o', d, hA⟩ := headB.get hH hin
      have : o' = o := by have := hA.op; rw [← Array.getElem?_toList, hi] at this; injection this with this; exact this.symm
      rw [← this]
      exact hA.quiet
    · cases hi) hp'
  rw [hlen] at hal
  have inv0 : InvA e w0 S0 nt σ.m ops n σ.s αs B (Array.replicate ops.size false) a { w with drawn := w.drawn + 1 } S :=
    ⟨⟨by simp, fun j oj _ hl => (by rw [getD_replicate_false] at hl; cases hl), fun t _ ht => getD_in (by simpa using ht) (getD_replicate_false _ _)⟩, h1.size, h1.defers, h1.cls, h1.kept, fun t _ => h1.rel t, fun i o d α _ hl => (by rw [getD_replicate_false] at hl; cases hl)⟩
  have H := wpAny_headA (e := e) (B := B) (Q := Q) he hH hn (fun hlt => by
      rcases hs with hs | hs
      · omega
      · exact hs) hsq (fun i o d hi ho hdd => hd o (List.mem_iff_getElem?.2 ⟨i, by simpa using ho⟩) d hdd) hal hch (fun listed a' w' S' hI hall => ?_) n _ a _ S inv0 ?_
  · rw [show n + (ops.size - n) = ops.size by omega] at H
    exact H
  · have hsim : SimE e w0 S0 nt ⟨after σ.s (ops.toList.take n) αs, σ.m⟩ a' w' := by
      refine ⟨S', B, hI.cls, fun t => ?_, hI.size, hI.defers, hI.kept⟩
      by_cases hex : ∃ (j : Nat) (p : Oper), j < n ∧ ops[j]? = some p ∧ p.dst = some t
      · obtain ⟨j, p, hj, hp, hpt⟩ := hex
        obtain ⟨p', d', hP⟩ := headB.get hH hj
        have hpp : p' = p := by have := hP.op; rw [hp] at this; injection this with this; exact this.symm
        subst hpp
        have hdt : d' = t := by have := hP.dst; rw [hpt] at this; injection this with this; exact this.symm
        subst hdt
        obtain ⟨α, hα⟩ : ∃ α, αs[j]? = some α := ⟨αs[j], List.getElem?_eq_getElem (by omega)⟩
        show ARel w' S' B (gs (after σ.s (ops.toList.take n) αs) d') _
        rw [gs_after_in (ops.toList.take n) αs σ.s j p' α (by rw [List.getElem?_take, if_pos hj]; simpa using hp) hα hpt (fun k q hk hq => by
          rw [List.getElem?_take] at hq
          split at hq
          · exact (hP.dep k q (by omega) (by simpa using hq)).1 hk
          · cases hq)]
        exact hI.done j p' d' α hj (hall j hj) hp hpt hα
      · have hno : ∀ (j : Nat) (p : Oper), j < n → ops[j]? = some p → p.dst ≠ some t := fun j p hj hp hd => hex ⟨j, p, hj, hp, hd⟩
        show ARel w' S' B (gs (after σ.s (ops.toList.take n) αs) t) _
        rw [gs_after_out _ _ _ (fun p hp => by
          obtain ⟨j, hj⟩ := List.mem_iff_getElem?.1 hp
          rw [List.getElem?_take] at hj
          split at hj
          · exact hno j p (by omega) (by simpa using hj)
          · cases hj)]
        exact hI.out t hno
    have := pops_wp he ops.toList hQ (ops.toList.drop n) _ a' w' (fun o ho => hd o (List.mem_of_mem_drop ho)) hsim hrest
    simpa using this
  · rw [List.countP_eq_length.2]
    · simp
    · intro i hi
      have hi' := List.mem_range.1 hi
      have hsz : i < (Array.replicate ops.size false).size := by simp; omega
      rw [getD_ftt hsz, getD_replicate_false]
      rfl

theorem gs_trimS (mask t : Nat) : ∀ (s : List (Nat × A)), gs (trimS mask s) t = gs s t ∨ gs (trimS mask s) t = .undef
  | [] => .inl rfl
  | (k, a) :: r => by
    have key : ∀ (s : List (Nat × A)), mask.testBit t = false → gs (trimS mask s) t = .undef := by
      intro s ht
      induction s with
      | nil => rfl
      | cons p s ih =>
        obtain ⟨k, a⟩ := p
        simp only [trimS]
        split
        · rename_i hk
          have : t ≠ k := fun e => by rw [e, hk] at ht; cases ht
          simp only [gs, this, if_false]
          exact ih
        · exact ih
    cases ht : mask.testBit t with
    | false => exact .inr (key _ ht)
    | true =>
      left
      have key2 : ∀ (s : List (Nat × A)), gs (trimS mask s) t = gs s t := by
        intro s
        induction s with
        | nil => rfl
        | cons p s ih =>
          obtain ⟨k, a⟩ := p
          simp only [trimS]
          split
          · simp only [gs, ih]
          · rename_i hk
            have : t ≠ k := fun e => hk (by rw [← e]; exact ht)
            simp only [gs, this, if_false]
            exact ih
      exact key2 _
theorem gs_weakS {s : List (Nat × A)} {t : Nat} : ∀ {r : List (Nat × A)}, weakS s r → gs r t = gs s t ∨ gs r t = .undef
  | [], _ => .inr rfl
  | (k, a) :: r, h => by
    simp only [weakS] at h
    simp only [gs]
    split
    · rename_i e; rw [e]; exact .inl h.1.symm
    · exact gs_weakS h.2
theorem gm_weakM {m : List (Nat × List C)} {t : Nat} : ∀ {r : List (Nat × List C)} {cs : List C}, weakM m r → gm r t = some cs → gm m t = some cs
  | [], _, _, h => by simp [gm] at h
  | (k, a) :: r, cs, h, hg => by
    simp only [weakM] at h
    simp only [gm] at hg
    split at hg
    · rename_i e; rw [e, h.1]; exact hg
    · exact gm_weakM h.2 hg
theorem SimE.weak {σ σ' : St} {a : Act} {w : World} (h : SimE e w0 S0 nt σ a w) (hs : ∀ t, gs σ'.s t = gs σ.s t ∨ gs σ'.s t = .undef) (hm : ∀ t cs, gm σ'.m t = some cs → gm σ.m t = some cs) : SimE e w0 S0 nt σ' a w := by
  obtain ⟨S, B, h⟩ := h
  refine ⟨S, B, ⟨h.cls.sin, h.cls.sfr, h.cls.ein, h.cls.bsz, fun k cs hk => h.cls.own k cs (hm k cs hk), fun k k' c c' h1 h2 => h.cls.inj k k' c c' (hm _ _ h1) (hm _ _ h2), h.cls.g⟩, fun t => ?_, h.size, h.defers, h.kept⟩
  rcases hs t with h1 | h1
  · rw [h1]; exact h.rel t
  · rw [h1]; trivial

theorem wp_loop_ghost {P : Program} {Q : Exit → Act → World → Prop} {c : Code} {ι : Type} (I : ι → Act → World → Prop) (μ : ι → Nat) (i0 : ι) {a : Act} {w : World} (h₀ : I i0 a w)
    (round : ∀ i a w, I i a w → c.wp P (Exit.then (fun a' w' => ∃ j, I j a' w' ∧ μ j < μ i) Q) a w) : (Code.loop c).wp P Q a w := by
  intro b k cs
  have key : ∀ n i a w, μ i = n → I i a w →
      ∃ e a' w', Q e a' w' ∧ Arrives P (lone (b.at a (.code c :: .inLoop c :: k)) cs w) b k cs e a' w' := by
    intro n
    induction n using Nat.strongRecOn with
    | _ n ih =>
      intro i a w hn hI
      obtain ⟨e, a₁, w₁, hq, harr⟩ := round i a w hI b (.inLoop c :: k) cs
      cases e with
      | normal =>
        obtain ⟨j, hI₁, hlt⟩ := hq
        obtain ⟨e₂, a₂, w₂, hq₂, harr₂⟩ := ih (μ j) (hn ▸ hlt) j a₁ w₁ rfl hI₁
        exact ⟨e₂, a₂, w₂, hq₂, .of_steps (Steps.trans harr (.one step_inLoop)) harr₂⟩
      | exit id => exact ⟨_, a₁, w₁, hq, .pass (x := .inLoop c) rfl (fun _ _ => .inl (by simp)) harr⟩
      | goto l => exact ⟨_, a₁, w₁, hq, .pass (x := .inLoop c) rfl (fun _ _ => .inl (by simp)) harr⟩
      | ret => exact ⟨_, a₁, w₁, hq, .pass (x := .inLoop c) rfl (fun _ _ => .inl (by simp)) harr⟩
      | panic ch => exact ⟨_, a₁, w₁, hq, .pass (x := .inLoop c) rfl (fun _ _ => .inl (by simp)) harr⟩
      | outgrown => exact ⟨_, a₁, w₁, hq, .pass (x := .inLoop c) rfl (fun _ _ => .inl (by simp)) harr⟩
  obtain ⟨e, a', w', hq, harr⟩ := key _ i0 a w rfl h₀
  exact ⟨e, a', w', hq, .of_steps (.one step_loop) harr⟩

def okCode (nt : Nat) : Code → Bool
  | .region _ ops draw => ops.toList.all (fun o => o.dst.all (fun d => decide (d < nt))) && (!draw || drawB ops)
  | .seq a b => okCode nt a && okCode nt b
  | .cond _ a b => okCode nt a && okCode nt b
  | .block _ c => okCode nt c
  | .loop c => okCode nt c
  | _ => true
def LQ (e : Env) (w0 : World) (S0 : Nat → Prop) (nt : Nat) (Q : PX → St → Prop) : Exit → Act → World → Prop
  | .normal, a, w => Then e w0 S0 nt (Q .normal) a w
  | .exit id, a, w => Then e w0 S0 nt (Q (.exit id)) a w
  | .ret, a, w => Then e w0 S0 nt (Q .ret) a w
  | _, _, _ => False
theorem pwp_wp (he : e.Ok) (mask : Nat) : ∀ (c : Code) (σ : St) (a : Act) (w : World) (Q : PX → St → Prop), okCode nt c = true → SimE e w0 S0 nt σ a w → pwp e mask c σ Q → c.wp e.P (LQ e w0 S0 nt Q) a w
  | .skip, σ, a, w, Q, _, h, hp => wp_skip ⟨σ, hp, h⟩
  | .region id ops draw, σ, a, w, Q, hok, h, hp => by
    simp only [okCode, Bool.and_eq_true] at hok
    have hd : ∀ o ∈ ops.toList, ∀ d, o.dst = some d → d < nt := fun o ho d hd => by
      have := List.all_eq_true.1 hok.1 o ho
      rw [hd] at this
      simpa using this
    have hQ : ∀ a w, Then e w0 S0 nt (fun σ' => Q .normal ⟨trimS mask σ'.s, σ'.m⟩) a w → LQ e w0 S0 nt Q .normal a w := fun a w ⟨σ', h1, h2⟩ =>
      ⟨_, h1, h2.weak (fun t => gs_trimS mask t σ'.s) (fun _ _ h => h)⟩
    simp only [pwp] at hp
    cases draw with
    | false =>
      refine wp_region_list ?_
      have := pops_wp he ops.toList hQ ops.toList σ a w hd h hp
      simpa using this
    | true => exact region_draw he (by simpa using hok.2) hQ hd h hp
  | .seq x y, σ, a, w, Q, hok, h, hp => by
    simp only [okCode, Bool.and_eq_true] at hok
    simp only [pwp] at hp
    refine wp_seq (wp_mono (pwp_wp he mask x σ a w _ hok.1 h hp) fun ex a' w' hq => ?_)
    cases ex with
    | normal => obtain ⟨σ', h1, h2⟩ := hq; exact pwp_wp he mask y σ' a' w' Q hok.2 h2 h1
    | exit id => exact hq
    | ret => exact hq
    | goto l => exact hq
    | panic ch => exact hq
    | outgrown => exact hq
  | .cond c x y, σ, a, w, Q, hok, h, hp => by
    simp only [okCode, Bool.and_eq_true] at hok
    simp only [pwp] at hp
    split at hp
    · rename_i t ht
      obtain ⟨S, B, h'⟩ := id h
      have h1 := h'.eval c
      rw [ht] at h1
      refine wp_cond h1.bool ?_
      cases t
      · simp only [Bool.false_eq_true, if_false] at hp ⊢; exact pwp_wp he mask y σ a w Q hok.2 h hp
      · simp only [if_true] at hp ⊢; exact pwp_wp he mask x σ a w Q hok.1 h hp
    · exact hp.elim
  | .block id c, σ, a, w, Q, hok, h, hp => by
    simp only [okCode] at hok
    simp only [pwp] at hp
    refine wp_block (wp_mono (pwp_wp he mask c σ a w _ hok h hp) fun ex a' w' hq => ?_)
    cases ex with
    | normal => exact hq
    | exit j =>
      obtain ⟨σ', h1, h2⟩ := hq
      simp only [Exit.inBlock]
      simp only at h1
      split
      · rename_i hj; rw [if_pos hj] at h1; exact ⟨σ', h1, h2⟩
      · rename_i hj; rw [if_neg hj] at h1; exact ⟨σ', h1, h2⟩
    | ret => exact hq
    | goto l => exact hq
    | panic ch => exact hq
    | outgrown => exact hq
  | .loop c, σ, a, w, Q, hok, h, hp => by
    simp only [okCode] at hok
    simp only [pwp] at hp
    obtain ⟨ι, st, ok, μ, x0, h0, hs0, hm0, hr⟩ := hp
    refine wp_loop_ghost (ι := ι) (fun x a w => ok x ∧ SimE e w0 S0 nt (st x) a w) μ x0 ⟨h0, h.weak (fun t => gs_weakS hs0) (fun t cs => gm_weakM hm0)⟩ fun x1 a1 w1 ⟨h1, h2⟩ => ?_
    refine wp_mono (pwp_wp he mask c (st x1) a1 w1 _ hok h2 (hr x1 h1)) fun ex a' w' hq => ?_
    cases ex with
    | normal =>
      obtain ⟨σ', ⟨y, h5, h3, h4, h6⟩, h7⟩ := hq
      exact ⟨y, ⟨h5, h7.weak (fun t => gs_weakS h3) (fun t cs => gm_weakM h4)⟩, h6⟩
    | exit id => exact hq
    | ret => exact hq
    | goto l => exact hq
    | panic ch => exact hq
    | outgrown => exact hq
  | .exit id, σ, a, w, Q, _, h, hp => wp_exit ⟨σ, hp, h⟩
  | .ret, σ, a, w, Q, _, h, hp => wp_ret ⟨σ, hp, h⟩
  | .rangeFunc .., _, _, _, _, _, _, hp => by simp [pwp] at hp
  | .scope _, _, _, _, _, _, _, hp => by simp [pwp] at hp
  | .label _, _, _, _, _, _, _, hp => by simp [pwp] at hp
  | .goto _, _, _, _, _, _, _, hp => by simp [pwp] at hp
  | .refuse _, _, _, _, _, _, _, hp => by simp [pwp] at hp
end

def initS : Nat → List D → List (Nat × A)
  | _, [] => []
  | k, x :: xs => (k, .d x) :: initS (k + 1) xs
theorem gs_initS : ∀ (xs : List D) (k t : Nat), gs (initS k xs) t = if k ≤ t then match xs[t - k]? with
      | some x => .d x
      | none => .undef
    else .undef
  | [], k, t => by simp [initS, gs]
  | x :: xs, k, t => by
    simp only [initS, gs]
    by_cases h1 : t = k
    · subst h1; simp
    · rw [gs_initS xs (k + 1) t]
      simp only [h1, if_false]
      by_cases h2 : k + 1 ≤ t
      · rw [if_pos h2, if_pos (by omega), show t - k = (t - (k + 1)) + 1 by omega]
        simp
      · rw [if_neg h2]
        by_cases h3 : k ≤ t
        · omega
        · rw [if_neg h3]
def resSlots : List ResultVar → Option (List Nat)
  | [] => some []
  | .tmp t :: r => (resSlots r).map (t :: ·)
  | _ :: _ => none
def resOk (s : List (Nat × A)) : List Nat → List D → Prop
  | [], [] => True
  | t :: ts, x :: xs => gs s t = .d x ∧ resOk s ts xs
  | _, _ => False
def retQ (slots : List Nat) (r : List D) : PX → St → Prop
  | .exit _, _ => False
  | _, σ => resOk σ.s slots r
theorem resSlots_run {P : Program} {w : World} (tmps : Array Value) : ∀ {l : List ResultVar} {ts : List Nat}, resSlots l = some ts →
    (l.mapM (m := Sem) fun (x : ResultVar) => match x with
      | .tmp t => (pure (tmps.getD t undef) : Sem Value)
      | .cell a t => do loadVar t (← asAddr (tmps.getD a undef))).run P w = .ok (ts.map fun t => tmps.getD t undef) w
  | [], ts, h => by simp [resSlots] at h; subst h; simp
  | .tmp t :: r, ts, h => by
    simp only [resSlots, Option.map_eq_some_iff] at h
    obtain ⟨us, h1, h2⟩ := h
    subst h2
    simp only [List.mapM_cons, Sem.run_bind, Sem.run_pure, Result.andThen_ok]
    rw [resSlots_run tmps h1]
    simp
  | .cell a t :: r, ts, h => by simp [resSlots] at h
theorem resOk_rel {w : World} {S : Nat → Prop} {B : Nat → Nat} {s : List (Nat × A)} {tmps : Array Value} (hr : ∀ t, ARel w S B (gs s t) (tmps.getD t undef)) : ∀ {ts : List Nat} {r : List D}, resOk s ts r → DsRel w S r (ts.map fun t => tmps.getD t undef)
  | [], [], _ => trivial
  | t :: ts, x :: xs, h => by
    simp only [resOk] at h
    have h1 := hr t
    rw [h.1] at h1
    exact ⟨h1, resOk_rel hr h.2⟩
  | [], _ :: _, h => by simp [resOk] at h
  | _ :: _, [], h => by simp [resOk] at h

/-- **From the plain machine to a contract.** -/
theorem con_of_pwp {e : Env} (he : e.Ok) {f : FuncId} {fn : Func} {c : Code} {args r : List D} {ts : List Nat} (mask : Nat) (hf : e.P.funcs[f]? = some fn) (hb : fn.body = some c) (hnm : (fn.name == "runtime.NumGoroutine") = false)
    (hok : okCode fn.ntmps c = true) (hal : Nat.ble args.length fn.ntmps = true) (hres : resSlots fn.results.toList = some ts) (h : pwp e mask c ⟨initS 0 args, []⟩ (retQ ts r)) : Con e f args r := by
  refine ⟨by unfold hasBody; rw [hf]; simp [hnm, hb], fun w S vs hS hE hG hvs => ?_⟩
  have hvl := hvs.len
  have hal := Nat.le_of_ble_eq_true hal
  refine calls_of_wp hf hb ?_
  have hsim : SimE e w S fn.ntmps ⟨initS 0 args, []⟩ { tmps := vs.toArray ++ Array.replicate (fn.ntmps - vs.toArray.size) undef, defers := [] } w := by
    refine ⟨S, fun _ => 0, ⟨hS, fun b hb => .inl hb, hE, Nat.le_refl _, fun k cs hk => by simp [gm] at hk, fun k k' cs cs' hk => by simp [gm] at hk, hG⟩, fun t => ?_, by simp; omega, rfl, Kept.refl _ _ _⟩
    show ARel w S _ (gs (initS 0 args) t) _
    rw [gs_initS]
    simp only [Nat.zero_le, if_true, Nat.sub_zero]
    cases hx : args[t]? with
    | none => trivial
    | some x =>
      obtain ⟨v, h1, h2⟩ := hvs.get hx
      have hlt : t < vs.length := (List.getElem?_eq_some_iff.1 h1).1
      have e1 : (vs.toArray ++ Array.replicate (fn.ntmps - vs.toArray.size) undef).getD t undef = v := by
        rw [Array.getD_eq_getD_getElem?, Array.getElem?_append_left (by simpa using hlt)]
        simp [h1]
      simp only [e1]
      exact h2
  refine wp_mono (pwp_wp he mask c _ _ w _ hok hsim h) fun ex a' w' hq => ?_
  have fin : ∀ σ', resOk σ'.s ts r → SimE e w S fn.ntmps σ' a' w' → a'.defers = [] ∧ ∃ v, (results fn a'.tmps).run e.P w' = .ok v w' ∧ ∃ u, Ending.returned v = .returned u ∧ Kept e.E w.heap.size w w' ∧ e.G w' ∧ ARel w' (fun b => S b ∨ (w.heap.size ≤ b ∧ b < w'.heap.size)) (fun _ => 0) (retA r) u := by
    intro σ' h1 ⟨S', B', h2⟩
    refine ⟨h2.defers, ?_⟩
    have hds := resOk_rel h2.rel h1
    have hds' : DsRel w' (fun b => S b ∨ (w.heap.size ≤ b ∧ b < w'.heap.size)) r (ts.map fun t => a'.tmps.getD t undef) := DsRel.keep (Nat.le_refl _) (fun _ _ _ => rfl) (fun b hb => by
      rcases h2.cls.sfr b hb with h | h
      · exact .inl h
      · exact .inr ⟨h, (h2.cls.sin b hb).1⟩) hds
    have hrun : (fn.results.mapM (m := Sem) fun (x : ResultVar) => match x with
      | .tmp t => (pure (a'.tmps.getD t undef) : Sem Value)
      | .cell a t => do loadVar t (← asAddr (a'.tmps.getD a undef))).run e.P w' = .ok (ts.map fun t => a'.tmps.getD t undef).toArray w' := by
      have := resSlots_run (P := e.P) (w := w') a'.tmps hres
      rw [Array.mapM_eq_mapM_toList]
      simp only [Sem.run_map, this, Result.andThen_ok]
    have hrun : (results fn a'.tmps).run e.P w' = .ok (if h : ((ts.map fun t => a'.tmps.getD t undef).toArray).size = 1 then ((ts.map fun t => a'.tmps.getD t undef).toArray)[0] else .tuple (ts.map fun t => a'.tmps.getD t undef).toArray) w' := by
      unfold results
      rw [Sem.run_bind]
      exact congrArg (fun (z : Result (Array Value)) => z.andThen (fun a w'' => Sem.run e.P (pure (if h : a.size = 1 then a[0] else Value.tuple a)) w'')) hrun
    match r, ts, hds', hrun with
    | [x], [t], hd, hrun =>
      simp only [List.map_cons, List.map_nil] at hrun hd
      exact ⟨a'.tmps.getD t undef, by rw [hrun]; simp, _, rfl, h2.kept, h2.cls.g, hd.1⟩
    | [], [], hd, hrun => exact ⟨.tuple #[], by rw [hrun]; simp, _, rfl, h2.kept, h2.cls.g, [], rfl, trivial⟩
    | x :: y :: r', t :: t' :: ts', hd, hrun =>
      exact ⟨.tuple ((t :: t' :: ts').map fun t => a'.tmps.getD t undef).toArray, by rw [hrun]; simp, _, rfl, h2.kept, h2.cls.g, _, rfl, hd⟩
    | [], _ :: _, hd, _ => simp [DsRel] at hd
    | _ :: _, [], hd, _ => simp [DsRel] at hd
    | [_], _ :: _ :: _, hd, _ => simp [DsRel] at hd
    | _ :: _ :: _, [_], hd, _ => simp [DsRel] at hd
  cases ex with
  | normal => obtain ⟨σ', h1, h2⟩ := hq; exact fin σ' h1 h2
  | ret => obtain ⟨σ', h1, h2⟩ := hq; exact fin σ' h1 h2
  | exit id => obtain ⟨σ', h1, h2⟩ := hq; exact h1.elim
  | goto l => exact hq.elim
  | panic ch => exact hq.elim
  | outgrown => exact hq.elim
end Go.Proofs.Ytlhbdhdaecchoaa
