/-
  Part of a proof: Rg, Rh, Sm, Mm, Ss2, Sd, Sa, Te, Gd, Sg, Tf, Tg, Th, Tk, Ti.
-/
import Derived.Test.YtkekkmpogmlopaaGreatBCandidateEquations0
import Derived.Test.YtkekkmpogmlopaaGreatBCandidateEquations1
import Derived.Test.YtkekkmpogmlopaaGreatBCandidateEquations2
import Derived.MapKept
import Derived.ChangeMaps5
import Derived.Laws.StructEq
set_option linter.unusedSimpArgs false
set_option linter.unusedVariables false
namespace Go.Proofs.YtkekkmpogmlopaaGreat
open Go.RowKit
section
variable {e : Env} {U : Nat -> Prop} {w0 : World} {S0 : Nat -> Prop} {nt : Nat} {ops : Array Oper} {n : Nat} {m : List (Nat × Bk)} {s : List (Nat × A)} {αs : List A} {L : Lay}
theorem wpAny_headT {J : Array Bool -> Act -> World -> (Nat -> Prop) -> Prop} (he : e.Ok) (hH : headB ops n = true) (hn : n <= ops.size) (hs : ∀ i, n <= i -> i < ops.size -> ∀ j, j < n -> Region.waitsFor .any ops i j = true)
    (hsz : ∀ (i : Nat) (o : Oper) (d : Nat), i < n -> ops[i]? = some o -> o.dst = some d -> d < nt) (hal : αs.length = n) (hch : Chain e U w0.heap.size S0 m ops.toList (ops.toList.take n) s αs) {Q : Exit -> Act -> World -> Prop} (hgo : GoStep e U w0 S0 nt m ops n s αs L J Q)
    (hsk : ∀ (listed : Array Bool) (a : Act) (w : World) (S : Nat -> Prop) (i : Nat) (o : Oper) (d : Nat), J listed a w S -> InvA e U w0 S0 nt m ops n s αs L listed a w S -> HeadAt ops n i o d -> i < n -> i ∈ Region.ready .any ops listed -> d < nt -> o.guard ≠ none -> J (listed.setIfInBounds i true) (a.put o.dst undef) w S)
    (hend : ∀ listed a w S, InvA e U w0 S0 nt m ops n s αs L listed a w S -> J listed a w S -> (∀ i, i < n -> listed.getD i false = true) -> wpAny e.P .any ops Q (ops.size - n) (headArr ops.size n) a w) :
    ∀ (k : Nat) (listed : Array Bool) (a : Act) (w : World) (S : Nat -> Prop), InvA e U w0 S0 nt m ops n s αs L listed a w S -> J listed a w S -> (List.range n).countP (fun i => !listed.getD i true) = k -> wpAny e.P .any ops Q (k + (ops.size - n)) listed a w
  | 0, listed, a, w, S, hI, hJ, hc => by
    have hall : ∀ i, i < n -> listed.getD i true = true := fun i hi => by
      have := List.countP_eq_zero.1 hc i (List.mem_range.2 hi)
      simpa using this
    have heq := listed_eq hI.head hn hall
    have hE := hend listed a w S hI hJ (fun i hi => by
      have hl : i < listed.size := by rw [hI.head.size]; omega
      rw [<- getD_ftt hl]; exact hall i hi)
    rw [Nat.zero_add, heq]
    exact hE
  | k + 1, listed, a, w, S, hI, hJ, hc => by
    obtain ⟨i0, hi0, hu0⟩ : ∃ i, i < n ∧ listed.getD i true = false := by
      have : 0 < (List.range n).countP (fun i => !listed.getD i true) := by omega
      obtain ⟨i, hi, hp⟩ := List.countP_pos_iff.1 this
      exact ⟨i, List.mem_range.1 hi, by simpa using hp⟩
    rw [show k + 1 + (ops.size - n) = (k + (ops.size - n)) + 1 by omega]
    refine ⟨fun h0 => absurd h0 (first_readyA hH hI.head hi0 hu0), fun i hr => ?_⟩
    obtain ⟨hun, oi, hoi, hall⟩ := mem_ready.1 hr
    have hin : i < n := by
      rcases Nat.lt_or_ge i n with h | h
      · exact h
      · have hns : n < ops.size := Nat.lt_of_le_of_lt h (Array.getElem?_eq_some_iff.1 hoi).1
        obtain ⟨oj, hoj, e1, he1, hb1, hon1⟩ := Region.waitsFor_spec (hs i h (Array.getElem?_eq_some_iff.1 hoi).1 i0 hi0)
        rw [hoi] at hoj
        injection hoj with hoj
        subst hoj
        have h2 := hall e1 he1 hb1
        rw [hon1] at h2
        have h3 : i0 < listed.size := by rw [hI.head.size]; omega
        rw [getD_ftt h3] at hu0
        rw [h2] at hu0
        cases hu0
    obtain ⟨o, d, hA⟩ := headB.get hH hin
    have hoo : oi = o := by have := hA.op; rw [hoi] at this; injection this
    subst hoo
    have hls : i < listed.size := by rw [hI.head.size]; exact (Array.getElem?_eq_some_iff.1 hoi).1
    obtain ⟨α, hα, hst⟩ := hch.get i oi (by rw [List.getElem?_take, if_pos hin]; simpa using hoi)
    have htk : (ops.toList.take n).take i = ops.toList.take i := by rw [List.take_take, Nat.min_eq_left (by omega)]
    rw [htk] at hst
    have hdn := hsz i oi d hin hoi hA.dst
    have hcount : (List.range n).countP (fun j => !(listed.setIfInBounds i true).getD j true) = k := by
      have h1 : (List.range n).countP (fun j => !(listed.setIfInBounds i true).getD j true) + 1 = (List.range n).countP (fun j => !listed.getD j true) := by
        have hperm := List.perm_cons_erase (List.mem_range.2 hin)
        rw [hperm.countP_eq, hperm.countP_eq, List.countP_cons, List.countP_cons]
        have hcong : ((List.range n).erase i).countP (fun j => !(listed.setIfInBounds i true).getD j true) = ((List.range n).erase i).countP (fun j => !listed.getD j true) := by
          refine List.countP_congr fun j hj => ?_
          have hne : j ≠ i := fun e => by
            subst e
            exact List.Nodup.not_mem_erase (List.nodup_range) hj
          rw [getD_set_ne true (Ne.symm hne)]
        rw [hcong, hun]
        simp [hls]
      omega
    have hop : ∀ x ∈ oi.op.operands, ARel w S L (evA (after s (ops.toList.take i) (αs.take i)) x) (a.eval x) := fun x hx => by
      cases x with
      | tmp t =>
        exact hI.operand hH hn hal hA hin hall (fun j p hj hp hpt => (hA.dep j p hj hp).2 t (List.mem_filterMap.2 ⟨.tmp t, by simpa using hx, rfl⟩) hpt)
      | const v =>
        simp only [evA, Act.eval]
        unfold constA
        split
        · simp only [ARel, DRel, Rep]
          exact ⟨⟨none, 0, 0, rfl, rfl, Nat.le_refl _, by decide, fun h => absurd h (by decide)⟩, none, 0, rfl⟩
        · rename_i vs; exact ⟨vs.toList, rfl, RepVals_zero _⟩
        · simp [ARel, DRel, Rep]
      | func f =>
        simp only [evA, Act.eval, ARel, DRel, Rep]
        exact ⟨[], rfl, by simp [RepVals]⟩
      | global g => trivial
    have go : GivesA e U w0.heap.size S0 m oi (evA (after s (ops.toList.take i) (αs.take i))) α -> oi.wp e.P a w (wpAny e.P .any ops Q (k + (ops.size - n)) (listed.setIfInBounds i true)) Q := fun hG =>
      Oper.wp_mono (fun a' w' ⟨S', hI', hJ'⟩ => wpAny_headT he hH hn hs hsz hal hch hgo hsk hend k _ _ _ S' hI' hJ' hcount) (hgo listed a w S i oi d α hI hJ hA hin hr hdn hα hop hG)
    unfold wpOp
    simp only [hoi]
    unfold StepA at hst
    cases hg : oi.guard with
    | none =>
      rw [hg] at hst
      have hwt : Region.wanted oi (yielded ops a.tmps) = true := by simp [Region.wanted, hg]
      rw [if_pos hwt]
      exact .inl (go hst)
    | some jw =>
      obtain ⟨j, want⟩ := jw
      rw [hg] at hst
      obtain ⟨hjn, hjw⟩ := hA.guard j want hg
      have hrelD : ∀ dj, ((ops[j]?).bind (·.dst)) = some dj -> ARel w S L (gs (after s (ops.toList.take i) (αs.take i)) dj) (a.tmps.getD dj undef) := fun dj hdj => hI.operand hH hn hal hA hin hall (t := dj) (fun j' p hj' hp hpt => by
        obtain ⟨p0, d0, hP0⟩ := headB.get hH hjn
        have hd0 : d0 = dj := by have := hdj; rw [hP0.op] at this; simp [hP0.dst] at this; exact this
        by_cases hjj : j' = j
        · rw [hjj]; exact hjw
        · exact absurd (by rw [hpt, hd0]) ((hP0.dep j' p hj' hp).1 hjj))
      rcases hst with ⟨b, hb1, hb2⟩ | ⟨hb1, hb2⟩
      rotate_left
      · simp only [Option.map_eq_some_iff] at hb1
        obtain ⟨dj, hd1, hd2⟩ := hb1
        have hdj : ((ops[j]?).bind (·.dst)) = some dj := by simpa using join_bind hd1
        have hrel := hrelD dj hdj
        rw [hd2] at hrel
        rw [wanted_no hg hdj hrel]
        subst hb2
        simp only [Bool.false_eq_true, if_false]
        exact wpAny_headT he hH hn hs hsz hal hch hgo hsk hend k _ _ _ S (hI.put hH hA hin hr hdn hα (fun _ h => h) hI.cls (Kept.refl _ _ _ _) rfl) (hsk listed a w S i oi d hJ hI hA hin hr hdn (by rw [hg]; simp)) hcount
      simp only [Option.map_eq_some_iff] at hb1
      obtain ⟨dj, hd1, hd2⟩ := hb1
      have hdj : ((ops[j]?).bind (·.dst)) = some dj := by simpa using join_bind hd1
      have hrel := hrelD dj hdj
      rw [hd2] at hrel
      have h4 := getD_bool hrel.bool
      have hwt : Region.wanted oi (yielded ops a.tmps) = decide (b = want) := by
        have h6 : yielded ops a.tmps j = some b := by unfold yielded; rw [hdj]; simp only [Option.bind_some, h4]
        simp only [Region.wanted, hg, h6]
        cases b <;> cases want <;> rfl
      rw [hwt]
      by_cases hbw : b = want
      · rw [if_pos hbw] at hb2
        simp only [hbw, decide_true, if_true]
        exact .inl (go hb2)
      · rw [if_neg hbw] at hb2
        subst hb2
        simp only [hbw, decide_false, Bool.false_eq_true, if_false]
        exact wpAny_headT he hH hn hs hsz hal hch hgo hsk hend k _ _ _ S (hI.put hH hA hin hr hdn hα (fun _ h => h) hI.cls (Kept.refl _ _ _ _) rfl) (hsk listed a w S i oi d hJ hI hA hin hr hdn (by rw [hg]; simp)) hcount
theorem simAfter {σ : St} (hH : headB ops n = true) (hn : n <= ops.size) (hal : αs.length = n) {listed : Array Bool} {a' : Act} {w' : World} {S' : Nat -> Prop} (hI : InvA e U w0 S0 nt σ.m ops n σ.s αs L listed a' w' S') (hall : ∀ i, i < n -> listed.getD i false = true) : Sim e U w0 S0 nt ⟨after σ.s (ops.toList.take n) αs, σ.m⟩ a' w' S' L := by
  refine ⟨hI.cls, fun t => ?_, hI.size, hI.defers, hI.kept⟩
  by_cases hex : ∃ (j : Nat) (p : Oper), j < n ∧ ops[j]? = some p ∧ p.dst = some t
  · obtain ⟨j, p, hj, hp, hpt⟩ := hex
    obtain ⟨p', d', hP⟩ := headB.get hH hj
    have hpp : p' = p := by have := hP.op; rw [hp] at this; injection this with this; exact this.symm
    subst hpp
    have hdt : d' = t := by have := hP.dst; rw [hpt] at this; injection this with this; exact this.symm
    subst hdt
    obtain ⟨α, hα⟩ : ∃ α, αs[j]? = some α := ⟨αs[j], List.getElem?_eq_getElem (by omega)⟩
    show ARel w' S' L (gs (after σ.s (ops.toList.take n) αs) d') _
    rw [gs_after_in (ops.toList.take n) αs σ.s j p' α (by rw [List.getElem?_take, if_pos hj]; simpa using hp) hα hpt (fun k q hk hq => by
      rw [List.getElem?_take] at hq
      split at hq
      · exact (hP.dep k q (by omega) (by simpa using hq)).1 hk
      · cases hq)]
    exact hI.done j p' d' α hj (hall j hj) hp hpt hα
  · have hno : ∀ (j : Nat) (p : Oper), j < n -> ops[j]? = some p -> p.dst ≠ some t := fun j p hj hp hd => hex ⟨j, p, hj, hp, hd⟩
    show ARel w' S' L (gs (after σ.s (ops.toList.take n) αs) t) _
    rw [gs_after_out _ _ _ (fun p hp => by
      obtain ⟨j, hj⟩ := List.mem_iff_getElem?.1 hp
      rw [List.getElem?_take] at hj
      split at hj
      · exact hno j p (by omega) (by simpa using hj)
      · cases hj)]
    exact hI.out t hno
end
def RunsT (e : Env) (ds : List (Option Nat)) (ops : Array Oper) (K : St -> Prop) : Nat -> Array Bool -> St -> Prop
  | 0, listed, σ => Region.ready .any ops listed = [] ∧ K σ
  | f + 1, listed, σ => (Region.ready .any ops listed = [] -> K σ) ∧ ∀ i ∈ Region.ready .any ops listed, ∃ o, ops[i]? = some o ∧ o.guard = none ∧ StepOk e o σ (fun σ' => Runs e ds 0 [] σ' (RunsT e ds ops K f (listed.setIfInBounds i true)))
section
variable {e : Env} {U : Nat -> Prop} {w0 : World} {S0 : Nat -> Prop} {nt : Nat}
theorem RunsT_wp (he : e.Ok) {ops : Array Oper} {K : St -> Prop} {Q : Exit -> Act -> World -> Prop} (hQ : ∀ a w σ', K σ' -> SimE e U w0 S0 nt σ' a w -> Q .normal a w) (hd : ∀ o ∈ ops.toList, ∀ d, o.dst = some d -> d < nt) :
    ∀ (f : Nat) (listed : Array Bool) (σ : St) (a : Act) (w : World), SimE e U w0 S0 nt σ a w -> RunsT e (ops.toList.map (·.dst)) ops K f listed σ -> wpAny e.P .any ops Q f listed a w
  | 0, listed, σ, a, w, hs, h => ⟨h.1, hQ a w σ h.2 hs⟩
  | f + 1, listed, σ, a, w, hs, h => by
    refine ⟨fun h0 => hQ a w σ (h.1 h0) hs, fun i hi => ?_⟩
    obtain ⟨o, ho, hg, hst⟩ := h.2 i hi
    unfold wpOp
    simp only [ho]
    have hw : Region.wanted o (yielded ops a.tmps) = true := by simp [Region.wanted, hg]
    rw [if_pos hw]
    have hmem : o ∈ ops.toList := List.mem_of_getElem? (by simpa using ho)
    refine .inl (Oper.wp_mono (fun a' w' ⟨σ', hr, hs'⟩ => ?_) (hst he U w0 S0 nt a w Q (hd o hmem) hs))
    exact hr he U w0 S0 nt a' w' ops.toList (fun _ a w => wpAny e.P .any ops Q f (listed.setIfInBounds i true) a w) rfl (fun o ho => by simp at ho) (fun a w σ'' hK hs'' => RunsT_wp he hQ hd f _ σ'' a w hs'' hK) hs'
def tailB (ops : Array Oper) (n : Nat) : Bool := (List.range ops.size).all fun i => decide (i < n) || (List.range n).all fun j => Region.waitsFor .any ops i j
def regT (ops : Array Oper) (n : Nat) : Bool := headB ops n && decide (n <= ops.size) && tailB ops n
theorem region_T (he : e.Ok) {id : Nat} {ops : Array Oper} {n : Nat} (hB : regT ops n = true) {K : St -> Prop} {Q : Exit -> Act -> World -> Prop} (hQ : ∀ a w σ', K σ' -> SimE e U w0 S0 nt σ' a w -> Q .normal a w) {σ : St} {a : Act} {w : World}
    (hd : ∀ o ∈ ops.toList, ∀ d, o.dst = some d -> d < nt) (h : SimE e U w0 S0 nt σ a w) (hp : Runs e (ops.toList.map (·.dst)) (n + 1) (ops.toList.take n) σ (RunsT e (ops.toList.map (·.dst)) ops K (ops.size - n) (headArr ops.size n))) : (Code.region id ops true).wp e.P Q a w := by
  simp only [regT, Bool.and_eq_true, decide_eq_true_eq] at hB
  obtain ⟨⟨hH, hn⟩, hs0⟩ := hB
  have hs : ∀ i, n <= i -> i < ops.size -> ∀ j, j < n -> Region.waitsFor .any ops i j = true := fun i h1 h2 j h3 => by
    have k1 := List.all_eq_true.1 hs0 i (List.mem_range.2 h2)
    simp only [Bool.or_eq_true, decide_eq_true_eq] at k1
    rcases k1 with k1 | k1
    · omega
    · exact List.all_eq_true.1 k1 j (List.mem_range.2 h3)
  obtain ⟨S, L, h1⟩ := h.drew he
  refine wp_region_any he.mixed ?_
  have hlen : (ops.toList.take n).length = n := by simp; omega
  have hp' : Runs e (ops.toList.map (·.dst)) ((ops.toList.take n).length + 1) (ops.toList.take n ++ []) σ (RunsT e (ops.toList.map (·.dst)) ops K (ops.size - n) (headArr ops.size n)) := by rw [List.append_nil, hlen]; exact hp
  obtain ⟨αs, hal, hch, hrest⟩ := runs_chain (U := U) he w0.heap.size S0 ops.toList [] 1 (ops.toList.take n) σ (fun h => absurd h (by decide)) hp'
  rw [hlen] at hal
  simp only [Runs] at hrest
  have inv0 : InvA e U w0 S0 nt σ.m ops n σ.s αs L (Array.replicate ops.size false) a { w with drawn := w.drawn + 1 } S :=
    ⟨⟨by simp, fun j oj _ hl => (by rw [getD_replicate_false] at hl; cases hl), fun t _ ht => getD_in (by simpa using ht) (getD_replicate_false _ _)⟩, h1.size, h1.defers, h1.cls, h1.kept, fun t _ => h1.rel t, fun i o d α _ hl => (by rw [getD_replicate_false] at hl; cases hl)⟩
  have H := wpAny_headT (e := e) (L := L) (Q := Q) he hH hn hs (fun i o d hi ho hdd => hd o (List.mem_iff_getElem?.2 ⟨i, by simpa using ho⟩) d hdd) hal hch (goStep_true hH Q) (fun _ _ _ _ _ _ _ _ _ _ _ _ _ _ => trivial) (fun listed a' w' S' hI _ hall => ?_) n _ a _ S inv0 trivial ?_
  · rw [show n + (ops.size - n) = ops.size by omega] at H
    exact H
  · exact RunsT_wp he hQ hd _ _ _ a' w' ⟨S', L, simAfter hH hn hal hI hall⟩ hrest
  · rw [List.countP_eq_length.2]
    · simp
    · intro i hi
      have hi' := List.mem_range.1 hi
      have hsz : i < (Array.replicate ops.size false).size := by simp; omega
      rw [getD_ftt hsz, getD_replicate_false]
      rfl
end
section
variable {e : Env} {U : Nat -> Prop} {w0 : World} {S0 : Nat -> Prop} {nt : Nat}
structure AppAt (P : Program) (σ : St) (o : Oper) (d ety sz : Nat) (rows : List (List C)) : Prop where
  at' : ∃ (x y : Operand) (args : Array Operand) (ts : Array TypeId) (t by' : Nat) (r1 ys : List (List C)), o.op = .call ⟨.builtin .append, args, ts⟩ ∧ args.toList = [x, y] ∧ evA σ.s x = .d (.clip r1) ∧ slA [] (evA σ.s y) = some ys ∧ ts[0]? = some t ∧ ts[1]? = some t ∧ bytesT P t = some (ety, sz, by') ∧
    rowsB sz r1 = true ∧ rowsB sz ys = true ∧ r1.length + ys.length <= maxApp ∧ (r1 = [] ∨ ys ≠ []) ∧ rows = r1 ++ ys
  dst : o.dst = some d
  guard : o.guard = none
theorem slA_data {m : List (Nat × Bk)} {y : A} {ys : List (List C)} (h : slA [] y = some ys) : slA m y = some ys := by
  unfold slA at h ⊢
  split at h <;> simp_all [gm, bufA]
theorem AppAt.run (he : e.Ok) {σ : St} {o : Oper} {d ety sz : Nat} {rows : List (List C)} (hA : AppAt e.P σ o d ety sz rows) {m : List (Nat × Bk)} {w : World} {S : Nat -> Prop} {L : Lay} {ρv : Operand -> Value} (hC : Cls e U w0.heap.size S0 m w S L) (hr : ∀ x, x ∈ o.op.operands -> ARel w S L (evA σ.s x) (ρv x)) :
    ∃ v' w', (execOp ρv o).run e.P w = .ok (.value v') w' ∧ BufRel w' S ety sz rows v' ∧ Kept e.D (fun _ => False) w.heap.size w w' ∧ ∀ g, vblk v' = some g -> w.heap.size <= g := by
  obtain ⟨x, y, args, ts, t, by', r1, ys, ho, hargs, hx, hy, h0, h1, hb, hr1, hys, hle, hne, rfl⟩ := hA.at'
  have hx' := hr x (by rw [ho]; simp [Op.operands, Call.operands, hargs, <- Array.mem_toList_iff])
  have hy' := hr y (by rw [ho]; simp [Op.operands, Call.operands, hargs, <- Array.mem_toList_iff])
  rw [hx] at hx'
  have hx' : DRel w S (.clip r1) (ρv x) := hx'
  have hyl := rowsB_iff.1 hys
  have hyf := slA_first (σ := ⟨[], m⟩) hC (slA_data hy) hy' hyl
  obtain ⟨v', w', hrun, hbuf, τ, hk, hτ, hg⟩ := append_own (σ := ⟨[], m⟩) (ty := o.type) he hC h0 h1 hb (.inr ⟨hx', hne⟩) (rowsB_iff.1 hr1) hyl hle hyf
  have hτn : ∀ g, τ ≠ some g := fun g e1 => by
    obtain ⟨h2, h3⟩ := hτ g e1
    obtain ⟨h4, a, n, h5⟩ := hx'
    rw [h5] at h2 h3 h4
    simp only [Rep] at h4
    obtain ⟨A, n', cap, h6, h7, _, _, h8⟩ := h4
    injection h6 with h6 h9 h10
    subst h6 h9
    cases a with
    | none => simp [vblk] at h2
    | some q =>
      simp only [vblk] at h2
      split at h2
      · cases h2
      · rename_i hn0
        injection h2 with h2
        obtain ⟨b, off, h11, hS, _⟩ := h8 (by omega)
        injection h11 with h11
        obtain ⟨_, _, h12⟩ := h3
        rcases h12 with ⟨h12, _⟩ | ⟨g', cap', cur, h13, _, _, h14, _⟩
        · rw [h12] at h7; simp at h7; omega
        · injection h13 with h13 _ _
          injection h13 with h13
          rw [h13] at h11
          injection h11 with h11
          exact h14 (h11 ▸ hS)
  refine ⟨v', w', ?_, hbuf, ⟨hk.os, hk.tape, hk.output, hk.drawn, hk.size, fun k hk' hn => hk.block k hk' (fun e1 => hτn k e1)⟩, fun g hg' => ?_⟩
  · have ha : args.map ρv = #[ρv x, ρv y] := by apply Array.toList_inj.1; simp [hargs]
    simp [execOp, ho, resolve, invoke, builtin, ha, hrun, Result.andThen]
  · rcases hg g hg' with e1 | e1
    · exact (hτn g e1).elim
    · exact e1
theorem AppAt.gives (he : e.Ok) {σ : St} {o : Oper} {d ety sz : Nat} {rows : List (List C)} (hA : AppAt e.P σ o d ety sz rows) {m : List (Nat × Bk)} : GivesA e U w0.heap.size S0 m o (evA σ.s) .undef := by
  intro w S L ρv hC hr
  obtain ⟨v', w', h1, _, h3, _⟩ := hA.run he hC hr
  have hk : Kept e.D e.E w.heap.size w w' := ⟨h3.os, h3.tape, h3.output, h3.drawn, h3.size, fun k hk hn => h3.block k hk id⟩
  unfold Go.Proofs.YtkekkmpogmlopaaGreat.gives
  rw [h1]
  exact ⟨S, ⟨fun _ h => h, fun _ h => .inl h⟩, hC.later hk (he.keep _ _ h3.size (fun b hE => h3.block b (Nat.lt_of_lt_of_le (hC.ein b hE) hC.bsz) id) hC.g) (fun _ h => h) (fun _ h => .inl h), hk, trivial⟩
def BornA (base p d ety sz : Nat) (rows : List (List C)) (m : List (Nat × Bk)) (L : Lay) (listed : Array Bool) (a : Act) (w : World) (S : Nat -> Prop) : Prop :=
  listed.getD p false = true -> (∀ g, vblk (a.tmps.getD d undef) = some g -> base <= g ∧ g < w.heap.size ∧ ¬ S g ∧ ∀ k bk, gm m k = some bk -> ¬ blkOf L k bk g) ∧ BufRel w S ety sz rows (a.tmps.getD d undef)
theorem chain_app {m : List (Nat × Bk)} {base : Nat} {l : List Oper} : ∀ (xs ys : List Oper) (s : List (Nat × A)) (us bs : List A), us.length = xs.length -> Chain e U base S0 m l xs s us -> Chain e U base S0 m l ys (after s xs us) bs -> Chain e U base S0 m l (xs ++ ys) s (us ++ bs)
  | [], ys, s, [], bs, _, _, h2 => h2
  | x :: xs, ys, s, a :: us, bs, hl, h1, h2 => ⟨h1.1, chain_app xs ys _ us bs (by simpa using hl) h1.2 h2⟩
  | [], _, _, _ :: _, _, hl, _, _ => by simp at hl
  | _ :: _, _, _, [], _, hl, _, _ => by simp at hl
theorem after_app : ∀ (xs ys : List Oper) (s : List (Nat × A)) (us bs : List A), us.length = xs.length -> after s (xs ++ ys) (us ++ bs) = after (after s xs us) ys bs
  | [], ys, s, [], bs, _ => rfl
  | x :: xs, ys, s, a :: us, bs, hl => after_app xs ys _ us bs (by simpa using hl)
  | [], _, _, _ :: _, _, hl => by simp at hl
  | _ :: _, _, _, [], _, hl => by simp at hl
theorem runs_chain1 (he : e.Ok) (base : Nat) (S0 : Nat -> Prop) (l : List Oper) {K : St -> Prop} {k : Nat} {os : List Oper} {σ : St} (hk : k = os.length + 1) (h : Runs e (l.map (·.dst)) k os σ K) : ∃ αs, αs.length = os.length ∧ Chain e U base S0 σ.m l os σ.s αs ∧ K ⟨after σ.s os αs, σ.m⟩ := by
  subst hk
  have h' : Runs e (l.map (·.dst)) (os.length + 1) (os ++ []) σ K := by rw [List.append_nil]; exact h
  obtain ⟨αs, h1, h2, h3⟩ := runs_chain (U := U) he base S0 l [] 1 os σ (fun h => absurd h (by decide)) h'
  simp only [Runs] at h3
  exact ⟨αs, h1, h2, h3⟩
set_option maxHeartbeats 2000000 in
theorem region_A (he : e.Ok) {id : Nat} {ops : Array Oper} {n p d ety sz : Nat} {rows : List (List C)} {o0 : Oper} (hop : ops[p]? = some o0) (hpn : p < n) (hB : regB ops n = true) {K : St -> Prop} {Q : Exit -> Act -> World -> Prop} (hQ : ∀ a w σ', K σ' -> SimE e U w0 S0 nt σ' a w -> Q .normal a w) {σ : St} {a : Act} {w : World}
    (hd : ∀ o ∈ ops.toList, ∀ d, o.dst = some d -> d < nt) (h : SimE e U w0 S0 nt σ a w)
    (hp : Runs e (ops.toList.map (·.dst)) (p + 1) (ops.toList.take p) σ (fun σ1 => AppAt e.P σ1 o0 d ety sz rows ∧ Runs e (ops.toList.map (·.dst)) (n - p) ((ops.toList.take n).drop (p + 1)) ⟨(d, .undef) :: σ1.s, σ1.m⟩ (fun σ2 => Runs e (ops.toList.map (·.dst)) 0 (ops.toList.drop n) ⟨(d, .buf d) :: killK d σ2.s, (d, .buf none ety sz rows) :: remM d σ2.m⟩ K))) : (Code.region id ops true).wp e.P Q a w := by
  simp only [regB, Bool.and_eq_true, Bool.or_eq_true, decide_eq_true_eq] at hB
  obtain ⟨⟨⟨hH, hn⟩, hs⟩, hsq⟩ := hB
  obtain ⟨S, L, h1⟩ := h.drew he
  refine wp_region_any he.mixed ?_
  have hlen : (ops.toList.take p).length = p := by simp; omega
  have hlen2 : ((ops.toList.take n).drop (p + 1)).length = n - p - 1 := by simp; omega
  obtain ⟨αs0, hal0, hch0, hrest0⟩ := runs_chain1 (U := U) he w0.heap.size S0 ops.toList (by rw [hlen]) hp
  rw [hlen] at hal0
  obtain ⟨hApp, hrest1⟩ := hrest0
  obtain ⟨αs1, hal1, hch1, hrest2⟩ := runs_chain1 (U := U) he w0.heap.size S0 ops.toList (by rw [hlen2]; omega) hrest1
  rw [hlen2] at hal1
  have hpl : ops.toList[p]? = some o0 := by simpa using hop
  have htake : ops.toList.take n = ops.toList.take p ++ (o0 :: (ops.toList.take n).drop (p + 1)) := by
    have e1 : (ops.toList.take n)[p]? = some o0 := by rw [List.getElem?_take, if_pos hpn]; exact hpl
    have e2 : (ops.toList.take n).drop p = o0 :: (ops.toList.take n).drop (p + 1) := by
      rw [List.drop_eq_getElem_cons (List.getElem?_eq_some_iff.1 e1).1, (List.getElem?_eq_some_iff.1 e1).2]
    have e3 : (ops.toList.take n).take p = ops.toList.take p := by rw [List.take_take, Nat.min_eq_left (by omega)]
    rw [<- e2, <- e3, List.take_append_drop]
  have hal : (αs0 ++ (A.undef :: αs1)).length = n := by simp [hal0, hal1]; omega
  have hset : setA (after σ.s (ops.toList.take p) αs0) o0.dst A.undef = (d, A.undef) :: after σ.s (ops.toList.take p) αs0 := by rw [hApp.dst]; rfl
  have hch : Chain e U w0.heap.size S0 σ.m ops.toList (ops.toList.take n) σ.s (αs0 ++ (A.undef :: αs1)) := by
    rw [htake]
    refine chain_app _ _ _ _ _ (by rw [hal0, hlen]) hch0 ⟨?_, ?_⟩
    · unfold StepA
      rw [hApp.guard]
      exact hApp.gives he
    · rw [hset]; exact hch1
  have haf : after σ.s (ops.toList.take n) (αs0 ++ (A.undef :: αs1)) = after ((d, A.undef) :: after σ.s (ops.toList.take p) αs0) ((ops.toList.take n).drop (p + 1)) αs1 := by
    conv => lhs; rw [htake]
    rw [after_app _ _ _ _ _ (by rw [hal0, hlen])]
    simp only [after, hset]
  have inv0 : InvA e U w0 S0 nt σ.m ops n σ.s (αs0 ++ (A.undef :: αs1)) L (Array.replicate ops.size false) a { w with drawn := w.drawn + 1 } S :=
    ⟨⟨by simp, fun j oj _ hl => (by rw [getD_replicate_false] at hl; cases hl), fun t _ ht => getD_in (by simpa using ht) (getD_replicate_false _ _)⟩, h1.size, h1.defers, h1.cls, h1.kept, fun t _ => h1.rel t, fun i o d α _ hl => (by rw [getD_replicate_false] at hl; cases hl)⟩
  have hJ0 : BornA w0.heap.size p d ety sz rows σ.m L (Array.replicate ops.size false) a { w with drawn := w.drawn + 1 } S := fun hl => by rw [getD_replicate_false] at hl; cases hl
  have hA0 : ∀ {i' : Nat} {o' : Oper} {d' : Nat}, HeadAt ops n i' o' d' -> i' ≠ p -> d' ≠ d := fun hA hne e' => by
    have := (hA.dep p _ hpn hop).1 (Ne.symm hne)
    exact this (by rw [hApp.dst, e'])
  have hgo : GoStep e U w0 S0 nt σ.m ops n σ.s (αs0 ++ (A.undef :: αs1)) L (BornA w0.heap.size p d ety sz rows σ.m L) Q := by
    intro listed a w S i' o' d' α hI hJ hA hin hr hdn hα hopd hG'
    by_cases hip : i' = p
    · subst hip
      have ho' : o' = o0 := by have := hA.op; rw [hop] at this; injection this with this; exact this.symm
      subst ho'
      have hdd : d' = d := by have := hA.dst; rw [hApp.dst] at this; injection this with this; exact this.symm
      subst hdd
      have hau : α = A.undef := by rw [List.getElem?_append_right (by omega), hal0] at hα; simpa using hα.symm
      subst hau
      have hC := hI.cls
      have htk : (αs0 ++ (A.undef :: αs1)).take i' = αs0 := by rw [<- hal0]; exact List.take_left
      rw [htk] at hopd
      obtain ⟨v', w', q1, q2, q3, q4⟩ := hApp.run he hC hopd
      have hk : Kept e.D e.E w.heap.size w w' := ⟨q3.os, q3.tape, q3.output, q3.drawn, q3.size, fun k hk hn => q3.block k hk (fun h => h)⟩
      have hC' : Cls e U w0.heap.size S0 σ.m w' S L := hC.later hk (he.keep _ _ q3.size (fun b hE => q3.block b (Nat.lt_of_lt_of_le (hC.ein b hE) hC.bsz) (fun h => h)) hC.g) (fun _ h => h) (fun _ h => .inl h)
      unfold Oper.wp
      rw [q1, Oper.upon_value]
      have hput : (a.put o'.dst v').tmps.getD d' undef = v' := by
        rw [hA.dst, getD_put (by rw [hI.size]; exact hdn)]
        simp
      refine ⟨S, hI.put hH hA hin hr hdn hα (fun _ h => h) hC' hk trivial, fun _ => ?_⟩
      rw [hput]
      refine ⟨fun g hg => ?_, q2⟩
      have hge := q4 g hg
      refine ⟨Nat.le_trans hC.bsz hge, ?_, fun hs => by have := (hC.sin _ hs).1; omega, fun k bk hk hg => by have := hC.blk_lt hk hg; omega⟩
      exact (Own1.lt (L := ⟨fun _ => 0, fun _ => v'⟩) (k := 0) (bk := .buf none ety sz rows) ⟨by simp, q2⟩ hg).1
    · refine gives_wp (hG' w S L a.eval hI.cls hopd) fun v' w' ⟨S', hS, hC, hk, hv'⟩ => ⟨S', hI.put hH hA hin hr hdn hα hS.1 hC hk hv', fun hl => ?_⟩
      rw [getD_set_ne false hip] at hl
      obtain ⟨q1, q2⟩ := hJ hl
      have hput : (a.put o'.dst v').tmps.getD d undef = a.tmps.getD d undef := by
        rw [hA.dst, getD_put (by rw [hI.size]; exact hdn), if_neg (Ne.symm (hA0 hA hip))]
      rw [hput]
      have hnS : ∀ g, vblk (a.tmps.getD d undef) = some g -> ¬ S' g := fun g hg hs => by
        obtain ⟨_, k2, k3, _⟩ := q1 g hg
        rcases hS.2 g hs with hs | hs
        · exact k3 hs
        · omega
      refine ⟨fun g hg => ⟨(q1 g hg).1, Nat.lt_of_lt_of_le (q1 g hg).2.1 hk.size, hnS g hg, (q1 g hg).2.2.2⟩, q2.keep hk.size (hI.cls.cell hk) hS.1 fun g hg => ⟨hk.block g (q1 g hg).2.1 (fun hE => by have := hI.cls.ein g hE; have := (q1 g hg).1; omega), hnS g hg⟩⟩
  have hskp : ∀ (listed : Array Bool) (a : Act) (w : World) (S : Nat -> Prop) (i' : Nat) (o' : Oper) (d' : Nat), BornA w0.heap.size p d ety sz rows σ.m L listed a w S -> InvA e U w0 S0 nt σ.m ops n σ.s (αs0 ++ (A.undef :: αs1)) L listed a w S -> HeadAt ops n i' o' d' -> i' < n -> i' ∈ Region.ready .any ops listed -> d' < nt -> o'.guard ≠ none -> BornA w0.heap.size p d ety sz rows σ.m L (listed.setIfInBounds i' true) (a.put o'.dst undef) w S := by
    intro listed a w S i' o' d' hJ hI hA hin hr hdn hg hl
    have hip : i' ≠ p := fun e' => by
      subst e'
      have := hA.op
      rw [hop] at this
      injection this with this
      rw [<- this] at hg
      exact hg hApp.guard
    rw [getD_set_ne false hip] at hl
    have hput : (a.put o'.dst undef).tmps.getD d undef = a.tmps.getD d undef := by
      rw [hA.dst, getD_put (by rw [hI.size]; exact hdn), if_neg (Ne.symm (hA0 hA hip))]
    rw [hput]
    exact hJ hl
  have H := wpAny_headA (e := e) (L := L) (Q := Q) he hH hn (fun hlt => by
      rcases hs with hs | hs
      · omega
      · exact hs) hsq (fun i o d hi ho hdd => hd o (List.mem_iff_getElem?.2 ⟨i, by simpa using ho⟩) d hdd) hal hch hgo hskp (fun listed a' w' S' hI hJ hall => ?_) n _ a _ S inv0 hJ0 ?_
  · rw [show n + (ops.size - n) = ops.size by omega] at H
    exact H
  · have hsim := simAfter hH hn hal hI hall
    rw [haf] at hsim
    obtain ⟨q1, q2⟩ := hJ (hall p hpn)
    have hdn : d < nt := hd _ (List.mem_iff_getElem?.2 ⟨p, hpl⟩) d hApp.dst
    have hsimB := hsim.bornE (bk := .buf none ety sz rows) (w' := w') (b' := 0) (v' := a'.tmps.getD d undef) (u := a'.tmps.getD d undef) (τ := vblk (a'.tmps.getD d undef)) (s1 := after ((d, A.undef) :: after σ.s (ops.toList.take p) αs0) ((ops.toList.take n).drop (p + 1)) αs1) (m1 := σ.m) (α := .buf d) (S' := S') hdn (fun _ h => h) (fun _ h => .inl h) (fun t => .inl rfl) (fun k x h => h)
      (fun g hg => ⟨(q1 g hg).2.2.1, fun hE => by have := hI.cls.ein _ hE; have := (q1 g hg).1; omega, .inl (q1 g hg).1⟩) (fun k x g hkd hx hg hb => (q1 g hg).2.2.2 k x hx hb)
      (Kept.refl _ _ _ _) hI.cls.g (by
        simp only [Own1, if_true]
        exact ⟨by simp, q2⟩)
      (fun g hg => by simp only [blkOf, if_true] at hg; exact .inl hg) (by simp [ARel])
    have hsimD : SimE e U w0 S0 nt ⟨(d, .buf d) :: killK d (after ((d, A.undef) :: after σ.s (ops.toList.take p) αs0) ((ops.toList.take n).drop (p + 1)) αs1), (d, .buf none ety sz rows) :: remM d σ.m⟩ a' w' := by
      obtain ⟨S2, L2, k1, k2, k3, k4, k5⟩ := hsimB
      refine ⟨S2, L2, k1, fun t => ?_, hI.size, hI.defers, k5⟩
      have := k2 t
      rw [getD_put (by rw [hI.size]; exact hdn)] at this
      by_cases ht : t = d
      · rw [if_pos ht] at this; rw [ht]; rw [ht] at this; exact this
      · rw [if_neg ht] at this; exact this
    have := hrest2 he U w0 S0 nt a' w' ops.toList Q rfl (fun o ho => hd o (List.mem_of_mem_drop ho)) hQ hsimD
    simpa using this
  · rw [List.countP_eq_length.2]
    · simp
    · intro i hi
      have hi' := List.mem_range.1 hi
      have hsz : i < (Array.replicate ops.size false).size := by simp; omega
      rw [getD_ftt hsz, getD_replicate_false]
      rfl
end
section
variable {e : Env} {mask : Nat} {Q : PX -> St -> Prop} {ds : List (Option Nat)}
theorem okDst {nt : Nat} {id : Nat} {ops : Array Oper} {fl : Bool} (hok : okCode nt (.region id ops fl) = true) : ∀ o ∈ ops.toList, ∀ d, o.dst = some d -> d < nt := fun o ho d hd => by
  simp only [okCode] at hok
  have := List.all_eq_true.1 hok o ho
  rw [hd] at this
  simpa using this
theorem pwp_regT {id : Nat} {ops : Array Oper} {σ : St} (n : Nat) (hn : regT ops n = true) (hp : Runs e (ops.toList.map (·.dst)) (n + 1) (ops.toList.take n) σ (RunsT e (ops.toList.map (·.dst)) ops (TrimK mask Q) (ops.size - n) (headArr ops.size n))) : pwp e mask (.region id ops true) σ Q := fun he U w0 S0 nt a w hok hs =>
  region_T he hn (fun a w σ' h1 h2 => ⟨_, h1, h2.weak (fun t => gs_trimS mask t σ'.s) (fun _ _ h => h)⟩) (okDst hok) hs hp
theorem pwp_regA {id : Nat} {ops : Array Oper} {σ : St} {n p d ety sz : Nat} {rows : List (List C)} {o0 : Oper} (hop : ops[p]? = some o0) (hpn : p < n) (hn : regB ops n = true) (hp : Runs e (ops.toList.map (·.dst)) (p + 1) (ops.toList.take p) σ (fun σ1 => AppAt e.P σ1 o0 d ety sz rows ∧ Runs e (ops.toList.map (·.dst)) (n - p) ((ops.toList.take n).drop (p + 1)) ⟨(d, .undef) :: σ1.s, σ1.m⟩ (fun σ2 => Runs e (ops.toList.map (·.dst)) 0 (ops.toList.drop n) ⟨(d, .buf d) :: killK d σ2.s, (d, .buf none ety sz rows) :: remM d σ2.m⟩ (TrimK mask Q)))) : pwp e mask (.region id ops true) σ Q := fun he U w0 S0 nt a w hok hs =>
  region_A he hop hpn hn (fun a w σ' h1 h2 => ⟨_, h1, h2.weak (fun t => gs_trimS mask t σ'.s) (fun _ _ h => h)⟩) (okDst hok) hs hp
theorem gA {id : Nat} {l l1 l2 l3 : List Oper} {s s1 s2 s3 : List (Nat × A)} {m m1 m2 m3 : List (Nat × Bk)} {x y : Operand} {t ty d ety sz by' : Nat} {pos : String} {aft : Array Edge} {r1 ys : List (List C)} (n p : Nat) (hle : r1.length + ys.length <= maxApp) (hne : r1 = [] ∨ ys ≠ []) (hK : Runs e ds 0 l3 ⟨(d, .buf d) :: s3, (d, .buf none ety sz (r1 ++ ys)) :: m3⟩ (TrimK mask Q))
    (hop : l[p]? = some ⟨some d, .call ⟨.builtin .append, #[x, y], #[t, t]⟩, ty, pos, aft, none⟩ := by exact rfl) (hB : regB l.toArray n = true := by decide +kernel) (hpn : p < n := by decide) (hds : l.map (·.dst) = ds := by exact rfl) (h1l : l.take p = l1 := by exact rfl) (h2l : (l.take n).drop (p + 1) = l2 := by exact rfl) (h3l : l.drop n = l3 := by exact rfl)
    (h1 : runOps e.P ds (p + 1) l1 ⟨s, m⟩ = .done ⟨s1, m1⟩ := by simp only [pz, ↓reduceIte, Nat.reduceEqDiff, Nat.reduceAdd, Nat.reduceSub, Nat.reduceMul, Nat.reduceLeDiff, Nat.reduceBEq, Bool.false_eq_true, decide_true, decide_false, Int.reduceLE, Int.reduceToNat, Int.reduceLT, Int.reduceEq, eq_self, Nat.reduceShiftRight, Nat.reduceAnd, Nat.reduceBneDiff, F]; exact rfl) (hx : evA s1 x = .d (.clip r1) := by first | (simp only [pz, ↓reduceIte, Nat.reduceEqDiff, Nat.reduceAdd, Nat.reduceSub, Nat.reduceMul, Nat.reduceLeDiff, Nat.reduceBEq, Bool.false_eq_true, decide_true, decide_false, Int.reduceLE, Int.reduceToNat, Int.reduceLT, Int.reduceEq, eq_self, Nat.reduceShiftRight, Nat.reduceAnd, Nat.reduceBneDiff, F]; done) | (simp only [pz, ↓reduceIte, Nat.reduceEqDiff, Nat.reduceAdd, Nat.reduceSub, Nat.reduceMul, Nat.reduceLeDiff, Nat.reduceBEq, Bool.false_eq_true, decide_true, decide_false, Int.reduceLE, Int.reduceToNat, Int.reduceLT, Int.reduceEq, eq_self, Nat.reduceShiftRight, Nat.reduceAnd, Nat.reduceBneDiff, F]; exact rfl)) (hy : slA [] (evA s1 y) = some ys := by first | (simp only [pz, ↓reduceIte, Nat.reduceEqDiff, Nat.reduceAdd, Nat.reduceSub, Nat.reduceMul, Nat.reduceLeDiff, Nat.reduceBEq, Bool.false_eq_true, decide_true, decide_false, Int.reduceLE, Int.reduceToNat, Int.reduceLT, Int.reduceEq, eq_self, Nat.reduceShiftRight, Nat.reduceAnd, Nat.reduceBneDiff, F]; done) | (simp only [pz, ↓reduceIte, Nat.reduceEqDiff, Nat.reduceAdd, Nat.reduceSub, Nat.reduceMul, Nat.reduceLeDiff, Nat.reduceBEq, Bool.false_eq_true, decide_true, decide_false, Int.reduceLE, Int.reduceToNat, Int.reduceLT, Int.reduceEq, eq_self, Nat.reduceShiftRight, Nat.reduceAnd, Nat.reduceBneDiff, F]; exact rfl))
    (hb : bytesT e.P t = some (ety, sz, by') := by first | (simp only [pz, ↓reduceIte, Nat.reduceEqDiff, Nat.reduceAdd, Nat.reduceSub, Nat.reduceMul, Nat.reduceLeDiff, Nat.reduceBEq, Bool.false_eq_true, decide_true, decide_false, Int.reduceLE, Int.reduceToNat, Int.reduceLT, Int.reduceEq, eq_self, Nat.reduceShiftRight, Nat.reduceAnd, Nat.reduceBneDiff, F]; done) | (simp only [pz, ↓reduceIte, Nat.reduceEqDiff, Nat.reduceAdd, Nat.reduceSub, Nat.reduceMul, Nat.reduceLeDiff, Nat.reduceBEq, Bool.false_eq_true, decide_true, decide_false, Int.reduceLE, Int.reduceToNat, Int.reduceLT, Int.reduceEq, eq_self, Nat.reduceShiftRight, Nat.reduceAnd, Nat.reduceBneDiff, F]; exact rfl)) (hr1 : rowsB sz r1 = true := by simp only [pz, ↓reduceIte, Nat.reduceEqDiff, Nat.reduceAdd, Nat.reduceSub, Nat.reduceMul, Nat.reduceLeDiff, Nat.reduceBEq, Bool.false_eq_true, decide_true, decide_false, Int.reduceLE, Int.reduceToNat, Int.reduceLT, Int.reduceEq, eq_self, Nat.reduceShiftRight, Nat.reduceAnd, Nat.reduceBneDiff, F]) (hys : rowsB sz ys = true := by simp only [pz, ↓reduceIte, Nat.reduceEqDiff, Nat.reduceAdd, Nat.reduceSub, Nat.reduceMul, Nat.reduceLeDiff, Nat.reduceBEq, Bool.false_eq_true, decide_true, decide_false, Int.reduceLE, Int.reduceToNat, Int.reduceLT, Int.reduceEq, eq_self, Nat.reduceShiftRight, Nat.reduceAnd, Nat.reduceBneDiff, F])
    (h2 : runOps e.P ds (n - p) l2 ⟨(d, .undef) :: s1, m1⟩ = .done ⟨s2, m2⟩ := by simp only [pz, ↓reduceIte, Nat.reduceEqDiff, Nat.reduceAdd, Nat.reduceSub, Nat.reduceMul, Nat.reduceLeDiff, Nat.reduceBEq, Bool.false_eq_true, decide_true, decide_false, Int.reduceLE, Int.reduceToNat, Int.reduceLT, Int.reduceEq, eq_self, Nat.reduceShiftRight, Nat.reduceAnd, Nat.reduceBneDiff, F]; exact rfl) (hk : killK d s2 = s3 := by simp only [pz, ↓reduceIte, Nat.reduceEqDiff, Nat.reduceAdd, Nat.reduceSub, Nat.reduceMul, Nat.reduceLeDiff, Nat.reduceBEq, Bool.false_eq_true, decide_true, decide_false, Int.reduceLE, Int.reduceToNat, Int.reduceLT, Int.reduceEq, eq_self, Nat.reduceShiftRight, Nat.reduceAnd, Nat.reduceBneDiff]; exact rfl) (hr : remM d m2 = m3 := by simp only [pz, ↓reduceIte, Nat.reduceEqDiff, Nat.reduceAdd, Nat.reduceSub, Nat.reduceMul, Nat.reduceLeDiff, Nat.reduceBEq, Bool.false_eq_true, decide_true, decide_false, Int.reduceLE, Int.reduceToNat, Int.reduceLT, Int.reduceEq, eq_self, Nat.reduceShiftRight, Nat.reduceAnd, Nat.reduceBneDiff]; exact rfl) : pwp e mask (.region id l.toArray true) ⟨s, m⟩ Q := by
  subst hds h1l h2l h3l hk hr
  exact pwp_regA (ops := l.toArray) (by simpa using hop) hpn hB (runs_done h1 ⟨⟨⟨x, y, #[x, y], #[t, t], t, by', r1, ys, rfl, rfl, hx, hy, rfl, rfl, hb, hr1, hys, hle, hne, rfl⟩, rfl, rfl⟩, runs_done h2 hK⟩)
theorem gTree {id : Nat} {l l1 : List Oper} {s s1 : List (Nat × A)} {m m1 : List (Nat × Bk)} (n : Nat) (hK : RunsT e ds l.toArray (TrimK mask Q) (l.length - n) (headArr l.length n) ⟨s1, m1⟩) (hB : regT l.toArray n = true := by decide +kernel) (hds : l.map (·.dst) = ds := by exact rfl) (h1l : l.take n = l1 := by exact rfl)
    (h1 : runOps e.P ds (n + 1) l1 ⟨s, m⟩ = .done ⟨s1, m1⟩ := by simp only [pz, ↓reduceIte, Nat.reduceEqDiff, Nat.reduceAdd, Nat.reduceSub, Nat.reduceMul, Nat.reduceLeDiff, Nat.reduceBEq, Bool.false_eq_true, decide_true, decide_false, Int.reduceLE, Int.reduceToNat, Int.reduceLT, Int.reduceEq, eq_self, Nat.reduceShiftRight, Nat.reduceAnd, Nat.reduceBneDiff, F]; exact rfl) : pwp e mask (.region id l.toArray true) ⟨s, m⟩ Q := by
  subst hds h1l
  exact pwp_regT (ops := l.toArray) n hB (runs_done h1 hK)
theorem stepOk_run {K : St -> Prop} {o : Oper} {s s1 : List (Nat × A)} {m m1 : List (Nat × Bk)} (hg : o.guard = none) (hal : ∀ t, o.op ≠ .alloc t) (hrun : runOps e.P ds 0 [o] ⟨s, m⟩ = .done ⟨s1, m1⟩) (hK : Runs e ds 0 [] ⟨s1, m1⟩ K) : StepOk e o ⟨s, m⟩ (fun σ' => Runs e ds 0 [] σ' K) := by
  have key : ∀ σ, ResQ e ds (fun σ' => Runs e ds 0 [] σ' K) (Res.done σ) -> Runs e ds 0 [] σ (fun σ' => Runs e ds 0 [] σ' K) := fun σ h => runs_nil h
  have hr : runOps e.P ds 0 [o] ⟨s, m⟩ = stepR e.P o.dst o.type 0 0 [] (fun σ => .done σ) o.op ⟨s, m⟩ := by
    obtain ⟨od, oo, ot, op, oa, og⟩ := o
    simp only at hg
    subst hg
    rfl
  rw [hr] at hrun
  have h := stepR_sound (e := e) (ds := ds) (os := []) (K := fun σ' => Runs e ds 0 [] σ' K) (n := 0) (q := 0) (next := fun σ => .done σ) key (o := o) (σ := ⟨s, m⟩) (.inl rfl) (by rw [hrun]; exact hK)
  have h : StepOk e o ⟨s, m⟩ (fun σ' => Runs e ds 0 [] σ' (fun σ' => Runs e ds 0 [] σ' K)) := h
  intro he U w0 S0 nt a w Q hd hs
  refine Oper.wp_mono (fun a' w' ⟨σ', h1, h2⟩ => ⟨σ', ?_, h2⟩) (h he U w0 S0 nt a w Q hd hs)
  intro he U w0 S0 nt a w ops Q hds hd hQ hs
  exact h1 he U w0 S0 nt a w ops Q hds hd (fun a w σ2 h3 h4 => h3 he U w0 S0 nt a w ops Q hds hd hQ h4) hs
theorem gT1 {ops : Array Oper} {K : St -> Prop} {f : Nat} {listed : Array Bool} {o : Oper} {s s1 : List (Nat × A)} {m m1 : List (Nat × Bk)} (i : Nat) (hK : Runs e ds 0 [] ⟨s1, m1⟩ (RunsT e ds ops K f (listed.setIfInBounds i true))) (hr : Region.ready .any ops listed = [i] := by decide +kernel) (ho : ops[i]? = some o := by simp only [List.getElem?_toArray, List.getElem?_cons_succ, List.getElem?_cons_zero]; exact rfl) (hg : o.guard = none := by exact rfl) (hal : ∀ t, o.op ≠ .alloc t := by intro t h; cases h)
    (hrun : runOps e.P ds 0 [o] ⟨s, m⟩ = .done ⟨s1, m1⟩ := by simp only [pz, ↓reduceIte, Nat.reduceEqDiff, Nat.reduceAdd, Nat.reduceSub, Nat.reduceMul, Nat.reduceLeDiff, Nat.reduceBEq, Bool.false_eq_true, decide_true, decide_false, Int.reduceLE, Int.reduceToNat, Int.reduceLT, Int.reduceEq, eq_self, Nat.reduceShiftRight, Nat.reduceAnd, Nat.reduceBneDiff, F]; exact rfl) : RunsT e ds ops K (f + 1) listed ⟨s, m⟩ := by
  refine ⟨fun h => (by rw [hr] at h; cases h), fun j hj => ?_⟩
  rw [hr] at hj
  have hji : j = i := by simpa using hj
  subst hji
  exact ⟨o, ho, hg, stepOk_run hg hal hrun hK⟩
theorem gT2 {ops : Array Oper} {K : St -> Prop} {f : Nat} {listed : Array Bool} {o o' : Oper} {s s1 s2 : List (Nat × A)} {m m1 m2 : List (Nat × Bk)} (i j : Nat) (hK : Runs e ds 0 [] ⟨s1, m1⟩ (RunsT e ds ops K f (listed.setIfInBounds i true))) (hK' : Runs e ds 0 [] ⟨s2, m2⟩ (RunsT e ds ops K f (listed.setIfInBounds j true))) (hr : Region.ready .any ops listed = [i, j] := by decide +kernel) (ho : ops[i]? = some o := by simp only [List.getElem?_toArray, List.getElem?_cons_succ, List.getElem?_cons_zero]; exact rfl) (hg : o.guard = none := by exact rfl) (hal : ∀ t, o.op ≠ .alloc t := by intro t h; cases h)
    (hrun : runOps e.P ds 0 [o] ⟨s, m⟩ = .done ⟨s1, m1⟩ := by simp only [pz, ↓reduceIte, Nat.reduceEqDiff, Nat.reduceAdd, Nat.reduceSub, Nat.reduceMul, Nat.reduceLeDiff, Nat.reduceBEq, Bool.false_eq_true, decide_true, decide_false, Int.reduceLE, Int.reduceToNat, Int.reduceLT, Int.reduceEq, eq_self, Nat.reduceShiftRight, Nat.reduceAnd, Nat.reduceBneDiff, F]; exact rfl) (ho' : ops[j]? = some o' := by simp only [List.getElem?_toArray, List.getElem?_cons_succ, List.getElem?_cons_zero]; exact rfl) (hg' : o'.guard = none := by exact rfl) (hal' : ∀ t, o'.op ≠ .alloc t := by intro t h; cases h) (hrun' : runOps e.P ds 0 [o'] ⟨s, m⟩ = .done ⟨s2, m2⟩ := by simp only [pz, ↓reduceIte, Nat.reduceEqDiff, Nat.reduceAdd, Nat.reduceSub, Nat.reduceMul, Nat.reduceLeDiff, Nat.reduceBEq, Bool.false_eq_true, decide_true, decide_false, Int.reduceLE, Int.reduceToNat, Int.reduceLT, Int.reduceEq, eq_self, Nat.reduceShiftRight, Nat.reduceAnd, Nat.reduceBneDiff, F]; exact rfl) : RunsT e ds ops K (f + 1) listed ⟨s, m⟩ := by
  refine ⟨fun h => (by rw [hr] at h; cases h), fun k hk => ?_⟩
  rw [hr] at hk
  have hk : k = i ∨ k = j := by simpa using hk
  rcases hk with rfl | rfl
  · exact ⟨o, ho, hg, stepOk_run hg hal hrun hK⟩
  · exact ⟨o', ho', hg', stepOk_run hg' hal' hrun' hK'⟩
theorem gT0 {ops : Array Oper} {listed : Array Bool} {s s' : List (Nat × A)} {m : List (Nat × Bk)} (hK : Q .normal ⟨s', m⟩) (hr : Region.ready .any ops listed = [] := by decide +kernel) (hs : trimS mask s = s' := by simp only [pz, ↓reduceIte, Nat.reduceEqDiff, Nat.reduceAdd, Nat.reduceSub, Nat.reduceMul, Nat.reduceLeDiff, Nat.reduceBEq, Bool.false_eq_true, decide_true, decide_false, Int.reduceLE, Int.reduceToNat, Int.reduceLT, Int.reduceEq, eq_self, Nat.reduceShiftRight, Nat.reduceAnd, Nat.reduceBneDiff]; exact rfl) : RunsT e ds ops (TrimK mask Q) 0 listed ⟨s, m⟩ := by
  subst hs
  exact ⟨hr, hK⟩
end
end Go.Proofs.YtkekkmpogmlopaaGreat
namespace Go.Proofs.YtkekkmpogmlopaaGreat
open Go.RowKit
section
variable {e : Env} {mask : Nat} {Q : PX -> St -> Prop} {ds : List (Option Nat)}
theorem wp_any {P : Program} {o : Oper} {a : Act} {w : World} {K : Act -> World -> Prop} {Q0 Q : Exit -> Act -> World -> Prop} (h0 : ∀ ex a w, ex ≠ .normal -> ¬ Q0 ex a w) (hh : o.wp P a w K Q0) : o.wp P a w K Q := by
  have hl : ¬ LetsOut Q0 := fun ⟨a, w, h⟩ => h0 _ a w (by simp) h
  unfold Oper.wp at *
  generalize (execOp a.eval o).run P w = r at *
  cases r with
  | ok n w' =>
    cases n <;> simp only [Oper.upon] at hh ⊢ <;> first
      | exact hh
      | exact Calls.mono hh (fun e w'' he => by cases e <;> first | exact he | exact absurd he (h0 _ _ _ (by simp)) | exact absurd he hl)
      | exact absurd hh hl
      | exact absurd hh (h0 _ _ _ (by simp))
  | halt x w' =>
    cases x <;> simp only [Oper.upon] at hh ⊢ <;> first
      | exact hh
      | exact absurd hh hl
      | exact absurd hh (h0 _ _ _ (by simp))
theorem stepOk_of_runs {o : Oper} {σ : St} {K : St -> Prop} (hg : o.guard = none) (h : Runs e ds 0 [o] σ K) : StepOk e o σ (fun σ' => Runs e ds 0 [] σ' K) := by
  intro he U w0 S0 nt a w Q hd hs
  have h : RunsS e ds [o] σ K := by simpa only [Runs] using h
  have h1 := h he U w0 S0 nt a w (ds.map fun d => { o with dst := d }) (fun ex a' w' => ex = .normal ∧ ∃ σ', K σ' ∧ SimE e U w0 S0 nt σ' a' w') (by rw [List.map_map]; exact List.map_id ds) (fun o' ho d hd' => by simp only [List.mem_singleton] at ho; subst ho; exact hd d hd') (fun a w σ' k1 k2 => ⟨rfl, σ', k1, k2⟩) hs
  unfold wpList at h1
  have hw : Region.wanted o (yielded (ds.map fun d => { o with dst := d }).toArray a.tmps) = true := by simp [Region.wanted, hg]
  rw [if_pos hw] at h1
  rcases h1 with h1 | ⟨_, a', w', h1, _⟩
  · refine wp_any (fun ex a w hne h => hne h.1) (Oper.wp_mono (fun a' w' hk => ?_) h1)
    simp only [wpList] at hk
    obtain ⟨_, σ', k1, k2⟩ := hk
    exact ⟨σ', runs_nil k1, k2⟩
  · cases h1
theorem gO3 {K : St -> Prop} {o : Oper} {s s1 : List (Nat × A)} {m m1 : List (Nat × Bk)} (hK : K ⟨s1, m1⟩) (h : runOps e.P ds 0 [o] ⟨s, m⟩ = .done ⟨s1, m1⟩ := by simp only [pz, ↓reduceIte, Nat.reduceEqDiff, Nat.reduceAdd, Nat.reduceSub, Nat.reduceMul, Nat.reduceLeDiff, Nat.reduceBEq, Bool.false_eq_true, decide_true, decide_false, Int.reduceLE, Int.reduceToNat, Int.reduceLT, Int.reduceEq, eq_self, Nat.reduceShiftRight, Nat.reduceAnd, Nat.reduceBneDiff, F]; exact rfl) : Runs e ds 0 [o] ⟨s, m⟩ K := runs_done h hK
theorem runs_quietA {K : St -> Prop} {n : Nat} {os : List Oper} {o : Oper} {σ : St} (hg : o.guard = none) (hal : isAl o = false) (h : QuietOk e o σ (fun σ' => Runs e ds n os σ' K)) : Runs e ds (n + 1) (o :: os) σ K := by
  simp only [Runs, hg]
  rw [if_neg (by simp [hal])]
  exact h
theorem gAq {K : St -> Prop} {os : List Oper} {n d ty : Nat} {p : String} {ed : Array Edge} {x : Operand} {y : D} {s : List (Nat × A)} {m : List (Nat × Bk)} (hK : Runs e ds n os ⟨(d, .d y) :: s, m⟩ K) (hx : evA s x = .d y := by first | (simp only [pz, ↓reduceIte, Nat.reduceEqDiff, Nat.reduceAdd, Nat.reduceSub, Nat.reduceMul, Nat.reduceLeDiff, Nat.reduceBEq, Bool.false_eq_true, decide_true, decide_false, Int.reduceLE, Int.reduceToNat, Int.reduceLT, Int.reduceEq, eq_self, Nat.reduceShiftRight, Nat.reduceAnd, Nat.reduceBneDiff, F]; done) | (simp only [pz, ↓reduceIte, Nat.reduceEqDiff, Nat.reduceAdd, Nat.reduceSub, Nat.reduceMul, Nat.reduceLeDiff, Nat.reduceBEq, Bool.false_eq_true, decide_true, decide_false, Int.reduceLE, Int.reduceToNat, Int.reduceLT, Int.reduceEq, eq_self, Nat.reduceShiftRight, Nat.reduceAnd, Nat.reduceBneDiff, F]; exact rfl)) : Runs e ds (n + 1) (⟨some d, .assign x, ty, p, ed, none⟩ :: os) ⟨s, m⟩ K :=
  runs_quietA rfl rfl fun he => ⟨.d y, hK, fun U base S0 => givesA_pure fun w S L ρv hC hr => ⟨ρv x, by simp [execOp], by
    have h := hr x (by simp [Op.operands])
    rw [hx] at h
    exact h⟩⟩
end
end Go.Proofs.YtkekkmpogmlopaaGreat
namespace Go.Proofs.YtkekkmpogmlopaaGreat
open Go.RowKit
set_option maxHeartbeats 4000000 in
set_option maxRecDepth 100000 in
theorem con_isSet (n : Int) : Con e0 185 [.one (.lit (.int .i64 n))] [.one (.lit (.bool (decide (0 <= n ∧ n <= 65535))))] := by
  refine gI 5 Tryz.func185 ?_
  by_cases h1 : 0 <= n <;> by_cases h2 : n <= 65535 <;> (have F := ai @h1 @h2; refine gG ?_; exact gT)
theorem encSub_u : ∀ p : Int × Int, encSub p = [.lit (.int .i64 p.1), .lit (.int .i64 p.2)] := fun _ => rfl
theorem u64_in {k : Nat} (h : k < 62) : IntKind.u64.wrap (k : Int) = (k : Int) := by
  have h2 : (k : Int) < 18446744073709551616 := by omega
  simp only [IntKind.wrap, IntKind.signed, IntKind.bits, Bool.false_eq_true, if_false]
  exact Int.emod_eq_of_lt (by omega) (by omega)
theorem un_int : Tryz.prog.underlying 3 = some (.int .i64) := by kernel_rfl
theorem un_uint : intKindT (Tryz.prog.underlying 248) = some .u64 := by kernel_rfl
theorem shl_k {k : Nat} (h : k < 62) : IntKind.i64.wrap (1 * 2 ^ min k 64) = ((2 ^ k : Nat) : Int) := by
  rw [Nat.min_eq_left (by omega), Int.one_mul, show (2 : Int) ^ k = ((2 ^ k : Nat) : Int) by rw [Int.natCast_pow]; rfl]
  have := pow_lt62 h
  generalize 2 ^ k = x at this ⊢
  exact IntWalk.i64_in _ (by omega)
theorem cv_uint (j : Int) : convX j (some (.int .i64)) (some .u64) = some (.d (.one (.lit (.int .u64 (IntKind.u64.wrap j))))) := rfl
set_option maxHeartbeats 4000000 in
set_option maxRecDepth 100000 in
theorem con_l2Bit {k : Nat} (hk : k < 62) : Con e0 201 [.one (.lit (.int .i64 k))] [.one (.lit (.int .i64 ((2 ^ k : Nat) : Int)))] := by
  have h1 := u64_in hk
  have h2 := shl_k hk
  refine gI 5 Tryz.func201 ?_
  (have F := ai @un_int (ai @un_uint (ai @cv_uint (ai @h1 (ai @h2 @natInt)))); refine gG ?_; exact gT)
def tbit (a k : Nat) : Bool := a.testBit k
theorem shr_k {a k : Nat} (ha : a < 4611686018427387904) (h : k < 62) : decide (bits .and .i64 ((a : Int).fdiv (2 ^ min k 64)) 1 = 1) = tbit a k := by
  rw [tbit]
  rw [Nat.min_eq_left (by omega), Int.fdiv_eq_ediv_of_nonneg _ (Int.pow_nonneg (by decide)), <- testBit_shr ha]
  exact (Bool.beq_eq_decide_eq _ _).symm
set_option maxHeartbeats 4000000 in
set_option maxRecDepth 100000 in
theorem con_l2Has {a k : Nat} (ha : a < 4611686018427387904) (hk : k < 16) : Con e0 176 [.one (.lit (.int .i64 a)), .one (.lit (.int .i64 k))] [.one (.lit (.bool (tbit a k)))] := by
  have h1 := u64_in (k := k) (by omega)
  have h2 := shr_k (k := k) ha (by omega)
  have z1 : ((k : Int) < 16) = True := eq_true (by omega)
  have z2 : ((0 : Int) <= (k : Int)) = True := eq_true (by omega)
  refine gI 19 Tryz.func176 ?_
  (have F := ai @un_int (ai @un_uint (ai @cv_uint (ai @h1 (ai @h2 (ai @natInt (ai @z1 @z2)))))); refine gG ?_; exact gT)
set_option maxHeartbeats 4000000 in
set_option maxRecDepth 100000 in
theorem con_l1Min (a b : Nat) : Con e0 181 [.one (.lit (.int .i64 a)), .one (.lit (.int .i64 b))] [.one (.lit (.int .i64 ((min a b : Nat) : Int)))] := by
  refine gI 147 Tryz.func181 ?_
  by_cases h : a < b
  · have z1 : ((a : Int) < (b : Int)) = True := eq_true (by omega)
    have e : min a b = a := Nat.min_eq_left (by omega)
    (have F := ai @z1 @e; refine gG ?_; exact gT)
  · have z1 : ((a : Int) < (b : Int)) = False := eq_false (by omega)
    have e : min a b = b := Nat.min_eq_right (by omega)
    (have F := ai @z1 @e; refine gG ?_; exact gT)
theorem fill0_0 (n : Nat) : fill0 n 0 = List.replicate n 0 := by simp [fill0, up0]
theorem upIter_0 (subs : List (Int × Int)) (l : List Nat) : upIter subs 0 l = l := rfl
theorem len_rep (n : Nat) (z : List C) : (List.replicate n z).length = n := List.length_replicate
def nR (l : List Nat) : List (List C) := (casts l).map encInt
section
variable {l : List Nat}
theorem nR_len : (nR l).length = l.length := by rw [nR, List.length_map, casts_len]
theorem nR_get {i x : Nat} (h : l[i]? = some x) : (nR l)[i]? = some [.lit (.int .i64 x)] := by rw [nR, List.getElem?_map, casts_get h]; rfl
theorem nR_set (i x : Nat) : (nR l).set i [.lit (.int .i64 x)] = nR (l.set i x) := by rw [nR, nR, casts_set, List.map_set]; rfl
theorem nR_rows : rowsB 1 (nR l) = true := rb_int _
theorem nR_snoc (x : Nat) : nR l ++ [[.lit (.int .i64 x)]] = nR (l ++ [x]) := by rw [nR, nR, casts_snoc, List.map_append]; rfl
end
theorem nR_0 (n : Nat) : List.replicate n [C.lit (.int .i64 0)] = nR (List.replicate n 0) := by simp [nR, casts, encInt]
theorem upSub_u : ∀ (l : List Nat) (p : Int × Int), upSub l p = l.set p.1.toNat (l.getD p.1.toNat 0 ||| l.getD p.2.toNat 0) := fun _ _ => rfl
theorem upSub_0 (subs : List (Int × Int)) (l : List Nat) : (subs.take 0).foldl upSub l = l := rfl
theorem kIter_0 (subs : List (Int × Int)) (l : List Nat) : kIter subs 0 l = l := rfl
theorem kSub_0 (subs : List (Int × Int)) (l : List Nat) : (subs.take 0).foldl kSub l = l := rfl
theorem kSub_step {subs : List (Int × Int)} {i : Nat} {p : Int × Int} (h : subs[i]? = some p) (l : List Nat) : (subs.take (i + 1)).foldl kSub l = kSub ((subs.take i).foldl kSub l) p := foldl_take h l
theorem nR_nil : nR (up0 0) = [] ∧ nR (List.range 0) = [] ∧ nR [] = [] := ⟨rfl, rfl, rfl⟩
theorem nR_bits (a : Nat) : nR (bitsTo a 0) = [] := rfl
theorem upSub_step {subs : List (Int × Int)} {i : Nat} {p : Int × Int} (h : subs[i]? = some p) (l : List Nat) : (subs.take (i + 1)).foldl upSub l = upSub ((subs.take i).foldl upSub l) p := foldl_take h l
section
variable {s : Srt}
set_option maxHeartbeats 8000000 in
set_option maxRecDepth 100000 in
theorem con_implAbove (h1 : 1 <= s.names.length) (h8 : s.names.length <= 8) (hm : s.subs.length <= 16) (hs : SubsIn s.names.length s.subs) : Con e0 144 [.agg (encSrt s)] [.one (.sl (nR (up s)))] := by
  have hmx : ((s.names.length : Int) <= (maxApp : Int)) = True := eq_true (by unfold maxApp; omega)
  rw [encSrt]
  refine gI 2072014943 Tryz.func144 ?_
  (have F := ai @hmx (ai @Int.toNat_natCast @len_rep); refine gG ?_; clear F)
  rw [nR_0]
  (have F := @fill0_0; refine gL (ι := Nat) [3, 4, 13, 14] [3] (fun k => [(13, A.d (.one (.lit (.int .i64 k)))), (3, .buf 3)]) (fun k => [(3, .buf none 3 1 (nR (fill0 s.names.length k)))]) (fun k => k <= s.names.length) (fun k => s.names.length - k) (0) (Nat.zero_le _) (fun k hk => ?_); clear F)
  by_cases hlt : k < s.names.length
  · have q1 : (k : Int) < (s.names.length : Int) := by omega
    have hw := wrap1 (k := k) (by omega)
    have hsh := shl_k (k := k) (by omega)
    have l1 := fill0_len (n := s.names.length) (k := k) (by omega)
    have l2 := nR_len (l := fill0 s.names.length k)
    have l3 := nR_rows (l := fill0 s.names.length k)
    have l4 := nR_set (l := fill0 s.names.length k) k (2 ^ k)
    rw [fill0_set hlt] at l4
    rw [l1] at l2
    obtain ⟨x, hx⟩ : ∃ x, (fill0 s.names.length k)[k]? = some x := ⟨_, List.getElem?_eq_getElem (by omega)⟩
    have l5 := nR_get hx
    (have F := ai @q1 (ai @hsh (ai @l2 (ai @l3 (ai @l4 (ai @l5 (ai @hlt (ai @hw @natInt))))))); refine gG ?_; exact ⟨k + 1, hlt, gw, gw, by omega⟩)
  obtain rfl : k = s.names.length := by omega
  have q1 : ¬ ((s.names.length : Int) < (s.names.length : Int)) := by omega
  rw [fill0_end]
  have hU := UpOk.start s.names.length
  have l0 : (nR (up0 s.names.length)).length = s.names.length := by rw [nR_len, hU.1]
  (have F := ai @q1 @l0; refine gG ?_; clear F)
  (have F := @upIter_0; refine gL (ι := Nat) [3, 6, 24, 25, 27, 28, 29, 30] [3] (fun j => [(24, A.d (.one (.lit (.int .i64 j)))), (3, .buf 3)]) (fun j => [(3, .buf none 3 1 (nR (upIter s.subs j (up0 s.names.length))))]) (fun j => j <= s.names.length) (fun j => s.names.length - j) (0) (Nat.zero_le _) (fun j hj => ?_); clear F)
  by_cases hlj : j < s.names.length
  rotate_left
  · obtain rfl : j = s.names.length := by omega
    have q2 : ¬ ((s.names.length : Int) < (s.names.length : Int)) := by omega
    rw [up]
    (have F := @q2; refine gG ?_; clear F)
    (have F := @e0P; refine gG ?_; exact gTz [2])
  have q2 : (j : Int) < (s.names.length : Int) := by omega
  have hwj := wrap1 (k := j) (by omega)
  have hUj := UpOk.iter hs j hU
  have hnx : upIter s.subs (j + 1) (up0 s.names.length) = s.subs.foldl upSub (upIter s.subs j (up0 s.names.length)) := rfl
  generalize upIter s.subs j (up0 s.names.length) = u at hUj hnx ⊢
  (have F := @q2; refine gG ?_; clear F)
  (have F := @upSub_0; refine gL (ι := Nat) [3, 6, 29, 30] [3] (fun i => [(29, A.d (.one (.lit (.int .i64 i)))), (3, .buf 3)]) (fun i => [(3, .buf none 3 1 (nR ((s.subs.take i).foldl upSub u)))]) (fun i => i <= s.subs.length) (fun i => s.subs.length - i) (0) (Nat.zero_le _) (fun i hi => ?_); clear F)
  by_cases hli : i < s.subs.length
  rotate_left
  · obtain rfl : i = s.subs.length := by omega
    have q3 : ¬ ((s.subs.length : Int) < (s.subs.length : Int)) := by omega
    rw [List.take_length, <- hnx]
    (have F := ai @q3 @hwj; refine gG ?_; exact ⟨j + 1, hlj, gw, gw, by omega⟩)
  have q3 : (i : Int) < (s.subs.length : Int) := by omega
  have hwi := wrap1 (k := i) (by omega)
  obtain ⟨p, hp⟩ : ∃ p, s.subs[i]? = some p := ⟨_, List.getElem?_eq_getElem hli⟩
  have hps := hs p (List.mem_of_getElem? hp)
  have hst := upSub_step hp u
  have hUi := UpOk.foldl hUj (hs.take i)
  generalize (s.subs.take i).foldl upSub u = v at hUi hst ⊢
  obtain ⟨g1, b1⟩ := hUi.get (i := p.1.toNat) (by omega)
  obtain ⟨g2, b2⟩ := hUi.get (i := p.2.toNat) (by omega)
  have p256 : 2 ^ s.names.length <= 256 := Nat.le_trans (Nat.pow_le_pow_right (by omega) h8) (by decide)
  have hor := bits_or (a := v.getD p.1.toNat 0) (b := v.getD p.2.toNat 0) (by omega) (by omega)
  have l1 := nR_get g1
  have l2 := nR_get g2
  have l3 := nR_len (l := v)
  rw [hUi.1] at l3
  have l4 := nR_rows (l := v)
  have l5 := nR_set (l := v) p.1.toNat (v.getD p.1.toNat 0 ||| v.getD p.2.toNat 0)
  have i1 : 0 <= p.1 := hps.1
  have i2 : 0 <= p.2 := hps.2.2.1
  have i3 : p.1.toNat < s.names.length := by omega
  have i4 : p.2.toNat < s.names.length := by omega
  (have F := ai @q3 (ai @hp (ai @encSub_u (ai @l1 (ai @l2 (ai @l3 (ai @l4 (ai @l5 (ai @hor (ai @i1 (ai @i2 (ai @i3 (ai @i4 (ai @hwi (ai @hst @upSub_u)))))))))))))); refine gG ?_; exact ⟨i + 1, hli, gw, gw, by omega⟩)
set_option maxHeartbeats 8000000 in
set_option maxRecDepth 100000 in
theorem con_l3Up (h8 : s.names.length <= 8) (hm : s.subs.length <= 16) (hs : SubsIn s.names.length s.subs) : Con e0 175 [.agg (encSrt s)] [.one (.sl (nR (up s)))] := by
  rw [encSrt]
  refine gI 2164265087 Tryz.func175 ?_
  (have F := @e0P; refine gG ?_; clear F)
  (have F := @nR_nil; refine gL (ι := Nat) [3, 4, 12] [3] (fun k => [(4, A.d (.one (.lit (.int .i64 k)))), (3, .buf 3)]) (fun k => [(3, .buf none 3 1 (nR (up0 k)))]) (fun k => k <= s.names.length) (fun k => s.names.length - k) (0) (Nat.zero_le _) (fun k hk => ?_); clear F)
  by_cases hlt : k < s.names.length
  · have q1 : (k : Int) < (s.names.length : Int) := by omega
    have hw := wrap1 (k := k) (by omega)
    have l2 := nR_len (l := up0 k)
    rw [(UpOk.start k).1] at l2
    have l3 := nR_rows (l := up0 k)
    have l4 := nR_snoc (l := up0 k) (2 ^ k)
    rw [<- up0_snoc] at l4
    have hmx : (k + 1 <= maxApp) = True := eq_true (by unfold maxApp; omega)
    (have F := @q1; refine gG ?_; clear F)
    refine gB ?_
    (have F := @e0P; refine gC (con_l2Bit (k := k) (by omega)) ?_; clear F)
    (have F := ai @l2 (ai @l3 (ai @l4 @hmx)); refine gR ?_; clear F)
    (have F := @hw; refine gG ?_; exact ⟨k + 1, hlt, gw, gw, by omega⟩)
  obtain rfl : k = s.names.length := by omega
  have q1 : ¬ ((s.names.length : Int) < (s.names.length : Int)) := by omega
  have hU := UpOk.start s.names.length
  (have F := @q1; refine gG ?_; clear F)
  (have F := @upIter_0; refine gL (ι := Nat) [3, 5, 6, 24, 31] [3] (fun j => [(5, A.d (.one (.lit (.int .i64 j)))), (3, .buf 3)]) (fun j => [(3, .buf none 3 1 (nR (upIter s.subs j (up0 s.names.length))))]) (fun j => j <= s.names.length) (fun j => s.names.length - j) (0) (Nat.zero_le _) (fun j hj => ?_); clear F)
  by_cases hlj : j < s.names.length
  rotate_left
  · obtain rfl : j = s.names.length := by omega
    have q2 : ¬ ((s.names.length : Int) < (s.names.length : Int)) := by omega
    rw [up]
    (have F := @q2; refine gG ?_; clear F)
    (have F := @e0P; refine gG ?_; exact gTz [2])
  have q2 : (j : Int) < (s.names.length : Int) := by omega
  have hwj := wrap1 (k := j) (by omega)
  have hUj := UpOk.iter hs j hU
  have hnx : upIter s.subs (j + 1) (up0 s.names.length) = s.subs.foldl upSub (upIter s.subs j (up0 s.names.length)) := rfl
  generalize upIter s.subs j (up0 s.names.length) = u at hUj hnx ⊢
  (have F := @q2; refine gG ?_; clear F)
  (have F := @upSub_0; refine gL (ι := Nat) [3, 6, 31] [3] (fun i => [(6, A.d (.one (.lit (.int .i64 i)))), (3, .buf 3)]) (fun i => [(3, .buf none 3 1 (nR ((s.subs.take i).foldl upSub u)))]) (fun i => i <= s.subs.length) (fun i => s.subs.length - i) (0) (Nat.zero_le _) (fun i hi => ?_); clear F)
  by_cases hli : i < s.subs.length
  rotate_left
  · obtain rfl : i = s.subs.length := by omega
    have q3 : ¬ ((s.subs.length : Int) < (s.subs.length : Int)) := by omega
    rw [List.take_length, <- hnx]
    (have F := ai @q3 @hwj; refine gG ?_; exact ⟨j + 1, hlj, gw, gw, by omega⟩)
  have q3 : (i : Int) < (s.subs.length : Int) := by omega
  have hwi := wrap1 (k := i) (by omega)
  obtain ⟨p, hp⟩ : ∃ p, s.subs[i]? = some p := ⟨_, List.getElem?_eq_getElem hli⟩
  have hps := hs p (List.mem_of_getElem? hp)
  have hst := upSub_step hp u
  have hUi := UpOk.foldl hUj (hs.take i)
  generalize (s.subs.take i).foldl upSub u = v at hUi hst ⊢
  obtain ⟨g1, b1⟩ := hUi.get (i := p.1.toNat) (by omega)
  obtain ⟨g2, b2⟩ := hUi.get (i := p.2.toNat) (by omega)
  have p256 : 2 ^ s.names.length <= 256 := Nat.le_trans (Nat.pow_le_pow_right (by omega) h8) (by decide)
  have hor := bits_or (a := v.getD p.1.toNat 0) (b := v.getD p.2.toNat 0) (by omega) (by omega)
  have l1 := nR_get g1
  have l2 := nR_get g2
  have l3 := nR_len (l := v)
  rw [hUi.1] at l3
  have l4 := nR_rows (l := v)
  have l5 := nR_set (l := v) p.1.toNat (v.getD p.1.toNat 0 ||| v.getD p.2.toNat 0)
  have i1 : 0 <= p.1 := hps.1
  have i2 : 0 <= p.2 := hps.2.2.1
  have i3 : p.1.toNat < s.names.length := by omega
  have i4 : p.2.toNat < s.names.length := by omega
  (have F := ai @q3 (ai @hp (ai @encSub_u (ai @l1 (ai @l2 (ai @l3 (ai @l4 (ai @l5 (ai @hor (ai @i1 (ai @i2 (ai @i3 (ai @i4 (ai @hwi (ai @hst @upSub_u)))))))))))))); refine gG ?_; exact ⟨i + 1, hli, gw, gw, by omega⟩)
set_option maxHeartbeats 8000000 in
set_option maxRecDepth 100000 in
theorem con_l3KindsR (h8 : s.names.length <= 8) (hm : s.subs.length <= 16) (hs : SubsIn s.names.length s.subs) : Con e0 138 [.agg (encSrt s)] [.one (.sl (nR (kinds s)))] := by
  rw [encSrt]
  refine gI 4328555519 Tryz.func138 ?_
  (have F := @e0P; refine gG ?_; clear F)
  (have F := @nR_nil; refine gL (ι := Nat) [3, 4, 15] [3] (fun k => [(4, A.d (.one (.lit (.int .i64 k)))), (3, .buf 3)]) (fun k => [(3, .buf none 3 1 (nR (List.range k)))]) (fun k => k <= s.names.length) (fun k => s.names.length - k) (0) (Nat.zero_le _) (fun k hk => ?_); clear F)
  by_cases hlt : k < s.names.length
  · have q1 : (k : Int) < (s.names.length : Int) := by omega
    have hw := wrap1 (k := k) (by omega)
    have l2 := nR_len (l := List.range k)
    rw [List.length_range] at l2
    have l3 := nR_rows (l := List.range k)
    have l4 := nR_snoc (l := List.range k) k
    rw [<- List.range_succ] at l4
    have hmx : (k + 1 <= maxApp) = True := eq_true (by unfold maxApp; omega)
    (have F := ai @q1 (ai @l2 (ai @l3 (ai @l4 (ai @hmx @hw)))); refine gG ?_; exact ⟨k + 1, hlt, gw, gw, by omega⟩)
  obtain rfl : k = s.names.length := by omega
  have q1 : ¬ ((s.names.length : Int) < (s.names.length : Int)) := by omega
  have hU := KOk.start s.names.length
  (have F := @q1; refine gG ?_; clear F)
  (have F := @kIter_0; refine gL (ι := Nat) [3, 5, 6, 7, 8, 9, 25, 32] [3] (fun j => [(5, A.d (.one (.lit (.int .i64 j)))), (3, .buf 3)]) (fun j => [(3, .buf none 3 1 (nR (kIter s.subs j (List.range s.names.length))))]) (fun j => j <= s.names.length) (fun j => s.names.length - j) (0) (Nat.zero_le _) (fun j hj => ?_); clear F)
  have hUj := KOk.iter hs j hU
  have l0 := nR_len (l := kIter s.subs j (List.range s.names.length))
  rw [hUj.1] at l0
  by_cases hlj : j < s.names.length
  rotate_left
  · obtain rfl : j = s.names.length := by omega
    have q2 : ¬ ((s.names.length : Int) < (s.names.length : Int)) := by omega
    rw [kinds]
    (have F := ai @l0 @q2; refine gG ?_; clear F)
    (have F := @e0P; refine gG ?_; exact gTz [2])
  have q2 : (j : Int) < (s.names.length : Int) := by omega
  have hwj := wrap1 (k := j) (by omega)
  have hnx : kIter s.subs (j + 1) (List.range s.names.length) = s.subs.foldl kSub (kIter s.subs j (List.range s.names.length)) := rfl
  generalize kIter s.subs j (List.range s.names.length) = u at hUj hnx l0 ⊢
  (have F := ai @l0 @q2; refine gG ?_; clear F)
  (have F := @kSub_0; refine gL (ι := Nat) [3, 6, 7, 8, 9, 32] [3] (fun i => [(6, A.d (.one (.lit (.int .i64 i)))), (3, .buf 3)]) (fun i => [(3, .buf none 3 1 (nR ((s.subs.take i).foldl kSub u)))]) (fun i => i <= s.subs.length) (fun i => s.subs.length - i) (0) (Nat.zero_le _) (fun i hi => ?_); clear F)
  by_cases hli : i < s.subs.length
  rotate_left
  · obtain rfl : i = s.subs.length := by omega
    have q3 : ¬ ((s.subs.length : Int) < (s.subs.length : Int)) := by omega
    rw [List.take_length, <- hnx]
    (have F := ai @q3 @hwj; refine gG ?_; exact ⟨j + 1, hlj, gw, gw, by omega⟩)
  have q3 : (i : Int) < (s.subs.length : Int) := by omega
  have hwi := wrap1 (k := i) (by omega)
  obtain ⟨p, hp⟩ : ∃ p, s.subs[i]? = some p := ⟨_, List.getElem?_eq_getElem hli⟩
  have hps := hs p (List.mem_of_getElem? hp)
  have hst := kSub_step hp u
  have hUi := KOk.foldl hUj (hs.take i)
  generalize (s.subs.take i).foldl kSub u = v at hUi hst ⊢
  obtain ⟨g1, b1⟩ := hUi.get (i := p.1.toNat) (by omega)
  obtain ⟨g2, b2⟩ := hUi.get (i := p.2.toNat) (by omega)
  have l1 := nR_get g1
  have l2 := nR_get g2
  have l3 := nR_len (l := v)
  rw [hUi.1] at l3
  have l4 := nR_rows (l := v)
  have l5 := nR_set (l := v) p.1.toNat (min (v.getD p.1.toNat 0) (v.getD p.2.toNat 0))
  have l6 := nR_set (l := v.set p.1.toNat (min (v.getD p.1.toNat 0) (v.getD p.2.toNat 0))) p.2.toNat (min (v.getD p.1.toNat 0) (v.getD p.2.toNat 0))
  have l7 := nR_len (l := v.set p.1.toNat (min (v.getD p.1.toNat 0) (v.getD p.2.toNat 0)))
  rw [List.length_set, hUi.1] at l7
  have l8 := nR_rows (l := v.set p.1.toNat (min (v.getD p.1.toNat 0) (v.getD p.2.toNat 0)))
  obtain ⟨x9, g9⟩ : ∃ x, (v.set p.1.toNat (min (v.getD p.1.toNat 0) (v.getD p.2.toNat 0)))[p.2.toNat]? = some x := ⟨_, List.getElem?_eq_getElem (by rw [List.length_set, hUi.1]; omega)⟩
  have l9 := nR_get g9
  have i1 : 0 <= p.1 := hps.1
  have i2 : 0 <= p.2 := hps.2.2.1
  have i3 : p.1.toNat < s.names.length := by omega
  have i4 : p.2.toNat < s.names.length := by omega
  have hst : (s.subs.take (i + 1)).foldl kSub u = (v.set p.1.toNat (min (v.getD p.1.toNat 0) (v.getD p.2.toNat 0))).set p.2.toNat (min (v.getD p.1.toNat 0) (v.getD p.2.toNat 0)) := hst
  (have F := @q3; have NN : StopAt 12 := trivial; refine gGn ?_; clear F NN)
  refine region_Dk 14 (by decide +kernel) ?_
  intro ds hds
  simp only [List.map] at hds
  subst hds
  refine (have F := ai hp encSub_u; gP 12 ?_)
  refine (have F := i1; gAq ?_)
  refine (have F := i1; gAq ?_)
  (have F := @i1; refine gR ?_; clear F)
  (have F := @e0P; have NN : StopAt 13 := trivial; refine gGn ?_; clear F NN)
  refine gB ?_
  (have F := ai @l1 (ai @l2 (ai @l3 (ai @l4 (ai @i1 (ai @i2 (ai @i3 @i4)))))); refine gC (con_l1Min (v.getD p.1.toNat 0) (v.getD p.2.toNat 0)) ?_; clear F)
  (have F := @e0P; refine gR ?_; clear F)
  (have F := ai @l1 (ai @l2 (ai @l3 (ai @l4 (ai @l5 (ai @l6 (ai @l7 (ai @l8 (ai @l9 (ai @i1 (ai @i2 (ai @i3 (ai @i4 (ai @hwi @hst))))))))))))); refine gG ?_; exact ⟨i + 1, hli, gw, gw, by omega⟩)
theorem con_l3Kinds (hs : SortsOk s) : Con e0 138 [.agg (encSrt s)] [.one (.sl ((casts (kinds s)).map encInt))] := con_l3KindsR hs.n8 hs.m16 (SortsOk.subsIn hs.subs)
end
theorem and_k {x k : Nat} (hx : x < 4611686018427387904) (hk : k < 62) : decide (bits .and .i64 (x : Int) ((2 ^ k : Nat) : Int) = 0) = !(tbit x k) := by
  rw [tbit, <- testBit_and, bits_and hx (pow_lt62 hk)]
  simp only [bne, Bool.not_not]
  rw [Bool.eq_iff_iff, decide_eq_true_eq, beq_iff_eq]
  omega
set_option maxHeartbeats 8000000 in
set_option maxRecDepth 100000 in
theorem con_listOf {a : Nat} (ha : a < 65536) : Con e0 145 [.one (.lit (.int .i64 a))] [.one (.sl (nR (listOf a)))] := by
  have cS := con_isSet (a : Int)
  have z0 : decide (0 <= (a : Int) ∧ (a : Int) <= 65535) = true := decide_eq_true (by omega)
  rw [z0] at cS
  refine gI 264221 Tryz.func145 ?_
  (have F := @e0P; refine gG ?_; clear F)
  (have F := @nR_bits; refine gL (ι := Nat) [3, 4, 11, 18] [3] (fun k => [(4, A.d (.one (.lit (.int .i64 k)))), (3, .buf 3)]) (fun k => [(3, .buf none 3 1 (nR (bitsTo a k)))]) (fun k => k <= 16) (fun k => 16 - k) (0) (by omega) (fun k hk => ?_); clear F)
  by_cases hlt : k < 16
  rotate_left
  · obtain rfl : k = 16 := by omega
    have q1 : ¬ (((16 : Nat) : Int) < 16) := by omega
    rw [show listOf a = bitsTo a 16 from rfl]
    (have F := @q1; refine gG ?_; clear F)
    (have F := @e0P; refine gG ?_; exact gTz [2])
  have q1 : ((k : Int) < 16) = True := eq_true (by omega)
  have hw := wrap1 (k := k) (by omega)
  have h1 := shl_k (k := k) (by omega)
  have h2 := and_k (x := a) (k := k) (by omega) (by omega)
  (have F := @e0P; have NN : StopAt 3 := trivial; refine gGn ?_; clear F NN)
  refine gB ?_
  (have F := @q1; refine gC (cS) ?_; clear F)
  (have F := @q1; refine gR ?_; clear F)
  have l2 := nR_len (l := bitsTo a k)
  have l3 := nR_rows (l := bitsTo a k)
  have l4 := nR_snoc (l := bitsTo a k) k
  have hmx : ((bitsTo a k).length + 1 <= maxApp) = True := eq_true (by have := bitsTo_len a k; unfold maxApp; omega)
  cases hb : tbit a k with
  | false =>
    rw [hb] at h2
    rw [<- bitsTo_no hb]
    (have F := ai @q1 (ai @h1 (ai @h2 (ai @natInt @hw))); refine gG ?_; exact ⟨k + 1, hlt, gw, gw, by omega⟩)
  | true =>
    rw [hb] at h2
    rw [<- bitsTo_yes hb] at l4
    (have F := ai @q1 (ai @h1 (ai @h2 (ai @natInt (ai @l2 (ai @l3 (ai @l4 (ai @hmx @hw))))))); refine gG ?_; exact ⟨k + 1, hlt, gw, gw, by omega⟩)
end Go.Proofs.YtkekkmpogmlopaaGreat
namespace Go.Proofs.YtkekkmpogmlopaaGreat
open Go.RowKit Go.MapKept Go.ChangeMaps
def MapL (w : World) (b : Nat) (l : List (ByteArray × Value)) : Prop := ∃ (es : Array MapEntry) (clock : Nat), w.heap[b]? = some (.map es clock) ∧ es.toList.map (fun e => (e.key, e.val)) = l.map (fun p => (Value.string p.1, p.2))
def findS (l : List (ByteArray × Value)) (s : ByteArray) : Option Value := (l.find? fun p => s.toList == p.1.toList).map (·.2)
def mapB (b : Nat) (l : List (ByteArray × Value)) : Bk := .set (fun g => g = b) fun w => MapL w b l
theorem MapL.stable (b : Nat) (l : List (ByteArray × Value)) : StableOn (fun g => g = b) fun w => MapL w b l := fun w w' _ hE ⟨es, c, h1, h2⟩ => ⟨es, c, by rw [hE b rfl]; exact h1, h2⟩
theorem MapL.lt {w : World} {b : Nat} {l : List (ByteArray × Value)} (h : MapL w b l) : b < w.heap.size := by
  obtain ⟨es, clock, h, _⟩ := h
  exact (Array.getElem?_eq_some_iff.1 h).1
theorem find_map (s : ByteArray) : ∀ (es : List MapEntry) (l : List (ByteArray × Value)) (i : Nat), es.map (fun e => (e.key, e.val)) = l.map (fun p => (Value.string p.1, p.2)) ->
    (∀ v, findS l s = some v -> ∃ j, Instr.findNow .string (.string s) es i = some (some (j, v))) ∧ (findS l s = none -> Instr.findNow .string (.string s) es i = some none)
  | [], [], i, _ => ⟨fun v h => by simp [findS] at h, fun _ => rfl⟩
  | [], _ :: _, _, h => by simp at h
  | _ :: _, [], _, h => by simp at h
  | e :: es, t :: ts, i, h => by
    simp only [List.map_cons, List.cons.injEq, Prod.mk.injEq] at h
    obtain ⟨⟨h1, h2⟩, h3⟩ := h
    obtain ⟨ih1, ih2⟩ := find_map s es ts (i + 1) h3
    simp only [Instr.findNow, h1, h2, Instr.sameNow, beq_toListBytes, findS, List.find?_cons]
    cases he : (s.toList == t.1.toList)
    · exact ⟨ih1, ih2⟩
    · exact ⟨fun v hv => ⟨i, by simpa using hv⟩, fun h => by simp at h⟩
section
variable {P : Program} {w : World} {b : Nat} {l : List (ByteArray × Value)} {t k el : TypeId}
theorem run_look (h : MapL w b l) (ht : P.underlying t = some (.map k el)) (hk : P.underlying k = some .string) {z : Value} (hz : ∀ w, (zeroValue el).run P w = .ok z w) (s : ByteArray) (ok : Bool) :
    (Instr.lookup t (.map (some b)) (.string s) ok).run P w = .ok (if ok then .tuple #[(findS l s).getD z, .bool (findS l s).isSome] else (findS l s).getD z) w := by
  obtain ⟨es, clock, h1, h2⟩ := h
  obtain ⟨f1, f2⟩ := find_map s es.toList l 0 h2
  have hc : ∀ em, (Instr.checkKey em 10000 k (.string s)).run P w = .ok () w := fun em => MapKept.run_checkKey hk (by simp [MapKept.IsKey]) em 9999
  rcases hs : findS l s with _ | v
  · have := MapKept.run_findKey (w := w) hk (f2 hs)
    simp [Instr.lookup, run_underlying ht, MapKept.run_getObj_map h1, hc, this, hs, hz]
  · obtain ⟨j, hf⟩ := f1 v hs
    have := MapKept.run_findKey (w := w) hk hf
    simp [Instr.lookup, run_underlying ht, MapKept.run_getObj_map h1, hc, this, hs]
theorem run_put (h : MapL w b l) (ht : P.underlying t = some (.map k el)) (hk : P.underlying k = some .string) {s : ByteArray} (hs : findS l s = none) (v : Value) :
    ∃ w', (Instr.mapUpdate t (.map (some b)) (.string s) v).run P w = .ok () w' ∧ MapL w' b (l ++ [(s, v)]) ∧ w'.os = w.os ∧ w'.tape = w.tape ∧ w'.output = w.output ∧ w'.drawn = w.drawn ∧ w'.heap.size = w.heap.size ∧ ∀ x, x ≠ b -> w'.heap[x]? = w.heap[x]? := by
  obtain ⟨es, clock, h1, h2⟩ := h
  obtain ⟨f1, f2⟩ := find_map s es.toList l 0 h2
  have hc : ∀ em, (Instr.checkKey em 10000 k (.string s)).run P w = .ok () w := fun em => MapKept.run_checkKey hk (by simp [MapKept.IsKey]) em 9999
  have := MapKept.run_findKey (w := w) hk (f2 hs)
  refine ⟨setBlock w b (.map (es.push { key := .string s, val := v, born := clock }) (clock + 1)), ?_, ⟨_, _, heap_setBlock_same h1 _, by simp [h2]⟩, rfl, rfl, rfl, rfl, by simp [setBlock], fun x hx => heap_setBlock_other h1 _ hx⟩
  simp [Instr.mapUpdate, run_underlying ht, MapKept.run_getObj_map h1, hc, this, MapKept.run_setObj_map _ h1, setBlock]
end
section
variable {e : Env} {σ : St} {o : Oper} {K : St -> Prop}
theorem step_newMap {t : TypeId} (ho : o.op = .makeMap t none) {d : Nat} (hdd : o.dst = some d) (hK : ∀ b : Nat, K ⟨(d, .d (.one (.lit (.map (some b))))) :: killK d σ.s, (d, mapB b []) :: remM d σ.m⟩) : StepOk e o σ K := by
  intro he U w0 S0 nt a w Q hd ⟨S, L, h1⟩
  have hb : Below w.heap.size w (w.alloc (.map #[] 0)) := belowA w _
  have hk : Kept e.D (fun b => (none : Option Nat) = some b) w.heap.size w (w.alloc (.map #[] 0)) := Kept.of_below hb (fun _ => Nat.le_refl _)
  unfold Oper.wp
  have hrun : (execOp a.eval o).run e.P w = .ok (.value (.map (some w.heap.size))) (w.alloc (.map #[] 0)) := by
    simp [execOp, ho, Instr.makeMap, newObj, Result.andThen]
    rfl
  rw [hrun, Oper.upon_value, hdd]
  refine ⟨_, hK w.heap.size, h1.born he (hd d hdd) (τ := none) (b' := 0) (v' := Go.undef) (S' := S) (fun _ h => h) (fun _ h => .inl h) (fun t => .inl rfl) (fun k x h => h) (by simp) (by simp) hk ?_ ?_ (by simp [ARel, DRel, Rep])⟩
  · simp only [Own1, mapB]
    refine ⟨fun b hb' => ?_, ⟨#[], 0, heap_alloc_new w _, rfl⟩, MapL.stable _ _⟩
    subst hb'
    exact ⟨by simp, fun hs => by have := (h1.cls.sin _ hs).1; omega⟩
  · intro g hg
    simp only [blkOf, mapB] at hg
    exact .inr (by omega)
theorem step_look {t : TypeId} {x y : Operand} {ok : Bool} (ho : o.op = .lookup t x y ok) {κ b : Nat} {l : List (ByteArray × Value)} {s : ByteArray} {kt el : TypeId} {z : Value} (ht : e.P.underlying t = some (.map kt el)) (hk : e.P.underlying kt = some .string) (hz : ∀ w, (zeroValue el).run e.P w = .ok z w)
    (hx : evA σ.s x = .d (.one (.lit (.map (some b))))) (hy : evA σ.s y = .d (.one (.lit (.string s)))) (hm : gm σ.m κ = some (mapB b l)) {α : A} (hα : ∀ (w : World) (S : Nat -> Prop) (L : Lay), ARel w S L α (if ok then .tuple #[(findS l s).getD z, .bool (findS l s).isSome] else (findS l s).getD z)) (hK : K ⟨setA σ.s o.dst α, σ.m⟩) : StepOk e o σ K := by
  intro he U w0 S0 nt a w Q hd ⟨S, L, h1⟩
  have hx' := h1.eval x
  have hy' := h1.eval y
  rw [hx] at hx'
  rw [hy] at hy'
  have hx' : a.eval x = .map (some b) := by simpa [ARel, DRel, Rep] using hx'
  have hy' : a.eval y = .string s := by simpa [ARel, DRel, Rep] using hy'
  obtain ⟨_, hM, _⟩ := h1.cls.own κ _ hm
  unfold Oper.wp
  have hrun : (execOp a.eval o).run e.P w = .ok (.value (if ok then .tuple #[(findS l s).getD z, .bool (findS l s).isSome] else (findS l s).getD z)) w := by
    simp [execOp, ho, hx', hy', run_look hM ht hk hz s ok, Result.andThen]
  rw [hrun, Oper.upon_value]
  exact ⟨_, hK, S, L, h1.put (hα w S L) hd⟩
theorem step_put {t : TypeId} {x y u : Operand} (ho : o.op = .mapUpdate t x y u) {κ b : Nat} {l : List (ByteArray × Value)} {s : ByteArray} {kt el : TypeId} {v : Value} (hdn : o.dst = none) (ht : e.P.underlying t = some (.map kt el)) (hk : e.P.underlying kt = some .string)
    (hx : evA σ.s x = .d (.one (.lit (.map (some b))))) (hy : evA σ.s y = .d (.one (.lit (.string s)))) (hu : evA σ.s u = .d (.one (.lit v))) (hm : gm σ.m κ = some (mapB b l)) (hs : findS l s = none) (hK : K ⟨σ.s, (κ, mapB b (l ++ [(s, v)])) :: remM κ σ.m⟩) : StepOk e o σ K := by
  intro he U w0 S0 nt a w Q hd ⟨S, L, h1⟩
  have hx' := h1.eval x
  have hy' := h1.eval y
  have hu' := h1.eval u
  rw [hx] at hx'
  rw [hy] at hy'
  rw [hu] at hu'
  have hx' : a.eval x = .map (some b) := by simpa [ARel, DRel, Rep] using hx'
  have hy' : a.eval y = .string s := by simpa [ARel, DRel, Rep] using hy'
  have hu' : a.eval u = v := by simpa [ARel, DRel, Rep] using hu'
  obtain ⟨hbb, hM, _⟩ := h1.cls.own κ _ hm
  obtain ⟨w', hrun, hM', o1, o2, o3, o4, o5, o6⟩ := run_put hM ht hk hs v
  unfold Oper.wp
  have hrun : (execOp a.eval o).run e.P w = .ok .skip w' := by
    simp [execOp, ho, hx', hy', hu', hrun, Result.andThen]
  rw [hrun, Oper.upon_skip, hdn]
  have hkc : ∀ c, S c -> w'.heap[c]? = w.heap[c]? := fun c hc => o6 c fun e1 => (hbb b rfl).2 (e1 ▸ hc)
  obtain ⟨t1, t2, t3⟩ := h1.touch he (d := κ) (bk := mapB b (l ++ [(s, v)])) (m' := (κ, mapB b (l ++ [(s, v)])) :: remM κ σ.m) (w' := w') (L' := L) (τ := some b) (S' := S) (fun _ h => h) (fun _ h => .inl h)
    (fun k' x hkd hx => by simp only [gm, hkd, if_false, gm_remM] at hx; exact hx) (by simp [gm]) (fun _ _ => ⟨rfl, rfl⟩)
    (fun g hg => by injection hg with hg; subst hg; exact ⟨(hbb b rfl).2, h1.cls.notE hm rfl, h1.cls.mine κ _ _ hm rfl⟩)
    (fun k' x g hkd hx hg hb => by
      injection hg with hg; subst hg
      simp only [gm, hkd, if_false, gm_remM] at hx
      exact hkd (h1.cls.inj k' κ x _ _ hx hm hb rfl))
    ⟨o1, o2, o3, fun _ => Nat.le_of_eq o4.symm, by omega, fun c hc hE => o6 c (fun eq => hE (by rw [eq]))⟩
    ⟨fun c hc => by have := hbb c hc; exact ⟨by omega, this.2⟩, hM', MapL.stable _ _⟩ (fun g hg => .inl (by simp only [blkOf, mapB] at hg; rw [hg]))
  exact ⟨_, hK, S, L, t1, fun t => t3 _ _ (fun _ => ⟨rfl, rfl⟩) (h1.rel t), h1.size, h1.defers, t2⟩
end
section
variable {e : Env} {K : St -> Prop} {ds : List (Option Nat)} {os : List Oper} {s : List (Nat × A)} {m : List (Nat × Bk)}
theorem runs_step0 {o : Oper} {σ : St} (hg : o.guard = none) (h : StepOk e o σ (fun σ' => Runs e ds 0 os σ' K)) : Runs e ds 0 (o :: os) σ K := by
  simp only [Runs] at h ⊢
  exact runsS_step hg h
theorem gMk {d t ty : Nat} {p : String} {ed : Array Edge} {s2 : List (Nat × A)} {m2 : List (Nat × Bk)} (hK : ∀ b : Nat, Runs e ds 0 os ⟨(d, .d (.one (.lit (.map (some b))))) :: s2, (d, mapB b []) :: m2⟩ K) (hs : killK d s = s2 := by simp only [pz, ↓reduceIte, Nat.reduceEqDiff, Nat.reduceAdd, Nat.reduceSub, Nat.reduceMul, Nat.reduceLeDiff, Nat.reduceBEq, Bool.false_eq_true, decide_true, decide_false, Int.reduceLE, Int.reduceToNat, Int.reduceLT, Int.reduceEq, eq_self, Nat.reduceShiftRight, Nat.reduceAnd, Nat.reduceBneDiff]; exact rfl) (hr : remM d m = m2 := by simp only [pz, ↓reduceIte, Nat.reduceEqDiff, Nat.reduceAdd, Nat.reduceSub, Nat.reduceMul, Nat.reduceLeDiff, Nat.reduceBEq, Bool.false_eq_true, decide_true, decide_false, Int.reduceLE, Int.reduceToNat, Int.reduceLT, Int.reduceEq, eq_self, Nat.reduceShiftRight, Nat.reduceAnd, Nat.reduceBneDiff]; exact rfl) : Runs e ds 0 (⟨some d, .makeMap t none, ty, p, ed, none⟩ :: os) ⟨s, m⟩ K :=
  runs_step0 rfl (step_newMap rfl rfl (by simp only [hs, hr]; exact hK))
theorem gLk {d t ty : Nat} {p : String} {ed : Array Edge} {x y : Operand} {b : Nat} {l : List (ByteArray × Value)} {k : ByteArray} {kt el : TypeId} {z v : Value} (κ : Nat) (ht : e.P.underlying t = some (.map kt el)) (hk : e.P.underlying kt = some .string) (hz : ∀ w, (zeroValue el).run e.P w = .ok z w) (hv : (findS l k).getD z = v)
    (hK : Runs e ds 0 os ⟨(d, .d (.one (.lit v))) :: s, m⟩ K) (hx : evA s x = .d (.one (.lit (.map (some b)))) := by first | (simp only [pz, ↓reduceIte, Nat.reduceEqDiff, Nat.reduceAdd, Nat.reduceSub, Nat.reduceMul, Nat.reduceLeDiff, Nat.reduceBEq, Bool.false_eq_true, decide_true, decide_false, Int.reduceLE, Int.reduceToNat, Int.reduceLT, Int.reduceEq, eq_self, Nat.reduceShiftRight, Nat.reduceAnd, Nat.reduceBneDiff, F]; done) | (simp only [pz, ↓reduceIte, Nat.reduceEqDiff, Nat.reduceAdd, Nat.reduceSub, Nat.reduceMul, Nat.reduceLeDiff, Nat.reduceBEq, Bool.false_eq_true, decide_true, decide_false, Int.reduceLE, Int.reduceToNat, Int.reduceLT, Int.reduceEq, eq_self, Nat.reduceShiftRight, Nat.reduceAnd, Nat.reduceBneDiff, F]; exact rfl)) (hy : evA s y = .d (.one (.lit (.string k))) := by first | (simp only [pz, ↓reduceIte, Nat.reduceEqDiff, Nat.reduceAdd, Nat.reduceSub, Nat.reduceMul, Nat.reduceLeDiff, Nat.reduceBEq, Bool.false_eq_true, decide_true, decide_false, Int.reduceLE, Int.reduceToNat, Int.reduceLT, Int.reduceEq, eq_self, Nat.reduceShiftRight, Nat.reduceAnd, Nat.reduceBneDiff, F]; done) | (simp only [pz, ↓reduceIte, Nat.reduceEqDiff, Nat.reduceAdd, Nat.reduceSub, Nat.reduceMul, Nat.reduceLeDiff, Nat.reduceBEq, Bool.false_eq_true, decide_true, decide_false, Int.reduceLE, Int.reduceToNat, Int.reduceLT, Int.reduceEq, eq_self, Nat.reduceShiftRight, Nat.reduceAnd, Nat.reduceBneDiff, F]; exact rfl)) (hm : gm m κ = some (mapB b l) := by first | (simp only [pz, ↓reduceIte, Nat.reduceEqDiff, Nat.reduceAdd, Nat.reduceSub, Nat.reduceMul, Nat.reduceLeDiff, Nat.reduceBEq, Bool.false_eq_true, decide_true, decide_false, Int.reduceLE, Int.reduceToNat, Int.reduceLT, Int.reduceEq, eq_self, Nat.reduceShiftRight, Nat.reduceAnd, Nat.reduceBneDiff]; done) | (simp only [pz, ↓reduceIte, Nat.reduceEqDiff, Nat.reduceAdd, Nat.reduceSub, Nat.reduceMul, Nat.reduceLeDiff, Nat.reduceBEq, Bool.false_eq_true, decide_true, decide_false, Int.reduceLE, Int.reduceToNat, Int.reduceLT, Int.reduceEq, eq_self, Nat.reduceShiftRight, Nat.reduceAnd, Nat.reduceBneDiff]; exact rfl)) : Runs e ds 0 (⟨some d, .lookup t x y false, ty, p, ed, none⟩ :: os) ⟨s, m⟩ K :=
  runs_step0 rfl (step_look rfl ht hk hz hx hy hm (α := .d (.one (.lit v))) (fun w S L => by rw [<- hv]; simp [ARel, DRel, Rep]) hK)
theorem gUp {t ty : Nat} {p : String} {ed : Array Edge} {x y u : Operand} {b : Nat} {l : List (ByteArray × Value)} {k : ByteArray} {kt el : TypeId} {v : Value} {m2 : List (Nat × Bk)} (κ : Nat) (ht : e.P.underlying t = some (.map kt el)) (hk : e.P.underlying kt = some .string) (hs : findS l k = none)
    (hK : Runs e ds 0 os ⟨s, (κ, mapB b (l ++ [(k, v)])) :: m2⟩ K) (hx : evA s x = .d (.one (.lit (.map (some b)))) := by first | (simp only [pz, ↓reduceIte, Nat.reduceEqDiff, Nat.reduceAdd, Nat.reduceSub, Nat.reduceMul, Nat.reduceLeDiff, Nat.reduceBEq, Bool.false_eq_true, decide_true, decide_false, Int.reduceLE, Int.reduceToNat, Int.reduceLT, Int.reduceEq, eq_self, Nat.reduceShiftRight, Nat.reduceAnd, Nat.reduceBneDiff, F]; done) | (simp only [pz, ↓reduceIte, Nat.reduceEqDiff, Nat.reduceAdd, Nat.reduceSub, Nat.reduceMul, Nat.reduceLeDiff, Nat.reduceBEq, Bool.false_eq_true, decide_true, decide_false, Int.reduceLE, Int.reduceToNat, Int.reduceLT, Int.reduceEq, eq_self, Nat.reduceShiftRight, Nat.reduceAnd, Nat.reduceBneDiff, F]; exact rfl)) (hy : evA s y = .d (.one (.lit (.string k))) := by first | (simp only [pz, ↓reduceIte, Nat.reduceEqDiff, Nat.reduceAdd, Nat.reduceSub, Nat.reduceMul, Nat.reduceLeDiff, Nat.reduceBEq, Bool.false_eq_true, decide_true, decide_false, Int.reduceLE, Int.reduceToNat, Int.reduceLT, Int.reduceEq, eq_self, Nat.reduceShiftRight, Nat.reduceAnd, Nat.reduceBneDiff, F]; done) | (simp only [pz, ↓reduceIte, Nat.reduceEqDiff, Nat.reduceAdd, Nat.reduceSub, Nat.reduceMul, Nat.reduceLeDiff, Nat.reduceBEq, Bool.false_eq_true, decide_true, decide_false, Int.reduceLE, Int.reduceToNat, Int.reduceLT, Int.reduceEq, eq_self, Nat.reduceShiftRight, Nat.reduceAnd, Nat.reduceBneDiff, F]; exact rfl)) (hu : evA s u = .d (.one (.lit v)) := by first | (simp only [pz, ↓reduceIte, Nat.reduceEqDiff, Nat.reduceAdd, Nat.reduceSub, Nat.reduceMul, Nat.reduceLeDiff, Nat.reduceBEq, Bool.false_eq_true, decide_true, decide_false, Int.reduceLE, Int.reduceToNat, Int.reduceLT, Int.reduceEq, eq_self, Nat.reduceShiftRight, Nat.reduceAnd, Nat.reduceBneDiff, F]; done) | (simp only [pz, ↓reduceIte, Nat.reduceEqDiff, Nat.reduceAdd, Nat.reduceSub, Nat.reduceMul, Nat.reduceLeDiff, Nat.reduceBEq, Bool.false_eq_true, decide_true, decide_false, Int.reduceLE, Int.reduceToNat, Int.reduceLT, Int.reduceEq, eq_self, Nat.reduceShiftRight, Nat.reduceAnd, Nat.reduceBneDiff, F]; exact rfl))
    (hm : gm m κ = some (mapB b l) := by first | (simp only [pz, ↓reduceIte, Nat.reduceEqDiff, Nat.reduceAdd, Nat.reduceSub, Nat.reduceMul, Nat.reduceLeDiff, Nat.reduceBEq, Bool.false_eq_true, decide_true, decide_false, Int.reduceLE, Int.reduceToNat, Int.reduceLT, Int.reduceEq, eq_self, Nat.reduceShiftRight, Nat.reduceAnd, Nat.reduceBneDiff]; done) | (simp only [pz, ↓reduceIte, Nat.reduceEqDiff, Nat.reduceAdd, Nat.reduceSub, Nat.reduceMul, Nat.reduceLeDiff, Nat.reduceBEq, Bool.false_eq_true, decide_true, decide_false, Int.reduceLE, Int.reduceToNat, Int.reduceLT, Int.reduceEq, eq_self, Nat.reduceShiftRight, Nat.reduceAnd, Nat.reduceBneDiff]; exact rfl)) (hr : remM κ m = m2 := by simp only [pz, ↓reduceIte, Nat.reduceEqDiff, Nat.reduceAdd, Nat.reduceSub, Nat.reduceMul, Nat.reduceLeDiff, Nat.reduceBEq, Bool.false_eq_true, decide_true, decide_false, Int.reduceLE, Int.reduceToNat, Int.reduceLT, Int.reduceEq, eq_self, Nat.reduceShiftRight, Nat.reduceAnd, Nat.reduceBneDiff]; exact rfl) : Runs e ds 0 (⟨none, .mapUpdate t x y u, ty, p, ed, none⟩ :: os) ⟨s, m⟩ K :=
  runs_step0 rfl (step_put rfl rfl ht hk hx hy hu hm hs (by simp only [hr]; exact hK))
end
end Go.Proofs.YtkekkmpogmlopaaGreat
namespace Go.Proofs.YtkekkmpogmlopaaGreat
open Go.RowKit
def seenL (l : List ByteArray) : List (ByteArray × Value) := l.map fun x => (x, .bool true)
theorem findS_seen (l : List ByteArray) (s : ByteArray) : findS (seenL l) s = if hasStr l s then some (.bool true) else none := by
  induction l with
  | nil => rfl
  | cons x xs ih =>
    simp only [findS, seenL, hasStr, List.map_cons, List.any_cons] at ih ⊢
    by_cases h : (s.toList == x.toList) = true
    · rw [List.find?_cons_of_pos (by exact h)]
      simp [h]
    · rw [List.find?_cons_of_neg (by exact h), ih]
      simp [h]
theorem seenL_snoc {l : List ByteArray} {i : Nat} {x : ByteArray} (h : l[i]? = some x) : seenL (l.take i) ++ [(x, .bool true)] = seenL (l.take (i + 1)) := by
  rw [List.take_add_one, h, seenL, seenL, List.map_append]
  rfl
theorem encStr_u : ∀ x, encStr x = [.lit (.string x)] := fun _ => rfl
theorem un_mapB : e0.P.underlying 192 = some (.map 9 4) := by kernel_rfl
theorem un_str : e0.P.underlying 9 = some .string := by kernel_rfl
theorem zv_bool : ∀ w, (zeroValue 4).run e0.P w = .ok (.bool false) w := fun w => by kernel_rfl
theorem seenL_0 : seenL [] = [] ∧ ∀ l : List ByteArray, seenL (l.take 0) = [] := ⟨rfl, fun _ => rfl⟩
section
variable {s : Srt}
set_option maxHeartbeats 8000000 in
set_option maxRecDepth 100000 in
theorem con_implSorts (hok : okSrt s) : Con e0 143 [.agg (encSrt s)] [.one (.lit (.bool (isSorts s)))] := by
  have hno : ¬ SortsOk s -> isSorts s = false := isSorts_false
  have cU := fun h1 h2 h3 h4 => con_implAbove (s := s) h1 h2 h3 h4
  have hrs := rb_str s.names
  rw [encSrt] at cU ⊢
  refine gI 41538379337072913235836183427157855 Tryz.func143 ?_
  by_cases h1 : 1 <= s.names.length
  rotate_left
  · have hf := hno fun h => h1 h.n1
    have z1 : ((s.names.length : Int) < 1) = True := eq_true (by omega)
    (have F := ai @z1 @hf; refine gG ?_; exact gT)
  have z1 : ((s.names.length : Int) < 1) = False := eq_false (by omega)
  by_cases h8 : s.names.length <= 8
  rotate_left
  · have hf := hno fun h => h8 h.n8
    have z2 : ((8 : Int) < (s.names.length : Int)) = True := eq_true (by omega)
    (have F := ai @z1 (ai @z2 @hf); refine gG ?_; exact gT)
  have z2 : ((8 : Int) < (s.names.length : Int)) = False := eq_false (by omega)
  by_cases h16 : s.subs.length <= 16
  rotate_left
  · have hf := hno fun h => h16 h.m16
    have z3 : ((16 : Int) < (s.subs.length : Int)) = True := eq_true (by omega)
    (have F := ai @z1 (ai @z2 (ai @z3 @hf)); refine gG ?_; exact gT)
  have z3 : ((16 : Int) < (s.subs.length : Int)) = False := eq_false (by omega)
  (have F := ai @z1 (ai @z2 @z3); have NN : StopAt 4 := trivial; refine gGn ?_; clear F NN)
  refine gB ?_
  refine gMk fun b => ?_
  (have F := @e0P; refine gR ?_; clear F)
  (have F := @e0P; refine gG ?_; clear F)
  (have F := @seenL_0; refine gL (ι := Nat) [2, 6, 31, 32, 42] [27] (fun i => [(31, A.d (.one (.lit (.int .i64 i))))]) (fun i => [(27, mapB b (seenL (s.names.take i)))]) (fun i => i <= s.names.length ∧ ∀ j, j < i -> NameOk s.names j) (fun i => s.names.length - i) (0) (⟨Nat.zero_le _, fun j h => absurd h (by omega)⟩) (fun i hi => ?_); clear F)
  obtain ⟨hil, hall⟩ := hi
  by_cases hlt : i < s.names.length
  · have q1 : (i : Int) < (s.names.length : Int) := by omega
    obtain ⟨x, hx⟩ : ∃ x, s.names[i]? = some x := ⟨_, List.getElem?_eq_getElem hlt⟩
    have hw := wrap1 (k := i) (by omega)
    have hfs := findS_seen (s.names.take i) x
    have hbad : ¬ (isName x = true ∧ hasStr (s.names.take i) x = false) -> isSorts s = false := fun h => hno fun hs => h (hs.names i hlt x hx)
    have cN := con_implName (hok.1 x (List.mem_of_getElem? hx))
    (have F := ai @q1 (ai @hx @encStr_u); have NN : StopAt 8 := trivial; refine gGn ?_; clear F NN)
    refine gB ?_
    (have F := @e0P; refine gP 2 ?_; clear F)
    cases hh : hasStr (s.names.take i) x with
    | true =>
      rw [hh] at hfs hbad
      have hf := hbad fun h => by cases h.2
      refine (have F := e0P; gLk 27 un_mapB un_str zv_bool (v := .bool true) (by rw [hfs]; rfl) ?_)
      (have F := @e0P; refine gR ?_; clear F)
      (have F := @hf; refine gG ?_; exact gT)
    | false =>
    rw [hh] at hfs hbad
    refine (have F := e0P; gLk 27 un_mapB un_str zv_bool (v := .bool false) (by rw [hfs]; rfl) ?_)
    (have F := @e0P; refine gC (cN) ?_; clear F)
    cases hn : isName x with
    | false =>
      have hf := hbad fun h => by rw [hn] at h; cases h.1
      (have F := @e0P; refine gR ?_; clear F)
      (have F := @hf; refine gG ?_; exact gT)
    | true =>
    have hq : i + 1 <= s.names.length ∧ ∀ j, j < i + 1 -> NameOk s.names j := ⟨hlt, fun j hj => by
      by_cases e : j = i
      · subst e
        intro y hy
        rw [hx] at hy
        injection hy with hy
        subst hy
        exact ⟨hn, hh⟩
      · exact hall j (by omega)⟩
    have hsn := seenL_snoc hx
    (have F := @e0P; refine gR ?_; clear F)
    (have F := @e0P; have NN : StopAt 10 := trivial; refine gGn ?_; clear F NN)
    refine gB ?_
    (have F := @e0P; refine gP 2 ?_; clear F)
    refine (have F := e0P; gUp 27 un_mapB un_str (by rw [hfs]; rfl) ?_)
    rw [hsn]
    (have F := @e0P; refine gR ?_; clear F)
    (have F := @hw; refine gG ?_; exact ⟨i + 1, hq, gw, gw, by omega⟩)
  obtain rfl : i = s.names.length := by omega
  have q1 : ¬ ((s.names.length : Int) < (s.names.length : Int)) := by omega
  (have F := @q1; refine gG ?_; clear F)
  (have F := @e0P; refine gL (ι := Nat) [2, 8, 49, 50, 79] [] (fun k => [(49, A.d (.one (.lit (.int .i64 k))))]) (fun k => []) (fun k => k <= s.subs.length ∧ ∀ (j : Nat) p, j < k -> s.subs[j]? = some p -> SubOk s.names.length p) (fun k => s.subs.length - k) (0) (⟨Nat.zero_le _, fun j p h => absurd h (by omega)⟩) (fun k hk => ?_); clear F)
  obtain ⟨hkl, hsub⟩ := hk
  by_cases hlk : k < s.subs.length
  · have q2 : (k : Int) < (s.subs.length : Int) := by omega
    obtain ⟨p, hp⟩ : ∃ x, s.subs[k]? = some x := ⟨_, List.getElem?_eq_getElem hlk⟩
    have hw := wrap1 (k := k) (by omega)
    have hbad : ¬ SubOk s.names.length p -> isSorts s = false := fun h => hno fun hs => h (hs.subs p (List.mem_of_getElem? hp))
    by_cases c1 : p.1 < 0
    · have hf := hbad fun h => by have := h.1; omega
      (have F := ai @q2 (ai @hp (ai @encSub_u (ai @c1 @hf))); refine gG ?_; exact gT)
    by_cases c2 : (s.names.length : Int) <= p.1
    · have hf := hbad fun h => by have := h.2.1; omega
      (have F := ai @q2 (ai @hp (ai @encSub_u (ai @c1 (ai @c2 @hf)))); refine gG ?_; exact gT)
    by_cases c3 : p.2 < 0
    · have hf := hbad fun h => by have := h.2.2.1; omega
      (have F := ai @q2 (ai @hp (ai @encSub_u (ai @c1 (ai @c2 (ai @c3 @hf))))); refine gG ?_; exact gT)
    by_cases c4 : (s.names.length : Int) <= p.2
    · have hf := hbad fun h => by have := h.2.2.2.1; omega
      (have F := ai @q2 (ai @hp (ai @encSub_u (ai @c1 (ai @c2 (ai @c3 (ai @c4 @hf)))))); refine gG ?_; exact gT)
    by_cases c5 : p.1 = p.2
    · have hf := hbad fun h => h.2.2.2.2 c5
      have c5 : (p.1 = p.2) = True := eq_true c5
      (have F := ai @q2 (ai @hp (ai @encSub_u (ai @c1 (ai @c2 (ai @c3 (ai @c4 (ai @c5 @hf))))))); refine gG ?_; exact gT)
    have hq : k + 1 <= s.subs.length ∧ ∀ (j : Nat) p, j < k + 1 -> s.subs[j]? = some p -> SubOk s.names.length p := ⟨hlk, fun j p' hj hp' => by
      by_cases e : j = k
      · subst e
        rw [hp] at hp'
        injection hp' with hp'
        subst hp'
        exact ⟨by omega, by omega, by omega, by omega, c5⟩
      · exact hsub j p' (by omega) hp'⟩
    (have F := ai @q2 (ai @hp (ai @encSub_u (ai @c1 (ai @c2 (ai @c3 (ai @c4 (ai @c5 @hw))))))); refine gG ?_; exact ⟨k + 1, hq, gw, gw, by omega⟩)
  obtain rfl : k = s.subs.length := by omega
  have q2 : ¬ ((s.subs.length : Int) < (s.subs.length : Int)) := by omega
  have hsubs : ∀ p ∈ s.subs, SubOk s.names.length p := fun p hp => by obtain ⟨j, hj⟩ := List.getElem?_of_mem hp; exact hsub j p (List.getElem?_eq_some_iff.1 hj).1 hj
  have hSI := SortsOk.subsIn hsubs
  have hU := up_ok hSI
  have hyes : (∀ i k, i < s.names.length -> k < s.names.length -> PairOk (up s) i k) -> isSorts s = true := fun h => isSorts_true ⟨h1, h8, h16, fun i hi => hall i hi, hsubs, h⟩
  have hno2 : ∀ i k, i < s.names.length -> k < s.names.length -> ¬ PairOk (up s) i k -> isSorts s = false := fun i k h1 h2 h3 => hno fun h => h3 (h.pairs i k h1 h2)
  have lU := nR_len (l := up s)
  rw [hU.1] at lU
  have rU := nR_rows (l := up s)
  (have F := @q2; refine gG ?_; clear F)
  refine gB ?_
  (have F := @e0P; refine gC (cU h1 h8 h16 hSI) ?_; clear F)
  (have F := @e0P; refine gR ?_; clear F)
  generalize up s = u at hU hyes hno2 lU rU ⊢
  have hpw : ∀ i, i < s.names.length -> u[i]? = some (u.getD i 0) ∧ u.getD i 0 < 4611686018427387904 := fun i hi => by
    obtain ⟨g1, g2⟩ := hU.get hi
    exact ⟨g1, Nat.lt_trans g2 (pow_lt62 (by omega))⟩
  (have F := @lU; refine gG ?_; clear F)
  (have F := @e0P; refine gL (ι := Nat) [2, 10, 11, 85, 86, 89, 90, 91, 115] [] (fun i => [(85, A.d (.one (.lit (.int .i64 i))))]) (fun i => []) (fun i => i <= s.names.length ∧ ∀ i' k, i' < i -> k < s.names.length -> PairOk u i' k) (fun i => s.names.length - i) (0) (⟨Nat.zero_le _, fun i' k h => absurd h (by omega)⟩) (fun i hi => ?_); clear F)
  obtain ⟨hil, hpi⟩ := hi
  by_cases hlt : i < s.names.length
  rotate_left
  · have q3 : ¬ ((i : Int) < (s.names.length : Int)) := by omega
    have ht := hyes fun i' k h1 h2 => hpi i' k (by omega) h2
    (have F := ai @q3 @ht; refine gG ?_; exact gT)
  have q3 : (i : Int) < (s.names.length : Int) := by omega
  have hwi := wrap1 (k := i) (by omega)
  obtain ⟨gi, bi⟩ := hpw i hlt
  (have F := ai @q3 @lU; refine gG ?_; clear F)
  (have F := @e0P; refine gL (ι := Nat) [2, 11, 90, 91, 115] [] (fun k => [(90, A.d (.one (.lit (.int .i64 k))))]) (fun k => []) (fun k => k <= s.names.length ∧ ∀ k', k' < k -> PairOk u i k') (fun k => s.names.length - k) (0) (⟨Nat.zero_le _, fun k h => absurd h (by omega)⟩) (fun k hk => ?_); clear F)
  obtain ⟨hkl, hpk⟩ := hk
  have hwk := wrap1 (k := k) (by omega)
  by_cases hlk : k < s.names.length
  rotate_left
  · have q4 : ¬ ((k : Int) < (s.names.length : Int)) := by omega
    have hq : i + 1 <= s.names.length ∧ ∀ i' k, i' < i + 1 -> k < s.names.length -> PairOk u i' k := ⟨hlt, fun i' k' h h2 => by
      by_cases e : i' = i
      · subst e; exact hpk k' (by omega)
      · exact hpi i' k' (by omega) h2⟩
    (have F := ai @q4 @hwi; refine gG ?_; exact ⟨i + 1, hq, gw, gw, by omega⟩)
  have q4 : (k : Int) < (s.names.length : Int) := by omega
  obtain ⟨gk, bk⟩ := hpw k hlk
  have nx : PairOk u i k -> k + 1 <= s.names.length ∧ ∀ k', k' < k + 1 -> PairOk u i k' := fun h => ⟨hlk, fun k' h2 => by
    by_cases e : k' = k
    · subst e; exact h
    · exact hpk k' (by omega)⟩
  have si := shl_k (k := i) (by omega)
  have sk := shl_k (k := k) (by omega)
  have a1 := and_k (x := u.getD i 0) (k := k) bi (by omega)
  have a2 := and_k (x := u.getD k 0) (k := i) bk (by omega)
  have r1 := nR_get gi
  have r2 := nR_get gk
  by_cases hik : i = k
  · have z4 : ((i : Int) = (k : Int)) = True := eq_true (by omega)
    have hq := nx fun h => h.1 hik
    (have F := ai @q4 (ai @z4 @hwk); refine gG ?_; exact ⟨k + 1, hq, gw, gw, by omega⟩)
  have z4 : ((i : Int) = (k : Int)) = False := eq_false (by omega)
  cases b1 : tbit (u.getD i 0) k with
  | false =>
    rw [b1] at a1
    have hq := nx fun h => by have := h.2.1; rw [show (u.getD i 0).testBit k = false from b1] at this; cases this
    (have F := ai @q4 (ai @z4 (ai @sk (ai @a1 (ai @r1 (ai @rU (ai @natInt @hwk)))))); refine gG ?_; exact ⟨k + 1, hq, gw, gw, by omega⟩)
  | true =>
  rw [b1] at a1
  cases b2 : tbit (u.getD k 0) i with
  | false =>
    rw [b2] at a2
    have hq := nx fun h => by have := h.2.2; rw [show (u.getD k 0).testBit i = false from b2] at this; cases this
    (have F := ai @q4 (ai @z4 (ai @sk (ai @si (ai @a1 (ai @a2 (ai @r1 (ai @r2 (ai @rU (ai @natInt @hwk))))))))); refine gG ?_; exact ⟨k + 1, hq, gw, gw, by omega⟩)
  | true =>
    rw [b2] at a2
    have hf := hno2 i k hlt hlk fun h => h ⟨hik, b1, b2⟩
    (have F := ai @q4 (ai @z4 (ai @sk (ai @si (ai @a1 (ai @a2 (ai @r1 (ai @r2 (ai @rU (ai @natInt @hf))))))))); refine gG ?_; exact gT)
end
set_option maxHeartbeats 4000000 in
set_option maxRecDepth 100000 in
theorem con_l1In (x lo hi : Int) : Con e0 158 [.one (.lit (.int .i64 x)), .one (.lit (.int .i64 lo)), .one (.lit (.int .i64 hi))] [.one (.lit (.bool (decide (lo <= x ∧ x <= hi))))] := by
  refine gI 71 Tryz.func158 ?_
  by_cases h1 : lo <= x
  · by_cases h2 : x <= hi
    · (have F := ai @h1 @h2; refine gG ?_; exact gT)
    · (have F := ai @h1 @h2; refine gG ?_; exact gT)
  · (have F := @h1; refine gG ?_; exact gT)
set_option maxHeartbeats 4000000 in
set_option maxRecDepth 100000 in
theorem con_l1Has {l : List ByteArray} (s : ByteArray) (hl : l.length <= 1048576) : Con e0 174 [.one (.sl (l.map encStr)), .one (.lit (.string s))] [.one (.lit (.bool (hasStr l s)))] := by
  have hr := rb_str l
  refine gI 131635 Tryz.func174 ?_
  (have F := @e0P; refine gG ?_; clear F)
  (have F := @e0P; refine gL (ι := Nat) [4, 5, 9, 17] [] (fun i => [(5, A.d (.one (.lit (.int .i64 i))))]) (fun i => []) (fun i => i <= l.length ∧ hasStr l s = hasStr (l.drop i) s) (fun i => l.length - i) (0) (⟨Nat.zero_le _, rfl⟩) (fun i hi => ?_); clear F)
  obtain ⟨hil, he⟩ := hi
  rw [he]
  by_cases hlt : i < l.length
  rotate_left
  · have q1 : ¬ ((i : Int) < (l.length : Int)) := by omega
    have ht : hasStr (l.drop i) s = false := by rw [List.drop_eq_nil_of_le (by omega)]; rfl
    (have F := ai @q1 @ht; refine gG ?_; exact gT)
  have q1 : (i : Int) < (l.length : Int) := by omega
  obtain ⟨x, hx⟩ : ∃ x, l[i]? = some x := ⟨_, List.getElem?_eq_getElem hlt⟩
  have hw := wrap1 (k := i) (by omega)
  have hst := hasStr_step (s := s) hx
  cases hb : (x.toList == s.toList) with
  | true =>
    have ht : hasStr (l.drop i) s = true := by rw [hst, hb]; rfl
    (have F := ai @q1 (ai @hr (ai @hx (ai @encStr_u (ai @hb @ht)))); refine gG ?_; exact gT)
  | false =>
    have hq : hasStr (l.drop i) s = hasStr (l.drop (i + 1)) s := by rw [hst, hb, Bool.false_or]
    (have F := ai @q1 (ai @hr (ai @hx (ai @encStr_u (ai @hb @hw)))); refine gG ?_; exact ⟨i + 1, ⟨hlt, hq⟩, gw, gw, by omega⟩)
section
variable {s : Srt}
set_option maxHeartbeats 8000000 in
set_option maxRecDepth 100000 in
theorem con_specSorts (hok : okSrt s) : Con e0 127 [.agg (encSrt s)] [.one (.lit (.bool (isSorts s)))] := by
  have hno : ¬ SortsOk s -> isSorts s = false := isSorts_false
  have cU := fun h2 h3 h4 => con_l3Up (s := s) h2 h3 h4
  have hrs := rb_str s.names
  rw [encSrt] at cU ⊢
  refine gI 21267982750773439247570160629959360767 Tryz.func127 ?_
  by_cases h1 : 1 <= s.names.length
  rotate_left
  · have hf := hno fun h => h1 h.n1
    have z1 : ((s.names.length : Int) < 1) = True := eq_true (by omega)
    (have F := ai @z1 @hf; refine gG ?_; exact gT)
  have z1 : ((s.names.length : Int) < 1) = False := eq_false (by omega)
  by_cases h8 : s.names.length <= 8
  rotate_left
  · have hf := hno fun h => h8 h.n8
    have z2 : ((8 : Int) < (s.names.length : Int)) = True := eq_true (by omega)
    (have F := ai @z1 (ai @z2 @hf); refine gG ?_; exact gT)
  have z2 : ((8 : Int) < (s.names.length : Int)) = False := eq_false (by omega)
  by_cases h16 : s.subs.length <= 16
  rotate_left
  · have hf := hno fun h => h16 h.m16
    have z3 : ((16 : Int) < (s.subs.length : Int)) = True := eq_true (by omega)
    (have F := ai @z1 (ai @z2 (ai @z3 @hf)); refine gG ?_; exact gT)
  have z3 : ((16 : Int) < (s.subs.length : Int)) = False := eq_false (by omega)
  have hw1n : IntKind.i64.wrap ((s.names.length : Int) - 1) = (s.names.length : Int) - 1 := IntWalk.i64_in _ (by omega)
  (have F := ai @z1 (ai @z2 @z3); refine gG ?_; clear F)
  (have F := @e0P; refine gL (ι := Nat) [2, 3, 28, 49] [] (fun i => [(3, A.d (.one (.lit (.int .i64 i))))]) (fun i => []) (fun i => i <= s.names.length ∧ ∀ j, j < i -> NameOk s.names j) (fun i => s.names.length - i) (0) (⟨Nat.zero_le _, fun j h => absurd h (by omega)⟩) (fun i hi => ?_); clear F)
  obtain ⟨hil, hall⟩ := hi
  by_cases hlt : i < s.names.length
  · have q1 : (i : Int) < (s.names.length : Int) := by omega
    obtain ⟨x, hx⟩ : ∃ x, s.names[i]? = some x := ⟨_, List.getElem?_eq_getElem hlt⟩
    have hw := wrap1 (k := i) (by omega)
    have hbad : ¬ (isName x = true ∧ hasStr (s.names.take i) x = false) -> isSorts s = false := fun h => hno fun hs => h (hs.names i hlt x hx)
    have cN := con_specName (hok.1 x (List.mem_of_getElem? hx))
    have cH := con_l1Has (l := s.names.take i) x (by rw [List.length_take]; omega)
    rw [List.map_take] at cH
    have z4 : ((i : Int) <= (s.names.length : Int)) = True := eq_true (by omega)
    (have F := @q1; refine gG ?_; clear F)
    refine gB ?_
    (have F := ai @hrs (ai @hx @encStr_u); refine gC (cN) ?_; clear F)
    cases hn : isName x with
    | false =>
      have hf := hbad fun h => by rw [hn] at h; cases h.1
      (have F := @e0P; refine gR ?_; clear F)
      (have F := @hf; refine gG ?_; exact gT)
    | true =>
    (have F := ai @hrs (ai @hx (ai @encStr_u (ai @z4 @natInt))); refine gC (cH) ?_; clear F)
    cases hh : hasStr (s.names.take i) x with
    | true =>
      have hf := hbad fun h => by rw [hh] at h; cases h.2
      (have F := @e0P; refine gR ?_; clear F)
      (have F := @hf; refine gG ?_; exact gT)
    | false =>
    have hq : i + 1 <= s.names.length ∧ ∀ j, j < i + 1 -> NameOk s.names j := ⟨hlt, fun j hj => by
      by_cases e : j = i
      · subst e
        intro y hy
        rw [hx] at hy
        injection hy with hy
        subst hy
        exact ⟨hn, hh⟩
      · exact hall j (by omega)⟩
    (have F := @e0P; refine gR ?_; clear F)
    (have F := @hw; refine gG ?_; exact ⟨i + 1, hq, gw, gw, by omega⟩)
  obtain rfl : i = s.names.length := by omega
  have q1 : ¬ ((s.names.length : Int) < (s.names.length : Int)) := by omega
  (have F := @q1; refine gG ?_; clear F)
  (have F := @e0P; refine gL (ι := Nat) [2, 4, 54, 97] [] (fun k => [(4, A.d (.one (.lit (.int .i64 k))))]) (fun k => []) (fun k => k <= s.subs.length ∧ ∀ (j : Nat) p, j < k -> s.subs[j]? = some p -> SubOk s.names.length p) (fun k => s.subs.length - k) (0) (⟨Nat.zero_le _, fun j p h => absurd h (by omega)⟩) (fun k hk => ?_); clear F)
  obtain ⟨hkl, hsub⟩ := hk
  by_cases hlk : k < s.subs.length
  · have q2 : (k : Int) < (s.subs.length : Int) := by omega
    obtain ⟨p, hp⟩ : ∃ x, s.subs[k]? = some x := ⟨_, List.getElem?_eq_getElem hlk⟩
    have hw := wrap1 (k := k) (by omega)
    have hbad : ¬ SubOk s.names.length p -> isSorts s = false := fun h => hno fun hs => h (hs.subs p (List.mem_of_getElem? hp))
    have hrb := rb_sub s.subs
    (have F := @q2; refine gG ?_; clear F)
    refine gB ?_
    (have F := ai @hrb (ai @hp (ai @encSub_u @hw1n)); refine gC (con_l1In p.1 0 ((s.names.length : Int) - 1)) ?_; clear F)
    by_cases c1 : 0 <= p.1 ∧ p.1 <= (s.names.length : Int) - 1
    rotate_left
    · have hf := hbad fun h => c1 ⟨h.1, by have := h.2.1; omega⟩
      have y1 : decide (0 <= p.1 ∧ p.1 <= (s.names.length : Int) - 1) = false := decide_eq_false c1
      (have F := @y1; refine gR ?_; clear F)
      (have F := @hf; refine gG ?_; exact gT)
    have y1 : decide (0 <= p.1 ∧ p.1 <= (s.names.length : Int) - 1) = true := decide_eq_true c1
    (have F := ai @hrb (ai @hp (ai @encSub_u (ai @hw1n @y1))); refine gC (con_l1In p.2 0 ((s.names.length : Int) - 1)) ?_; clear F)
    by_cases c2 : 0 <= p.2 ∧ p.2 <= (s.names.length : Int) - 1
    rotate_left
    · have hf := hbad fun h => c2 ⟨h.2.2.1, by have := h.2.2.2.1; omega⟩
      have y2 : decide (0 <= p.2 ∧ p.2 <= (s.names.length : Int) - 1) = false := decide_eq_false c2
      (have F := ai @y1 @y2; refine gR ?_; clear F)
      (have F := @hf; refine gG ?_; exact gT)
    have y2 : decide (0 <= p.2 ∧ p.2 <= (s.names.length : Int) - 1) = true := decide_eq_true c2
    by_cases c5 : p.1 = p.2
    · have hf := hbad fun h => h.2.2.2.2 c5
      have y5 : (p.1 = p.2) = True := eq_true c5
      (have F := ai @y1 (ai @y2 (ai @hrb (ai @hp (ai @encSub_u @y5)))); refine gR ?_; clear F)
      (have F := @hf; refine gG ?_; exact gT)
    have y5 : (p.1 = p.2) = False := eq_false c5
    have hq : k + 1 <= s.subs.length ∧ ∀ (j : Nat) p, j < k + 1 -> s.subs[j]? = some p -> SubOk s.names.length p := ⟨hlk, fun j p' hj hp' => by
      by_cases e : j = k
      · subst e
        rw [hp] at hp'
        injection hp' with hp'
        subst hp'
        exact ⟨by omega, by omega, by omega, by omega, c5⟩
      · exact hsub j p' (by omega) hp'⟩
    (have F := ai @y1 (ai @y2 (ai @hrb (ai @hp (ai @encSub_u @y5)))); refine gR ?_; clear F)
    (have F := @hw; refine gG ?_; exact ⟨k + 1, hq, gw, gw, by omega⟩)
  obtain rfl : k = s.subs.length := by omega
  have q2 : ¬ ((s.subs.length : Int) < (s.subs.length : Int)) := by omega
  have hsubs : ∀ p ∈ s.subs, SubOk s.names.length p := fun p hp => by obtain ⟨j, hj⟩ := List.getElem?_of_mem hp; exact hsub j p (List.getElem?_eq_some_iff.1 hj).1 hj
  have hSI := SortsOk.subsIn hsubs
  have hU := up_ok hSI
  have hyes : (∀ i k, i < s.names.length -> k < i -> PairOk (up s) i k) -> isSorts s = true := fun h => isSorts_true ⟨h1, h8, h16, fun i hi => hall i hi, hsubs, fun i k hi hk hb => by
    rcases Nat.lt_trichotomy i k with h2 | h2 | h2
    · exact h k i hk h2 ⟨fun e => hb.1 e.symm, hb.2.2, hb.2.1⟩
    · exact hb.1 h2
    · exact h i k hi h2 hb⟩
  have hno2 : ∀ i k, i < s.names.length -> k < s.names.length -> ¬ PairOk (up s) i k -> isSorts s = false := fun i k h1 h2 h3 => hno fun h => h3 (h.pairs i k h1 h2)
  have lU := nR_len (l := up s)
  rw [hU.1] at lU
  have rU := nR_rows (l := up s)
  (have F := @q2; refine gG ?_; clear F)
  refine gB ?_
  (have F := @e0P; refine gC (cU h8 h16 hSI) ?_; clear F)
  (have F := @e0P; refine gR ?_; clear F)
  generalize up s = u at hU hyes hno2 lU rU ⊢
  have hpw : ∀ i, i < s.names.length -> u[i]? = some (u.getD i 0) ∧ u.getD i 0 < 4611686018427387904 := fun i hi => by
    obtain ⟨g1, g2⟩ := hU.get hi
    exact ⟨g1, Nat.lt_trans g2 (pow_lt62 (by omega))⟩
  (have F := @lU; refine gG ?_; clear F)
  (have F := @e0P; refine gL (ι := Nat) [2, 6, 7, 103, 108, 124] [] (fun i => [(6, A.d (.one (.lit (.int .i64 i))))]) (fun i => []) (fun i => i <= s.names.length ∧ ∀ i' k, i' < i -> k < i' -> PairOk u i' k) (fun i => s.names.length - i) (0) (⟨Nat.zero_le _, fun i' k h => absurd h (by omega)⟩) (fun i hi => ?_); clear F)
  obtain ⟨hil, hpi⟩ := hi
  by_cases hlt : i < s.names.length
  rotate_left
  · have q3 : ¬ ((i : Int) < (s.names.length : Int)) := by omega
    have ht := hyes fun i' k h1 h2 => hpi i' k (by omega) h2
    (have F := ai @q3 (ai @lU @ht); refine gG ?_; exact gT)
  have q3 : (i : Int) < (s.names.length : Int) := by omega
  have hwi := wrap1 (k := i) (by omega)
  obtain ⟨gi, bi⟩ := hpw i hlt
  (have F := ai @q3 @lU; refine gG ?_; clear F)
  (have F := @e0P; refine gL (ι := Nat) [2, 7, 108, 124] [] (fun k => [(7, A.d (.one (.lit (.int .i64 k))))]) (fun k => []) (fun k => k <= i ∧ ∀ k', k' < k -> PairOk u i k') (fun k => i - k) (0) (⟨Nat.zero_le _, fun k h => absurd h (by omega)⟩) (fun k hk => ?_); clear F)
  obtain ⟨hkl, hpk⟩ := hk
  have hwk := wrap1 (k := k) (by omega)
  by_cases hlk : k < i
  rotate_left
  · have q4 : ((k : Int) < (i : Int)) = False := eq_false (by omega)
    have hq : i + 1 <= s.names.length ∧ ∀ i' k, i' < i + 1 -> k < i' -> PairOk u i' k := ⟨hlt, fun i' k' h h2 => by
      by_cases e : i' = i
      · subst e; exact hpk k' (by omega)
      · exact hpi i' k' (by omega) h2⟩
    (have F := ai @q4 @hwi; refine gG ?_; exact ⟨i + 1, hq, gw, gw, by omega⟩)
  have q4 : ((k : Int) < (i : Int)) = True := eq_true (by omega)
  obtain ⟨gk, bk⟩ := hpw k (by omega)
  have nx : PairOk u i k -> k + 1 <= i ∧ ∀ k', k' < k + 1 -> PairOk u i k' := fun h => ⟨hlk, fun k' h2 => by
    by_cases e : k' = k
    · subst e; exact h
    · exact hpk k' (by omega)⟩
  have r1 := nR_get gi
  have r2 := nR_get gk
  (have F := @q4; refine gG ?_; clear F)
  refine gB ?_
  (have F := ai @rU @r1; refine gC (con_l2Has (a := u.getD i 0) (k := k) bi (by omega)) ?_; clear F)
  cases b1 : tbit (u.getD i 0) k with
  | false =>
    have hq := nx fun h => by have := h.2.1; rw [show (u.getD i 0).testBit k = false from b1] at this; cases this
    (have F := @e0P; refine gR ?_; clear F)
    (have F := @hwk; refine gG ?_; exact ⟨k + 1, hq, gw, gw, by omega⟩)
  | true =>
  (have F := ai @rU @r2; refine gC (con_l2Has (a := u.getD k 0) (k := i) bk (by omega)) ?_; clear F)
  cases b2 : tbit (u.getD k 0) i with
  | false =>
    have hq := nx fun h => by have := h.2.2; rw [show (u.getD k 0).testBit i = false from b2] at this; cases this
    (have F := @e0P; refine gR ?_; clear F)
    (have F := @hwk; refine gG ?_; exact ⟨k + 1, hq, gw, gw, by omega⟩)
  | true =>
    have hf := hno2 i k hlt (by omega) fun h => h ⟨by omega, b1, b2⟩
    (have F := @e0P; refine gR ?_; clear F)
    (have F := @hf; refine gG ?_; exact gT)
end
end Go.Proofs.YtkekkmpogmlopaaGreat
namespace Go.Proofs.YtkekkmpogmlopaaGreat
open Go.RowKit
def encOrd (s : Srt) : List C := [.sl (nR (up s)), .sl (nR (down s)), .sl (nR (kinds s))]
theorem encOrd_u : ∀ s, encOrd s = [.sl (nR (up s)), .sl (nR (down s)), .sl (nR (kinds s))] := fun _ => rfl
section
variable {s : Srt}
theorem kdg (hs : SortsOk s) {k : Int} (h : 0 <= k ∧ k < s.names.length) : (nR (kinds s))[k.toNat]? = some [.lit (.int .i64 (kd s k : Nat))] := by
  have hk := kinds_ok (SortsOk.subsIn hs.subs)
  have hl : k.toNat < (kinds s).length := by rw [hk.1]; omega
  rw [nR_get (List.getElem?_eq_getElem hl), kd, List.getD_eq_getElem?_getD, List.getElem?_eq_getElem hl]
  rfl
theorem kd_len (hs : SortsOk s) : (nR (kinds s)).length = s.names.length := by rw [nR_len, (kinds_ok (SortsOk.subsIn hs.subs)).1]
set_option maxHeartbeats 4000000 in
set_option maxRecDepth 100000 in
theorem con_hasS (hs : SortsOk s) (k : Int) : Con e0 184 [.agg (encOrd s), .one (.lit (.int .i64 k))] [.one (.lit (.bool (decide (0 <= k ∧ k < s.names.length))))] := by
  have hl : (nR (up s)).length = s.names.length := by rw [nR_len, (up_ok (SortsOk.subsIn hs.subs)).1]
  rw [encOrd]
  refine gI 23 Tryz.func184 ?_
  by_cases h0 : 0 <= k
  · by_cases h1 : k < s.names.length
    · (have F := ai @h0 (ai @hl @h1); refine gG ?_; exact gT)
    · (have F := ai @h0 (ai @hl @h1); refine gG ?_; exact gT)
  · (have F := @h0; refine gG ?_; exact gT)
theorem get_nextI {l : List Int} {p : Int -> Prop} {j : Nat} {c : Int} (hc : l[j]? = some c) (h : ∀ (i : Nat) (c : Int), i < j -> l[i]? = some c -> p c) (hp : p c) : ∀ (i : Nat) (c : Int), i < j + 1 -> l[i]? = some c -> p c := fun i c' hi hc' => by
  by_cases hij : i = j
  · subst hij; rw [hc] at hc'; injection hc' with hc'; subst hc'; exact hp
  · exact h i c' (by omega) hc'
theorem kargs_next {f d : Dcl} {i : Nat} {a : Int} (ha : d.args[i]? = some a) (hall : ∀ (i' : Nat) a, i' < i -> d.args[i']? = some a -> (0 <= a ∧ a < s.names.length) ∧ ∀ b, f.args[i']? = some b -> kd s a = kd s b) (h1 : 0 <= a ∧ a < s.names.length) (h2 : ∀ b, f.args[i]? = some b -> kd s a = kd s b) :
    ∀ (i' : Nat) a, i' < i + 1 -> d.args[i']? = some a -> (0 <= a ∧ a < s.names.length) ∧ ∀ b, f.args[i']? = some b -> kd s a = kd s b := fun i' a' h ha' => by
  by_cases e : i' = i
  · subst e
    rw [ha] at ha'
    injection ha' with ha'
    subst ha'
    exact ⟨h1, h2⟩
  · exact hall i' a' (by omega) ha'
theorem declOk_of {f d : Dcl} (h1 : d.args.length = f.args.length) (h2 : 0 <= d.res ∧ d.res < s.names.length) (h3 : kd s d.res = kd s f.res) (hall : ∀ (i' : Nat) a, i' < d.args.length -> d.args[i']? = some a -> (0 <= a ∧ a < s.names.length) ∧ ∀ b, f.args[i']? = some b -> kd s a = kd s b) : DeclOk s f d :=
  ⟨h1, h2, fun k hk => by obtain ⟨i, hi⟩ := List.getElem?_of_mem hk; exact (hall i k (List.getElem?_eq_some_iff.1 hi).1 hi).1, h3, fun i a b ha hb => (hall i a (List.getElem?_eq_some_iff.1 ha).1 ha).2 b hb⟩
theorem decls_next {l : List Dcl} {P : Dcl -> Prop} {j : Nat} {d : Dcl} (hd : l[j]? = some d) (hall : ∀ (j' : Nat) d, j' < j -> l[j']? = some d -> P d) (h : P d) : ∀ (j' : Nat) d, j' < j + 1 -> l[j']? = some d -> P d := fun j' d' hj hd' => by
  by_cases e : j' = j
  · subst e
    rw [hd] at hd'
    injection hd' with hd'
    subst hd'
    exact h
  · exact hall j' d' (by omega) hd'
set_option maxHeartbeats 8000000 in
set_option maxRecDepth 100000 in
theorem con_implDecls (hs : SortsOk s) (o : Opr) : Con e0 141 [.agg (encOrd s), .agg (encOpr o)] [.one (.lit (.bool (declsOk s o)))] := by
  have hno : ¬ DeclsOk s o -> declsOk s o = false := declsOk_false
  have cH := con_hasS hs
  have rK := nR_rows (l := kinds s)
  rw [encOrd] at cH ⊢
  rw [encOpr]
  refine gI 83076759175850041743779962279694015 Tryz.func141 ?_
  by_cases h1 : 1 <= o.decls.length
  rotate_left
  · have hf := hno fun h => h1 h.len1
    have z1 : ((o.decls.length : Int) < 1) = True := eq_true (by omega)
    (have F := ai @z1 @hf; refine gG ?_; exact gT)
  have z1 : ((o.decls.length : Int) < 1) = False := eq_false (by omega)
  by_cases h4 : o.decls.length <= 4
  rotate_left
  · have hf := hno fun h => h4 h.len4
    have z2 : ((4 : Int) < (o.decls.length : Int)) = True := eq_true (by omega)
    (have F := ai @z1 (ai @z2 @hf); refine gG ?_; exact gT)
  have z2 : ((4 : Int) < (o.decls.length : Int)) = False := eq_false (by omega)
  obtain ⟨f, hf0⟩ : ∃ f, o.decls[0]? = some f := ⟨_, List.getElem?_eq_getElem (by omega)⟩
  have hfm := List.mem_of_getElem? hf0
  by_cases h3 : f.args.length <= 3
  rotate_left
  · have hf := hno fun h => h3 (h.ar f hf0)
    have z3 : ((3 : Int) < (f.args.length : Int)) = True := eq_true (by omega)
    (have F := ai @z1 (ai @z2 (ai @hf0 (ai @encDcl_u (ai @z3 @hf)))); refine gG ?_; exact gT)
  have z3 : ((3 : Int) < (f.args.length : Int)) = False := eq_false (by omega)
  (have F := ai @z1 (ai @z2 (ai @hf0 (ai @encDcl_u @z3))); refine gG ?_; clear F)
  refine gB ?_
  (have F := @e0P; refine gC (cH f.res) ?_; clear F)
  by_cases hr : 0 <= f.res ∧ f.res < (s.names.length : Int)
  rotate_left
  · have hf := hno fun h => hr (h.all f hf0 f hfm).res
    have y1 : decide (0 <= f.res ∧ f.res < (s.names.length : Int)) = false := decide_eq_false hr
    (have F := @y1; refine gR ?_; clear F)
    (have F := @hf; refine gG ?_; exact gT)
  have y1 : decide (0 <= f.res ∧ f.res < (s.names.length : Int)) = true := decide_eq_true hr
  have gr := kdg hs hr
  have ir := hr.1
  (have F := @y1; refine gR ?_; clear F)
  (have F := @e0P; refine gG ?_; clear F)
  (have F := @e0P; refine gL (ι := Nat) [4, 7, 43, 44, 50] [] (fun i => [(43, A.d (.one (.lit (.int .i64 i))))]) (fun i => []) (fun i => i <= f.args.length ∧ ∀ (i' : Nat) k, i' < i -> f.args[i']? = some k -> 0 <= k ∧ k < s.names.length) (fun i => f.args.length - i) (0) (⟨Nat.zero_le _, fun i' k h => absurd h (by omega)⟩) (fun i hi => ?_); clear F)
  obtain ⟨hil, hfa⟩ := hi
  by_cases hlt : i < f.args.length
  · have q1 : (i : Int) < (f.args.length : Int) := by omega
    obtain ⟨k, hk⟩ : ∃ k, f.args[i]? = some k := ⟨_, List.getElem?_eq_getElem hlt⟩
    have hw := wrap1 (k := i) (by omega)
    (have F := ai @q1 (ai @hk @encInt_u); refine gG ?_; clear F)
    refine gB ?_
    (have F := @e0P; refine gC (cH k) ?_; clear F)
    by_cases hkr : 0 <= k ∧ k < (s.names.length : Int)
    rotate_left
    · have hf := hno fun h => hkr ((h.all f hf0 f hfm).args k (List.mem_of_getElem? hk))
      have y2 : decide (0 <= k ∧ k < (s.names.length : Int)) = false := decide_eq_false hkr
      (have F := @y2; refine gR ?_; clear F)
      (have F := @hf; refine gG ?_; exact gT)
    have y2 : decide (0 <= k ∧ k < (s.names.length : Int)) = true := decide_eq_true hkr
    have hq : i + 1 <= f.args.length ∧ _ := ⟨hlt, get_nextI hk hfa hkr⟩
    (have F := @y2; refine gR ?_; clear F)
    (have F := @hw; refine gG ?_; exact ⟨i + 1, hq, gw, gw, by omega⟩)
  obtain rfl : i = f.args.length := by omega
  have q1 : ¬ ((f.args.length : Int) < (f.args.length : Int)) := by omega
  (have F := @q1; refine gG ?_; clear F)
  (have F := @e0P; refine gL (ι := Nat) [4, 9, 10, 11, 55, 56, 87, 89, 90, 91, 92, 116] [] (fun j => [(55, A.d (.one (.lit (.int .i64 j))))]) (fun j => []) (fun j => j <= o.decls.length ∧ ∀ (j' : Nat) d, j' < j -> o.decls[j']? = some d -> DeclOk s f d) (fun j => o.decls.length - j) (0) (⟨Nat.zero_le _, fun j' d h => absurd h (by omega)⟩) (fun j hj => ?_); clear F)
  obtain ⟨hjl, hdo⟩ := hj
  by_cases hlj : j < o.decls.length
  rotate_left
  · have q2 : ¬ ((j : Int) < (o.decls.length : Int)) := by omega
    have ht := declsOk_true (s := s) (o := o) ⟨h1, h4, fun f' h => by rw [hf0] at h; injection h with h; subst h; exact h3, fun f' h d hd => by
      rw [hf0] at h; injection h with h; subst h
      obtain ⟨j', hj'⟩ := List.getElem?_of_mem hd
      exact hdo j' d (by have := (List.getElem?_eq_some_iff.1 hj').1; omega) hj'⟩
    (have F := ai @q2 @ht; refine gG ?_; exact gT)
  have q2 : (j : Int) < (o.decls.length : Int) := by omega
  obtain ⟨d, hd⟩ : ∃ d, o.decls[j]? = some d := ⟨_, List.getElem?_eq_getElem hlj⟩
  have hdm := List.mem_of_getElem? hd
  have hwj := wrap1 (k := j) (by omega)
  have hbad : ¬ DeclOk s f d -> declsOk s o = false := fun h => hno fun hD => h (hD.all f hf0 d hdm)
  by_cases hdl : d.args.length = f.args.length
  rotate_left
  · have hf := hbad fun h => hdl h.len
    have y3 : ((d.args.length : Int) = (f.args.length : Int)) = False := eq_false (by omega)
    (have F := ai @q2 (ai @hd (ai @encDcl_u (ai @y3 @hf))); refine gG ?_; exact gT)
  have y3 : ((d.args.length : Int) = (f.args.length : Int)) = True := eq_true (by omega)
  (have F := ai @q2 (ai @hd @encDcl_u); refine gG ?_; clear F)
  refine gB ?_
  (have F := @y3; refine gC (cH d.res) ?_; clear F)
  by_cases hdr : 0 <= d.res ∧ d.res < (s.names.length : Int)
  rotate_left
  · have hf := hbad fun h => hdr h.res
    have y4 : decide (0 <= d.res ∧ d.res < (s.names.length : Int)) = false := decide_eq_false hdr
    (have F := ai @y3 @y4; refine gR ?_; clear F)
    (have F := @hf; refine gG ?_; exact gT)
  have y4 : decide (0 <= d.res ∧ d.res < (s.names.length : Int)) = true := decide_eq_true hdr
  have gd := kdg hs hdr
  have id' := hdr.1
  have jd := hdr.2
  by_cases hkr : kd s d.res = kd s f.res
  rotate_left
  · have hf := hbad fun h => hkr h.kres
    have y5 : ((kd s d.res : Int) = (kd s f.res : Int)) = False := eq_false (by omega)
    (have F := ai @y3 (ai @y4 (ai @gr (ai @gd (ai @ir (ai @id' (ai @jd (ai @rK @y5))))))); refine gR ?_; clear F)
    (have F := @hf; refine gG ?_; exact gT)
  have y5 : ((kd s d.res : Int) = (kd s f.res : Int)) = True := eq_true (by omega)
  (have F := ai @y3 (ai @y4 (ai @gr (ai @gd (ai @ir (ai @id' (ai @jd (ai @rK @y5))))))); refine gR ?_; clear F)
  (have F := @e0P; refine gG ?_; clear F)
  (have F := @e0P; refine gL (ι := Nat) [4, 10, 11, 91, 92, 116] [] (fun i => [(91, A.d (.one (.lit (.int .i64 i))))]) (fun i => []) (fun i => i <= d.args.length ∧ ∀ (i' : Nat) a, i' < i -> d.args[i']? = some a -> (0 <= a ∧ a < s.names.length) ∧ ∀ b, f.args[i']? = some b -> kd s a = kd s b) (fun i => d.args.length - i) (0) (⟨Nat.zero_le _, fun i' a h => absurd h (by omega)⟩) (fun i hi => ?_); clear F)
  obtain ⟨hil2, hka⟩ := hi
  by_cases hlt : i < d.args.length
  rotate_left
  · obtain rfl : i = d.args.length := by omega
    have q3 : ¬ ((d.args.length : Int) < (d.args.length : Int)) := by omega
    have hq : j + 1 <= o.decls.length ∧ _ := ⟨hlj, decls_next hd hdo (declOk_of hdl hdr hkr hka)⟩
    (have F := ai @q3 @hwj; refine gG ?_; exact ⟨j + 1, hq, gw, gw, by omega⟩)
  have q3 : (i : Int) < (d.args.length : Int) := by omega
  obtain ⟨a, ha⟩ : ∃ k, d.args[i]? = some k := ⟨_, List.getElem?_eq_getElem hlt⟩
  obtain ⟨b, hb⟩ : ∃ k, f.args[i]? = some k := ⟨_, List.getElem?_eq_getElem (by omega)⟩
  have hw := wrap1 (k := i) (by omega)
  have hbr := hfa i b (by omega) hb
  have gb := kdg hs hbr
  have ib := hbr.1
  (have F := ai @q3 (ai @ha @encInt_u); refine gG ?_; clear F)
  refine gB ?_
  (have F := @e0P; refine gC (cH a) ?_; clear F)
  by_cases har : 0 <= a ∧ a < (s.names.length : Int)
  rotate_left
  · have hf := hbad fun h => har (h.args a (List.mem_of_getElem? ha))
    have y6 : decide (0 <= a ∧ a < (s.names.length : Int)) = false := decide_eq_false har
    (have F := @y6; refine gR ?_; clear F)
    (have F := @hf; refine gG ?_; exact gT)
  have y6 : decide (0 <= a ∧ a < (s.names.length : Int)) = true := decide_eq_true har
  have ga := kdg hs har
  have ia := har.1
  have ja := har.2
  by_cases hkk : kd s a = kd s b
  rotate_left
  · have hf := hbad fun h => hkk (h.kargs i a b ha hb)
    have y7 : ((kd s a : Int) = (kd s b : Int)) = False := eq_false (by omega)
    (have F := ai @y6 (ai @ga (ai @gb (ai @ia (ai @ja (ai @ib (ai @hb (ai @encInt_u (ai @rK @y7)))))))); refine gR ?_; clear F)
    (have F := @hf; refine gG ?_; exact gT)
  have y7 : ((kd s a : Int) = (kd s b : Int)) = True := eq_true (by omega)
  have hq : i + 1 <= d.args.length ∧ _ := ⟨hlt, kargs_next (f := f) ha hka har fun b' hb' => by rw [hb] at hb'; injection hb' with hb'; subst hb'; exact hkk⟩
  (have F := ai @y6 (ai @ga (ai @gb (ai @ia (ai @ja (ai @ib (ai @hb (ai @encInt_u (ai @rK @y7)))))))); refine gR ?_; clear F)
  (have F := @hw; refine gG ?_; exact ⟨i + 1, hq, gw, gw, by omega⟩)
set_option maxHeartbeats 8000000 in
set_option maxRecDepth 100000 in
theorem con_l4Decls {g : Sgn} (hs : SortsOk g.sorts) (o : Opr) : Con e0 129 [.agg (encSgn g), .agg (encOpr o)] [.one (.lit (.bool (declsOk g.sorts o)))] := by
  have hno : ¬ DeclsOk g.sorts o -> declsOk g.sorts o = false := declsOk_false
  have cK := con_l3Kinds hs
  rw [show (casts (kinds g.sorts)).map encInt = nR (kinds g.sorts) from rfl] at cK
  have rK := nR_rows (l := kinds g.sorts)
  have lK := kd_len hs
  have n1 := hs.n1
  have n8 := hs.n8
  have hw1n : IntKind.i64.wrap ((g.sorts.names.length : Int) - 1) = (g.sorts.names.length : Int) - 1 := IntWalk.i64_in _ (by omega)
  rw [encSrt] at cK
  rw [encSgn, encOpr]
  refine gI 1298708039934125393111688421573631 Tryz.func129 ?_
  by_cases h1 : 1 <= o.decls.length
  rotate_left
  · have hf := hno fun h => h1 h.len1
    have z1 : ((o.decls.length : Int) < 1) = True := eq_true (by omega)
    (have F := ai @z1 @hf; refine gG ?_; exact gT)
  have z1 : ((o.decls.length : Int) < 1) = False := eq_false (by omega)
  by_cases h4 : o.decls.length <= 4
  rotate_left
  · have hf := hno fun h => h4 h.len4
    have z2 : ((4 : Int) < (o.decls.length : Int)) = True := eq_true (by omega)
    (have F := ai @z1 (ai @z2 @hf); refine gG ?_; exact gT)
  have z2 : ((4 : Int) < (o.decls.length : Int)) = False := eq_false (by omega)
  obtain ⟨f, hf0⟩ : ∃ f, o.decls[0]? = some f := ⟨_, List.getElem?_eq_getElem (by omega)⟩
  have hfm := List.mem_of_getElem? hf0
  by_cases h3 : f.args.length <= 3
  rotate_left
  · have hf := hno fun h => h3 (h.ar f hf0)
    have z3 : ((3 : Int) < (f.args.length : Int)) = True := eq_true (by omega)
    (have F := ai @z1 (ai @z2 (ai @hf0 (ai @encDcl_u (ai @z3 @hf)))); refine gG ?_; exact gT)
  have z3 : ((3 : Int) < (f.args.length : Int)) = False := eq_false (by omega)
  (have F := ai @z1 (ai @z2 (ai @hf0 (ai @encDcl_u @z3))); refine gG ?_; clear F)
  refine gB ?_
  (have F := @e0P; refine gC (cK) ?_; clear F)
  (have F := @e0P; refine gR ?_; clear F)
  (have F := ai @hf0 @encDcl_u; refine gG ?_; clear F)
  (have F := @e0P; refine gL (ι := Nat) [4, 7, 8, 9, 40, 63, 68, 99, 110] [] (fun j => [(7, A.d (.one (.lit (.int .i64 j))))]) (fun j => []) (fun j => j <= o.decls.length ∧ ∀ (j' : Nat) d, j' < j -> o.decls[j']? = some d -> DeclOk g.sorts f d) (fun j => o.decls.length - j) (0) (⟨Nat.zero_le _, fun j' d h => absurd h (by omega)⟩) (fun j hj => ?_); clear F)
  obtain ⟨hjl, hdo⟩ := hj
  by_cases hlj : j < o.decls.length
  rotate_left
  · have q2 : ¬ ((j : Int) < (o.decls.length : Int)) := by omega
    have ht := declsOk_true (s := g.sorts) (o := o) ⟨h1, h4, fun f' h => by rw [hf0] at h; injection h with h; subst h; exact h3, fun f' h d hd => by
      rw [hf0] at h; injection h with h; subst h
      obtain ⟨j', hj'⟩ := List.getElem?_of_mem hd
      exact hdo j' d (by have := (List.getElem?_eq_some_iff.1 hj').1; omega) hj'⟩
    (have F := ai @q2 @ht; refine gG ?_; exact gT)
  have q2 : (j : Int) < (o.decls.length : Int) := by omega
  obtain ⟨d, hd⟩ : ∃ d, o.decls[j]? = some d := ⟨_, List.getElem?_eq_getElem hlj⟩
  have hdm := List.mem_of_getElem? hd
  have hwj := wrap1 (k := j) (by omega)
  have hbad : ¬ DeclOk g.sorts f d -> declsOk g.sorts o = false := fun h => hno fun hD => h (hD.all f hf0 d hdm)
  have hj0 : d = f ∨ DeclOk g.sorts f f := by
    rcases Nat.eq_zero_or_pos j with h | h
    · subst h; rw [hf0] at hd; injection hd with hd; exact .inl hd.symm
    · exact .inr (hdo 0 f h hf0)
  by_cases hdl : d.args.length = f.args.length
  rotate_left
  · have hf := hbad fun h => hdl h.len
    have y3 : ((d.args.length : Int) = (f.args.length : Int)) = False := eq_false (by omega)
    (have F := ai @q2 (ai @hd (ai @encDcl_u (ai @y3 @hf))); refine gG ?_; exact gT)
  have y3 : ((d.args.length : Int) = (f.args.length : Int)) = True := eq_true (by omega)
  (have F := ai @q2 (ai @hd @encDcl_u); refine gG ?_; clear F)
  refine gB ?_
  (have F := ai @y3 (ai @lK @hw1n); refine gC (con_l1In d.res 0 ((g.sorts.names.length : Int) - 1)) ?_; clear F)
  by_cases hdr : 0 <= d.res ∧ d.res < (g.sorts.names.length : Int)
  rotate_left
  · have hf := hbad fun h => hdr h.res
    have y4 : decide (0 <= d.res ∧ d.res <= (g.sorts.names.length : Int) - 1) = false := decide_eq_false (by omega)
    (have F := ai @y3 @y4; refine gR ?_; clear F)
    (have F := @hf; refine gG ?_; exact gT)
  have y4 : decide (0 <= d.res ∧ d.res <= (g.sorts.names.length : Int) - 1) = true := decide_eq_true (by omega)
  have gd := kdg hs hdr
  have id' := hdr.1
  have hfr : 0 <= f.res ∧ f.res < (g.sorts.names.length : Int) := by
    rcases hj0 with h | h
    · rw [<- h]; exact hdr
    · exact h.res
  have gr := kdg hs hfr
  have ir := hfr.1
  (have F := ai @y3 @y4; refine gR ?_; clear F)
  (have F := @e0P; refine gG ?_; clear F)
  (have F := @e0P; refine gL (ι := Nat) [4, 9, 68, 99] [] (fun i => [(9, A.d (.one (.lit (.int .i64 i))))]) (fun i => []) (fun i => i <= d.args.length ∧ ∀ (i' : Nat) a, i' < i -> d.args[i']? = some a -> (0 <= a ∧ a < g.sorts.names.length) ∧ ∀ b, f.args[i']? = some b -> kd g.sorts a = kd g.sorts b) (fun i => d.args.length - i) (0) (⟨Nat.zero_le _, fun i' a h => absurd h (by omega)⟩) (fun i hi => ?_); clear F)
  obtain ⟨hil2, hka⟩ := hi
  by_cases hlt : i < d.args.length
  rotate_left
  · obtain rfl : i = d.args.length := by omega
    have q3 : ¬ ((d.args.length : Int) < (d.args.length : Int)) := by omega
    by_cases hkr : kd g.sorts d.res = kd g.sorts f.res
    rotate_left
    · have hf := hbad fun h => hkr h.kres
      have y5 : ((kd g.sorts d.res : Int) = (kd g.sorts f.res : Int)) = False := eq_false (by omega)
      (have F := ai @q3 (ai @gr (ai @gd (ai @ir (ai @id' (ai @rK (ai @y5 @hf)))))); refine gG ?_; exact gT)
    have y5 : ((kd g.sorts d.res : Int) = (kd g.sorts f.res : Int)) = True := eq_true (by omega)
    have hq : j + 1 <= o.decls.length ∧ _ := ⟨hlj, decls_next hd hdo (declOk_of hdl hdr hkr hka)⟩
    (have F := ai @q3 (ai @gr (ai @gd (ai @ir (ai @id' (ai @rK (ai @y5 @hwj)))))); refine gG ?_; exact ⟨j + 1, hq, gw, gw, by omega⟩)
  have q3 : (i : Int) < (d.args.length : Int) := by omega
  obtain ⟨a, ha⟩ : ∃ k, d.args[i]? = some k := ⟨_, List.getElem?_eq_getElem hlt⟩
  obtain ⟨b, hb⟩ : ∃ k, f.args[i]? = some k := ⟨_, List.getElem?_eq_getElem (by omega)⟩
  have hw := wrap1 (k := i) (by omega)
  (have F := @q3; refine gG ?_; clear F)
  refine gB ?_
  (have F := ai @ha (ai @encInt_u (ai @lK @hw1n)); refine gC (con_l1In a 0 ((g.sorts.names.length : Int) - 1)) ?_; clear F)
  by_cases har : 0 <= a ∧ a < (g.sorts.names.length : Int)
  rotate_left
  · have hf := hbad fun h => har (h.args a (List.mem_of_getElem? ha))
    have y6 : decide (0 <= a ∧ a <= (g.sorts.names.length : Int) - 1) = false := decide_eq_false (by omega)
    (have F := @y6; refine gR ?_; clear F)
    (have F := @hf; refine gG ?_; exact gT)
  have y6 : decide (0 <= a ∧ a <= (g.sorts.names.length : Int) - 1) = true := decide_eq_true (by omega)
  have y8 : (a <= (g.sorts.names.length : Int) - 1) = True := eq_true (by omega)
  have ga := kdg hs har
  have ia := har.1
  have hbr : 0 <= b ∧ b < (g.sorts.names.length : Int) := by
    rcases hj0 with h | h
    · rw [<- h, ha] at hb; injection hb with hb; rw [<- hb]; exact har
    · exact h.args b (List.mem_of_getElem? hb)
  have gb := kdg hs hbr
  have ib := hbr.1
  by_cases hkk : kd g.sorts a = kd g.sorts b
  rotate_left
  · have hf := hbad fun h => hkk (h.kargs i a b ha hb)
    have y7 : ((kd g.sorts a : Int) = (kd g.sorts b : Int)) = False := eq_false (by omega)
    (have F := ai @y6 (ai @y8 (ai @ga (ai @gb (ai @ia (ai @ib (ai @ha (ai @hb (ai @encInt_u (ai @rK @y7))))))))); refine gR ?_; clear F)
    (have F := @hf; refine gG ?_; exact gT)
  have y7 : ((kd g.sorts a : Int) = (kd g.sorts b : Int)) = True := eq_true (by omega)
  have hq : i + 1 <= d.args.length ∧ _ := ⟨hlt, kargs_next (f := f) ha hka har fun b' hb' => by rw [hb] at hb'; injection hb' with hb'; subst hb'; exact hkk⟩
  (have F := ai @y6 (ai @y8 (ai @ga (ai @gb (ai @ia (ai @ib (ai @ha (ai @hb (ai @encInt_u (ai @rK @y7))))))))); refine gR ?_; clear F)
  (have F := @hw; refine gG ?_; exact ⟨i + 1, hq, gw, gw, by omega⟩)
end
end Go.Proofs.YtkekkmpogmlopaaGreat
namespace Go.Proofs.YtkekkmpogmlopaaGreat
open Go.RowKit
set_option maxHeartbeats 4000000 in
set_option maxRecDepth 100000 in
theorem con_l4Arity {o : Opr} {d : Dcl} (hd : o.decls[0]? = some d) : Con e0 177 [.agg (encOpr o)] [.one (.lit (.int .i64 d.args.length))] := by
  refine gI 7 Tryz.func177 ?_
  (have F := ai @encOpr_u (ai @hd @encDcl_u); refine gG ?_; exact gT)
section
variable {g : Sgn} {o : Opr}
theorem ax_make {d : Dcl} (hd : o.decls[0]? = some d) (h1 : 0 <= o.unit) (h2 : o.unit <= g.ops.length) (h3 : d.args.length = 2) {a b : Int} (ha : d.args[0]? = some a) (hb : d.args[1]? = some b) (hk : kd g.sorts a = kd g.sorts b) (hr : ¬ ((o.assoc = true ∨ o.unit ≠ 0) ∧ kd g.sorts a ≠ kd g.sorts d.res))
    (hu : o.unit ≠ 0 -> ∀ (p : Opr) (u : Dcl), g.ops[o.unit.toNat - 1]? = some p -> p.decls[0]? = some u -> u.args.length = 0 ∧ kd g.sorts u.res = kd g.sorts d.res) : AxOk g o :=
  ⟨h1, h2, fun _ d' hd' => by
    rw [hd] at hd'; injection hd' with hd'; subst hd'
    refine ⟨h3, fun a' b' ha' hb' => ?_⟩
    rw [ha] at ha'; injection ha' with ha'; subst ha'
    rw [hb] at hb'; injection hb' with hb'; subst hb'
    exact ⟨hk, fun h => Classical.byContradiction fun hn => hr ⟨h, hn⟩, hu⟩⟩
theorem ax_plain (h : o.assoc = false ∧ o.comm = false ∧ o.unit = 0) : AxOk g o := ⟨by rw [h.2.2]; exact Int.le_refl _, by rw [h.2.2]; omega, fun h2 => by
  rcases h2 with h2 | h2 | h2
  · rw [h.1] at h2; cases h2
  · rw [h.2.1] at h2; cases h2
  · exact absurd h.2.2 h2⟩
theorem ax_need (h : ¬ (o.assoc = false ∧ o.comm = false ∧ o.unit = 0)) : o.assoc = true ∨ o.comm = true ∨ o.unit ≠ 0 := by
  by_cases h1 : o.assoc = true
  · exact .inl h1
  by_cases h2 : o.comm = true
  · exact .inr (.inl h2)
  exact .inr (.inr fun h3 => h ⟨by simpa using h1, by simpa using h2, h3⟩)
set_option maxHeartbeats 8000000 in
set_option maxRecDepth 100000 in
theorem con_implAxioms (hs : SortsOk g.sorts) (hall : ∀ p ∈ g.ops, DeclsOk g.sorts p) (ho : o ∈ g.ops) (hol : g.ops.length <= 14) : Con e0 142 [.agg (encOrd g.sorts), .agg (encSgn g), .agg (encOpr o)] [.one (.lit (.bool (axOk g o)))] := by
  have hno : ¬ AxOk g o -> axOk g o = false := axOk_false
  have rK := nR_rows (l := kinds g.sorts)
  obtain ⟨d, hd, hdd⟩ := (hall o ho).first
  have gr := kdg hs hdd.res
  have ir := hdd.res.1
  rw [encOrd, encSgn, encOpr]
  refine gI 87042659588714057177760255 Tryz.func142 ?_
  by_cases h1 : 0 <= o.unit
  rotate_left
  · have hf := hno fun h => h1 h.lo
    have z1 : (o.unit < 0) = True := eq_true (by omega)
    (have F := ai @z1 @hf; refine gG ?_; exact gT)
  have z1 : (o.unit < 0) = False := eq_false (by omega)
  by_cases h2 : o.unit <= g.ops.length
  rotate_left
  · have hf := hno fun h => h2 h.hi
    have z2 : ((g.ops.length : Int) < o.unit) = True := eq_true (by omega)
    (have F := ai @z1 (ai @z2 @hf); refine gG ?_; exact gT)
  have z2 : ((g.ops.length : Int) < o.unit) = False := eq_false (by omega)
  by_cases hp : o.assoc = false ∧ o.comm = false ∧ o.unit = 0
  · have ht := axOk_true (ax_plain (g := g) hp)
    obtain ⟨p1, p2, p3⟩ := hp
    have p3 : (o.unit = 0) = True := eq_true p3
    (have F := ai @z1 (ai @z2 (ai @p1 (ai @p2 (ai @p3 @ht)))); refine gG ?_; exact gT)
  have hnd := ax_need hp
  (have F := ai @z1 @z2; have NN : StopAt 3 := trivial; refine gGn ?_; clear F NN)
  refine gM (ι := Unit) [32] [] (fun v => [(32, A.d (.one (.lit (.bool false))))]) (fun v => []) (fun v => True) ?_ (fun v hv => Exists.intro _ (ai (Wk.refl _) ?_))
  · cases q1 : o.assoc with
    | true => (have F := @q1; refine gG ?_; exact ⟨(), trivial, gw, gw⟩)
    | false =>
    cases q2 : o.comm with
    | true => (have F := ai @q1 @q2; refine gG ?_; exact ⟨(), trivial, gw, gw⟩)
    | false =>
      have q3 : (o.unit = 0) = False := eq_false fun h => hp ⟨q1, q2, h⟩
      (have F := ai @q1 (ai @q2 @q3); refine gG ?_; exact ⟨(), trivial, gw, gw⟩)
  clear hv
  by_cases h3 : d.args.length = 2
  rotate_left
  · have hf := hno fun h => h3 (h.two hnd d hd).1
    have z3 : ((d.args.length : Int) = 2) = False := eq_false (by omega)
    (have F := ai @hd (ai @encDcl_u (ai @z3 @hf)); refine gG ?_; exact gT)
  have z3 : ((d.args.length : Int) = 2) = True := eq_true (by omega)
  obtain ⟨a, ha⟩ : ∃ k, d.args[0]? = some k := ⟨_, List.getElem?_eq_getElem (by omega)⟩
  obtain ⟨b, hb⟩ : ∃ k, d.args[1]? = some k := ⟨_, List.getElem?_eq_getElem (by omega)⟩
  have har := hdd.args a (List.mem_of_getElem? ha)
  have hbr := hdd.args b (List.mem_of_getElem? hb)
  have ga := kdg hs har
  have gb := kdg hs hbr
  have ia := har.1
  have ib := hbr.1
  by_cases hk : kd g.sorts a = kd g.sorts b
  rotate_left
  · have hf := hno fun h => hk ((h.two hnd d hd).2 a b ha hb).1
    have z4 : ((kd g.sorts a : Int) = (kd g.sorts b : Int)) = False := eq_false (by omega)
    (have F := ai @hd (ai @encDcl_u (ai @z3 (ai @ha (ai @hb (ai @encInt_u (ai @ga (ai @gb (ai @ia (ai @ib (ai @rK (ai @z4 @hf))))))))))); refine gG ?_; exact gT)
  have z4 : ((kd g.sorts a : Int) = (kd g.sorts b : Int)) = True := eq_true (by omega)
  (have F := ai @hd (ai @encDcl_u (ai @z3 (ai @ha (ai @hb (ai @encInt_u (ai @ga (ai @gb (ai @ia (ai @ib (ai @rK @z4)))))))))); have NN : StopAt 8 := trivial; refine gGn ?_; clear F NN)
  refine gM (ι := Bool) [83] [] (fun v => [(83, A.d (.one (.lit (.bool v))))]) (fun v => []) (fun v => (v = true -> ((o.assoc = true ∨ o.unit ≠ 0) ∧ kd g.sorts a ≠ kd g.sorts d.res)) ∧ (v = false -> ¬ ((o.assoc = true ∨ o.unit ≠ 0) ∧ kd g.sorts a ≠ kd g.sorts d.res))) ?_ (fun v hv => Exists.intro _ (ai (Wk.refl _) ?_))
  · cases q1 : o.assoc with
    | true =>
      by_cases hr : kd g.sorts a = kd g.sorts d.res
      · have z5 : ((kd g.sorts a : Int) = (kd g.sorts d.res : Int)) = True := eq_true (by omega)
        (have F := ai @q1 (ai @ha (ai @encInt_u (ai @ga (ai @gr (ai @ia (ai @ir (ai @rK @z5))))))); refine gG ?_; exact ⟨false, ⟨fun h => (by cases h), fun _ h => h.2 hr⟩, gw, gw⟩)
      · have z5 : ((kd g.sorts a : Int) = (kd g.sorts d.res : Int)) = False := eq_false (by omega)
        (have F := ai @q1 (ai @ha (ai @encInt_u (ai @ga (ai @gr (ai @ia (ai @ir (ai @rK @z5))))))); refine gG ?_; exact ⟨true, ⟨fun _ => ⟨.inl rfl, hr⟩, fun h => (by cases h)⟩, gw, gw⟩)
    | false =>
    by_cases q3 : o.unit = 0
    · have z6 : (o.unit = 0) = True := eq_true q3
      (have F := ai @q1 @z6; refine gG ?_; exact ⟨false, ⟨fun h => (by cases h), fun _ h => h.1.elim (fun h => (by cases h)) fun h => h q3⟩, gw, gw⟩)
    · have z6 : (o.unit = 0) = False := eq_false q3
      by_cases hr : kd g.sorts a = kd g.sorts d.res
      · have z5 : ((kd g.sorts a : Int) = (kd g.sorts d.res : Int)) = True := eq_true (by omega)
        (have F := ai @q1 (ai @z6 (ai @ha (ai @encInt_u (ai @ga (ai @gr (ai @ia (ai @ir (ai @rK @z5)))))))); refine gG ?_; exact ⟨false, ⟨fun h => (by cases h), fun _ h => h.2 hr⟩, gw, gw⟩)
      · have z5 : ((kd g.sorts a : Int) = (kd g.sorts d.res : Int)) = False := eq_false (by omega)
        (have F := ai @q1 (ai @z6 (ai @ha (ai @encInt_u (ai @ga (ai @gr (ai @ia (ai @ir (ai @rK @z5)))))))); refine gG ?_; exact ⟨true, ⟨fun _ => ⟨.inr q3, hr⟩, fun h => (by cases h)⟩, gw, gw⟩)
  obtain ⟨hv1, hv2⟩ := hv
  cases v with
  | true =>
    have hf := hno fun h => (hv1 rfl).2 (((h.two hnd d hd).2 a b ha hb).2.1 (hv1 rfl).1)
    (have F := @hf; refine gG ?_; exact gT)
  | false =>
  have hr := hv2 rfl
  by_cases q3 : o.unit = 0
  · have z6 : (o.unit = 0) = True := eq_true q3
    have ht := axOk_true (ax_make hd h1 h2 h3 ha hb hk hr fun h => absurd q3 h)
    (have F := ai @z6 @ht; refine gG ?_; exact gT)
  have z6 : (o.unit = 0) = False := eq_false q3
  have hsub : IntKind.i64.wrap (o.unit - 1) = ((o.unit.toNat - 1 : Nat) : Int) := wrapN (by omega) (by omega) (by omega)
  obtain ⟨p, hp⟩ : ∃ p, g.ops[o.unit.toNat - 1]? = some p := ⟨_, List.getElem?_eq_getElem (by omega)⟩
  obtain ⟨u, hu, huu⟩ := (hall p (List.mem_of_getElem? hp)).first
  have gu' := kdg hs huu.res
  have iu := huu.res.1
  have key : (u.args.length = 0 ∧ kd g.sorts u.res = kd g.sorts d.res) -> axOk g o = true := fun h => axOk_true (ax_make hd h1 h2 h3 ha hb hk hr fun _ p' u' hp' hu' => by
    rw [hp] at hp'; injection hp' with hp'; subst hp'
    rw [hu] at hu'; injection hu' with hu'; subst hu'
    exact h)
  have keyn : ¬ (u.args.length = 0 ∧ kd g.sorts u.res = kd g.sorts d.res) -> axOk g o = false := fun h => hno fun hA => h (((hA.two hnd d hd).2 a b ha hb).2.2 q3 p u hp hu)
  by_cases hl0 : u.args.length = 0
  rotate_left
  · have hf := keyn fun h => hl0 h.1
    have z7 : ((u.args.length : Int) = 0) = False := eq_false (by omega)
    (have F := ai @z6 (ai @hsub (ai @hp (ai @encOpr_u (ai @hu (ai @encDcl_u (ai @natInt (ai @z7 @hf))))))); refine gG ?_; exact gT)
  have z7 : ((u.args.length : Int) = 0) = True := eq_true (by omega)
  by_cases hku : kd g.sorts u.res = kd g.sorts d.res
  · have ht := key ⟨hl0, hku⟩
    have z8 : ((kd g.sorts u.res : Int) = (kd g.sorts d.res : Int)) = True := eq_true (by omega)
    (have F := ai @z6 (ai @hsub (ai @hp (ai @encOpr_u (ai @hu (ai @encDcl_u (ai @natInt (ai @z7 (ai @gu' (ai @gr (ai @iu (ai @ir (ai @rK (ai @z8 @ht))))))))))))); refine gG ?_; exact gT)
  · have hf := keyn fun h => hku h.2
    have z8 : ((kd g.sorts u.res : Int) = (kd g.sorts d.res : Int)) = False := eq_false (by omega)
    (have F := ai @z6 (ai @hsub (ai @hp (ai @encOpr_u (ai @hu (ai @encDcl_u (ai @natInt (ai @z7 (ai @gu' (ai @gr (ai @iu (ai @ir (ai @rK (ai @z8 @hf))))))))))))); refine gG ?_; exact gT)
set_option maxHeartbeats 8000000 in
set_option maxRecDepth 100000 in
theorem con_l4Axioms (hs : SortsOk g.sorts) (hall : ∀ p ∈ g.ops, DeclsOk g.sorts p) {k : Nat} (hk0 : g.ops[k]? = some o) (hol : g.ops.length <= 14) : Con e0 130 [.agg (encSgn g), .one (.lit (.int .i64 k))] [.one (.lit (.bool (axOk g o)))] := by
  have hno : ¬ AxOk g o -> axOk g o = false := axOk_false
  have ho := List.mem_of_getElem? hk0
  have hkl := (List.getElem?_eq_some_iff.1 hk0).1
  have cK := con_l3Kinds hs
  rw [show (casts (kinds g.sorts)).map encInt = nR (kinds g.sorts) from rfl] at cK
  have rK := nR_rows (l := kinds g.sorts)
  obtain ⟨d, hd, hdd⟩ := (hall o ho).first
  have cA := con_l4Arity hd
  have gr := kdg hs hdd.res
  have ir := hdd.res.1
  rw [encSrt] at cK
  rw [encOpr] at cA
  rw [encSgn]
  refine gI 174085318024508800717819895 Tryz.func130 ?_
  by_cases hp : o.assoc = false ∧ o.comm = false ∧ o.unit = 0
  · have ht := axOk_true (ax_plain (g := g) hp)
    obtain ⟨p1, p2, p3⟩ := hp
    have p3 : (o.unit = 0) = True := eq_true p3
    (have F := ai @hk0 (ai @encOpr_u (ai @p1 (ai @p2 (ai @p3 @ht)))); refine gG ?_; exact gT)
  have hnd := ax_need hp
  (have F := ai @hk0 @encOpr_u; have NN : StopAt 2 := trivial; refine gGn ?_; clear F NN)
  refine gM (ι := Unit) [29] [] (fun v => [(29, A.d (.one (.lit (.bool false))))]) (fun v => []) (fun v => True) ?_ (fun v hv => Exists.intro _ (ai (Wk.refl _) ?_))
  · cases q1 : o.assoc with
    | true => (have F := @q1; refine gG ?_; exact ⟨(), trivial, gw, gw⟩)
    | false =>
    cases q2 : o.comm with
    | true => (have F := ai @q1 @q2; refine gG ?_; exact ⟨(), trivial, gw, gw⟩)
    | false =>
      have q3 : (o.unit = 0) = False := eq_false fun h => hp ⟨q1, q2, h⟩
      (have F := ai @q1 (ai @q2 @q3); refine gG ?_; exact ⟨(), trivial, gw, gw⟩)
  clear hv
  (have F := @e0P; refine gG ?_; clear F)
  refine gB ?_
  (have F := @e0P; refine gC (cA) ?_; clear F)
  by_cases h3 : d.args.length = 2
  rotate_left
  · have hf := hno fun h => h3 (h.two hnd d hd).1
    have z3 : ((d.args.length : Int) = 2) = False := eq_false (by omega)
    (have F := @z3; refine gR ?_; clear F)
    (have F := @hf; refine gG ?_; exact gT)
  have z3 : ((d.args.length : Int) = 2) = True := eq_true (by omega)
  (have F := @z3; refine gC (con_l1In o.unit 0 (g.ops.length : Int)) ?_; clear F)
  by_cases h12 : 0 <= o.unit ∧ o.unit <= (g.ops.length : Int)
  rotate_left
  · have hf := hno fun h => h12 ⟨h.lo, h.hi⟩
    have z1 : decide (0 <= o.unit ∧ o.unit <= (g.ops.length : Int)) = false := decide_eq_false h12
    (have F := ai @z3 @z1; refine gR ?_; clear F)
    (have F := @hf; refine gG ?_; exact gT)
  have z1 : decide (0 <= o.unit ∧ o.unit <= (g.ops.length : Int)) = true := decide_eq_true h12
  obtain ⟨h1, h2⟩ := h12
  obtain ⟨a, ha⟩ : ∃ k, d.args[0]? = some k := ⟨_, List.getElem?_eq_getElem (by omega)⟩
  obtain ⟨b, hb⟩ : ∃ k, d.args[1]? = some k := ⟨_, List.getElem?_eq_getElem (by omega)⟩
  have har := hdd.args a (List.mem_of_getElem? ha)
  have hbr := hdd.args b (List.mem_of_getElem? hb)
  have ga := kdg hs har
  have gb := kdg hs hbr
  have ia := har.1
  have ib := hbr.1
  (have F := ai @z3 @z1; refine gR ?_; clear F)
  (have F := @e0P; refine gG ?_; clear F)
  refine gB ?_
  (have F := @e0P; refine gC (cK) ?_; clear F)
  (have F := @e0P; refine gR ?_; clear F)
  (have F := ai @hd @encDcl_u; have NN : StopAt 8 := trivial; refine gGn ?_; clear F NN)
  refine region_Dk 22 (by decide +kernel) ?_
  intro ds hds
  simp only [List.map] at hds
  subst hds
  refine (have F := ai ha (ai hb (ai encInt_u (ai ga (ai gb (ai gr (ai ia (ai ib (ai ir rK)))))))); gP 19 ?_)
  refine (have F := ia; gAq ?_)
  refine (have F := ia; gAq ?_)
  refine (have F := ia; gAq ?_)
  (have F := @e0P; refine gR ?_; clear F)
  (have F := @e0P; have NN : StopAt 9 := trivial; refine gGn ?_; clear F NN)
  refine gM (ι := Bool) [84] [] (fun v => [(84, A.d (.one (.lit (.bool v))))]) (fun v => []) (fun v => (v = true -> kd g.sorts a ≠ kd g.sorts b ∨ ((o.assoc = true ∨ o.unit ≠ 0) ∧ kd g.sorts a ≠ kd g.sorts d.res)) ∧ (v = false -> kd g.sorts a = kd g.sorts b ∧ ¬ ((o.assoc = true ∨ o.unit ≠ 0) ∧ kd g.sorts a ≠ kd g.sorts d.res))) ?_ (fun v hv => Exists.intro _ (ai (Wk.refl _) ?_))
  · by_cases hk : kd g.sorts a = kd g.sorts b
    rotate_left
    · have z4 : ((kd g.sorts a : Int) = (kd g.sorts b : Int)) = False := eq_false (by omega)
      (have F := @z4; refine gG ?_; exact ⟨true, ⟨fun _ => .inl hk, fun h => (by cases h)⟩, gw, gw⟩)
    have z4 : ((kd g.sorts a : Int) = (kd g.sorts b : Int)) = True := eq_true (by omega)
    cases q1 : o.assoc with
    | true =>
      by_cases hr : kd g.sorts a = kd g.sorts d.res
      · have z5 : ((kd g.sorts a : Int) = (kd g.sorts d.res : Int)) = True := eq_true (by omega)
        (have F := ai @q1 (ai @encOpr_u (ai @z4 @z5)); refine gG ?_; exact ⟨false, ⟨fun h => (by cases h), fun _ => ⟨hk, fun h => h.2 hr⟩⟩, gw, gw⟩)
      · have z5 : ((kd g.sorts a : Int) = (kd g.sorts d.res : Int)) = False := eq_false (by omega)
        (have F := ai @q1 (ai @encOpr_u (ai @z4 @z5)); refine gG ?_; exact ⟨true, ⟨fun _ => .inr ⟨.inl rfl, hr⟩, fun h => (by cases h)⟩, gw, gw⟩)
    | false =>
    by_cases q3 : o.unit = 0
    · have z6 : ((0 : Int) < o.unit) = False := eq_false (by omega)
      (have F := ai @q1 (ai @encOpr_u (ai @z4 @z6)); refine gG ?_; exact ⟨false, ⟨fun h => (by cases h), fun _ => ⟨hk, fun h => h.1.elim (fun h => (by cases h)) fun h => h q3⟩⟩, gw, gw⟩)
    · have z6 : ((0 : Int) < o.unit) = True := eq_true (by omega)
      by_cases hr : kd g.sorts a = kd g.sorts d.res
      · have z5 : ((kd g.sorts a : Int) = (kd g.sorts d.res : Int)) = True := eq_true (by omega)
        (have F := ai @q1 (ai @encOpr_u (ai @z4 (ai @z6 @z5))); refine gG ?_; exact ⟨false, ⟨fun h => (by cases h), fun _ => ⟨hk, fun h => h.2 hr⟩⟩, gw, gw⟩)
      · have z5 : ((kd g.sorts a : Int) = (kd g.sorts d.res : Int)) = False := eq_false (by omega)
        (have F := ai @q1 (ai @encOpr_u (ai @z4 (ai @z6 @z5))); refine gG ?_; exact ⟨true, ⟨fun _ => .inr ⟨.inr q3, hr⟩, fun h => (by cases h)⟩, gw, gw⟩)
  obtain ⟨hv1, hv2⟩ := hv
  cases v with
  | true =>
    have hf := hno fun h => (hv1 rfl).elim (fun h' => h' ((h.two hnd d hd).2 a b ha hb).1) fun h' => h'.2 (((h.two hnd d hd).2 a b ha hb).2.1 h'.1)
    (have F := @hf; refine gG ?_; exact gT)
  | false =>
  obtain ⟨hk, hr⟩ := hv2 rfl
  by_cases q3 : o.unit = 0
  · have z6 : (o.unit = 0) = True := eq_true q3
    have ht := axOk_true (ax_make hd h1 h2 h3 ha hb hk hr fun h => absurd q3 h)
    (have F := ai @encOpr_u (ai @z6 @ht); refine gG ?_; exact gT)
  have z6 : (o.unit = 0) = False := eq_false q3
  have hsub : IntKind.i64.wrap (o.unit - 1) = ((o.unit.toNat - 1 : Nat) : Int) := wrapN (by omega) (by omega) (by omega)
  obtain ⟨p, hp⟩ : ∃ p, g.ops[o.unit.toNat - 1]? = some p := ⟨_, List.getElem?_eq_getElem (by omega)⟩
  obtain ⟨u, hu, huu⟩ := (hall p (List.mem_of_getElem? hp)).first
  have cP := con_l4Arity hu
  rw [encOpr] at cP
  have gu' := kdg hs huu.res
  have iu := huu.res.1
  have key : (u.args.length = 0 ∧ kd g.sorts u.res = kd g.sorts d.res) -> axOk g o = true := fun h => axOk_true (ax_make hd h1 h2 h3 ha hb hk hr fun _ p' u' hp' hu' => by
    rw [hp] at hp'; injection hp' with hp'; subst hp'
    rw [hu] at hu'; injection hu' with hu'; subst hu'
    exact h)
  have keyn : ¬ (u.args.length = 0 ∧ kd g.sorts u.res = kd g.sorts d.res) -> axOk g o = false := fun h => hno fun hA => h (((hA.two hnd d hd).2 a b ha hb).2.2 q3 p u hp hu)
  (have F := ai @z6 (ai @hsub (ai @hp (ai @encOpr_u @natInt))); refine gG ?_; clear F)
  refine gB ?_
  (have F := @e0P; refine gC (cP) ?_; clear F)
  by_cases hl0 : u.args.length = 0
  rotate_left
  · have hf := keyn fun h => hl0 h.1
    have z7 : ((u.args.length : Int) = 0) = False := eq_false (by omega)
    (have F := @z7; refine gR ?_; clear F)
    (have F := @hf; refine gG ?_; exact gT)
  have z7 : ((u.args.length : Int) = 0) = True := eq_true (by omega)
  by_cases hku : kd g.sorts u.res = kd g.sorts d.res
  · have ht := key ⟨hl0, hku⟩
    have z8 : ((kd g.sorts u.res : Int) = (kd g.sorts d.res : Int)) = True := eq_true (by omega)
    (have F := ai @z7 (ai @hu (ai @encDcl_u (ai @gu' (ai @iu (ai @rK @z8))))); refine gR ?_; clear F)
    (have F := @ht; refine gG ?_; exact gT)
  · have hf := keyn fun h => hku h.2
    have z8 : ((kd g.sorts u.res : Int) = (kd g.sorts d.res : Int)) = False := eq_false (by omega)
    (have F := ai @z7 (ai @hu (ai @encDcl_u (ai @gu' (ai @iu (ai @rK @z8))))); refine gR ?_; clear F)
    (have F := @hf; refine gG ?_; exact gT)
end
end Go.Proofs.YtkekkmpogmlopaaGreat
namespace Go.Proofs.YtkekkmpogmlopaaGreat
open Go.RowKit
theorem con_cmpOf {f : FuncId} (hb : hasBody e0.P f = true) {a b : Tm} (h : cmpTmC f a b) (ha : okTm a) (hk : okTm b) : Con e0 f [.agg (encTm a), .agg (encTm b)] [.one (.lit (.int .i64 (cmpTm a b)))] := by
  refine con_below e0_ok hb fun w S vs hv => ?_
  match vs, hv with
  | [v, u], hv =>
    obtain ⟨⟨us, rfl, hu⟩, ⟨us', rfl, hu'⟩, _⟩ := hv
    exact (h S S us us' w ha hk hu hu').mono fun e w' ⟨h1, h2⟩ => ⟨_, h1, h2, by simp [retA, ARel, DRel, Rep]⟩
theorem con_implCmp {a b : Tm} (ha : okTm a) (hk : okTm b) : Con e0 152 [.agg (encTm a), .agg (encTm b)] [.one (.lit (.int .i64 (cmpTm a b)))] := con_cmpOf (by kernel_rfl) (implCompareTerms a b) ha hk
theorem con_specCmp {a b : Tm} (ha : okTm a) (hk : okTm b) : Con e0 161 [.agg (encTm a), .agg (encTm b)] [.one (.lit (.int .i64 (cmpTm a b)))] := con_cmpOf (by kernel_rfl) (specCompareTerms a b) ha hk
theorem sizeTms_app (a b : List Tm) : sizeTms (a ++ b) = sizeTms a + sizeTms b := by
  induction a with
  | nil => simp [sizeTms]
  | cons x xs ih => simp only [List.cons_append, sizeTms, ih]; omega
theorem sizeTms_mem {ts : List Tm} {t : Tm} (h : t ∈ ts) : sizeTm t <= sizeTms ts := by
  induction ts with
  | nil => cases h
  | cons x xs ih =>
    simp only [sizeTms]
    rcases List.mem_cons.1 h with rfl | h
    · omega
    · have := ih h; omega
theorem sizeTms_snoc {ts : List Tm} {i : Nat} {t : Tm} (h : ts[i]? = some t) : sizeTms (ts.take (i + 1)) = sizeTms (ts.take i) + sizeTm t := by
  rw [take_snoc h, sizeTms_app]; simp [sizeTms]
theorem sizeTms_take (ts : List Tm) (i : Nat) : sizeTms (ts.take i) <= sizeTms ts := by
  have := sizeTms_app (ts.take i) (ts.drop i)
  rw [List.take_append_drop] at this
  omega
theorem sizeTms_len (ts : List Tm) : ts.length <= sizeTms ts := by
  induction ts with
  | nil => simp [sizeTms]
  | cons x xs ih => cases x; simp only [List.length_cons, sizeTms, sizeTm]; omega
mutual
def depthTm : Tm -> Nat
  | .mk _ _ _ a => 1 + depthTms a
def depthTms : List Tm -> Nat
  | [] => 0
  | t :: ts => max (depthTm t) (depthTms ts)
end
mutual
theorem depth_size : ∀ t : Tm, depthTm t <= sizeTm t
  | .mk _ _ _ a => by
    have := depths_size a
    simp only [depthTm, sizeTm]; omega
theorem depths_size : ∀ ts : List Tm, depthTms ts <= sizeTms ts
  | [] => by simp [depthTms]
  | t :: ts => by
    have := depth_size t
    have := depths_size ts
    simp only [depthTms, sizeTms]; omega
end
theorem depthTms_app (a b : List Tm) : depthTms (a ++ b) = max (depthTms a) (depthTms b) := by
  induction a with
  | nil => simp [depthTms]
  | cons x xs ih => simp only [List.cons_append, depthTms, ih]; omega
theorem depthTms_snoc {ts : List Tm} {i : Nat} {t : Tm} (h : ts[i]? = some t) : depthTms (ts.take (i + 1)) = max (depthTms (ts.take i)) (depthTm t) := by
  rw [take_snoc h, depthTms_app]; simp [depthTms]
theorem encTm_u : ∀ op nm so args, encTm (.mk op nm so args) = [.lit (.int .i64 op), .lit (.string nm), .lit (.int .i64 so), .sl (encTms args)] := fun _ _ _ _ => by rw [encTm]
theorem sizeTm_u : ∀ op nm so args, sizeTm (.mk op nm so args) = 1 + sizeTms args := fun _ _ _ _ => by rw [sizeTm]
theorem depthTm_u : ∀ op nm so args, depthTm (.mk op nm so args) = 1 + depthTms args := fun _ _ _ _ => by rw [depthTm]
theorem sizeTms_u : sizeTms [] = 0 := by rw [sizeTms]
theorem depthTms_u : depthTms [] = 0 := by rw [depthTms]
def big : Nat := 4611686018427387904
set_option maxHeartbeats 4000000 in
set_option maxRecDepth 100000 in
theorem con_implSize_all : ∀ (n : Nat) (t : Tm), sizeTm t < n -> sizeTm t <= big -> Con e0 89 [.agg (encTm t)] [.one (.lit (.int .i64 (sizeTm t)))] := by
  intro n
  induction n with
  | zero => intro t h; omega
  | succ n ih =>
    intro t hn hb
    obtain ⟨op, nm, so, args⟩ := t
    simp only [sizeTm, big] at hn hb
    have hal := sizeTms_len args
    refine gI 1967 Tryz.func89 ?_
    (have F := ai @encTm_u @tmz; refine gG ?_; clear F)
    (have F := @sizeTms_u; refine gL (ι := Nat) [3, 5, 9, 10] [] (fun i => [(9, A.d (.one (.lit (.int .i64 i)))), (3, A.d (.one (.lit (.int .i64 ((1 + sizeTms (args.take i) : Nat) : Int)))))]) (fun i => []) (fun i => i <= args.length) (fun i => args.length - i) (0) (by omega) (fun i hi => ?_); clear F)
    by_cases hl : i < args.length
    rotate_left
    · have hl' : ¬ ((i : Int) < (args.length : Int)) := by omega
      have e : args.take i = args := List.take_of_length_le (by omega)
      (have F := ai @hl' (ai @e @sizeTm_u); refine gG ?_; exact gT)
    have hl' : (i : Int) < (args.length : Int) := by omega
    obtain ⟨a, ha⟩ : ∃ a, args[i]? = some a := ⟨_, List.getElem?_eq_getElem hl⟩
    have hs := sizeTms_snoc ha
    have ht := sizeTms_take args (i + 1)
    have hm := sizeTms_mem (List.mem_of_getElem? ha)
    have hw : IntKind.i64.wrap (((1 + sizeTms (args.take i) : Nat) : Int) + (sizeTm a : Int)) = ((1 + sizeTms (args.take (i + 1)) : Nat) : Int) := wrapN (by omega) (by omega) (by omega)
    have hw1 := wrap1 (k := i) (by omega)
    (have F := ai @hl' (ai @tmz @ha); refine gG ?_; clear F)
    refine gB ?_
    (have F := @tmz; refine gC (ih a (by omega) (by unfold big; omega)) ?_; clear F)
    (have F := @hw; refine gR ?_; clear F)
    (have F := ai @hw1 (ai @hw @tmz); refine gG ?_; exact ⟨i + 1, by omega, gw, gw, by omega⟩)
theorem con_implSize {t : Tm} (h : sizeTm t <= big) : Con e0 89 [.agg (encTm t)] [.one (.lit (.int .i64 (sizeTm t)))] := con_implSize_all _ t (Nat.lt_succ_self _) h
set_option maxHeartbeats 4000000 in
set_option maxRecDepth 100000 in
theorem con_implDepth_all : ∀ (n : Nat) (t : Tm), sizeTm t < n -> sizeTm t <= big -> Con e0 90 [.agg (encTm t)] [.one (.lit (.int .i64 (depthTm t)))] := by
  intro n
  induction n with
  | zero => intro t h; omega
  | succ n ih =>
    intro t hn hb
    obtain ⟨op, nm, so, args⟩ := t
    simp only [sizeTm, big] at hn hb
    have hal := sizeTms_len args
    have hds := depths_size args
    refine gI 1967 Tryz.func90 ?_
    (have F := ai @encTm_u @tmz; refine gG ?_; clear F)
    (have F := @depthTms_u; refine gL (ι := Nat) [3, 5, 9, 10] [] (fun i => [(9, A.d (.one (.lit (.int .i64 i)))), (3, A.d (.one (.lit (.int .i64 ((depthTms (args.take i) : Nat) : Int)))))]) (fun i => []) (fun i => i <= args.length) (fun i => args.length - i) (0) (by omega) (fun i hi => ?_); clear F)
    by_cases hl : i < args.length
    rotate_left
    · have hl' : ¬ ((i : Int) < (args.length : Int)) := by omega
      have e : args.take i = args := List.take_of_length_le (by omega)
      have hw : IntKind.i64.wrap ((depthTms args : Int) + 1) = ((1 + depthTms args : Nat) : Int) := wrapN (by omega) (by omega) (by omega)
      (have F := ai @hl' (ai @e (ai @hw @depthTm_u)); refine gG ?_; exact gT)
    have hl' : (i : Int) < (args.length : Int) := by omega
    obtain ⟨a, ha⟩ : ∃ a, args[i]? = some a := ⟨_, List.getElem?_eq_getElem hl⟩
    have hs := depthTms_snoc ha
    have hm := sizeTms_mem (List.mem_of_getElem? ha)
    have hw : (if (depthTm a : Int) > (depthTms (args.take i) : Int) then (depthTm a : Int) else (depthTms (args.take i) : Int)) = ((depthTms (args.take (i + 1)) : Nat) : Int) := by
      split <;> omega
    have hw1 := wrap1 (k := i) (by omega)
    (have F := ai @hl' (ai @tmz @ha); refine gG ?_; clear F)
    refine gB ?_
    (have F := @tmz; refine gC (ih a (by omega) (by unfold big; omega)) ?_; clear F)
    (have F := @hw; refine gR ?_; clear F)
    (have F := ai @hw1 (ai @hw @tmz); refine gG ?_; exact ⟨i + 1, by omega, gw, gw, by omega⟩)
theorem con_implDepth {t : Tm} (h : sizeTm t <= big) : Con e0 90 [.agg (encTm t)] [.one (.lit (.int .i64 (depthTm t)))] := con_implDepth_all _ t (Nat.lt_succ_self _) h
set_option maxHeartbeats 4000000 in
set_option maxRecDepth 100000 in
theorem con_l1Max (a b : Int) : Con e0 179 [.one (.lit (.int .i64 a)), .one (.lit (.int .i64 b))] [.one (.lit (.int .i64 (max a b)))] := by
  refine gI 147 Tryz.func179 ?_
  by_cases h : b < a
  · have e : max a b = a := by omega
    (have F := ai @h @e; refine gG ?_; exact gT)
  · have e : max a b = b := by omega
    (have F := ai @h @e; refine gG ?_; exact gT)
set_option maxHeartbeats 4000000 in
set_option maxRecDepth 100000 in
theorem con_specDepth_all : ∀ (n : Nat) (t : Tm), sizeTm t < n -> sizeTm t <= big -> Con e0 135 [.agg (encTm t)] [.one (.lit (.int .i64 (depthTm t)))] := by
  intro n
  induction n with
  | zero => intro t h; omega
  | succ n ih =>
    intro t hn hb
    obtain ⟨op, nm, so, args⟩ := t
    simp only [sizeTm, big] at hn hb
    have hal := sizeTms_len args
    have hds := depths_size args
    refine gI 543 Tryz.func135 ?_
    (have F := ai @encTm_u @tmz; refine gG ?_; clear F)
    (have F := @depthTms_u; refine gL (ι := Nat) [3, 4, 9] [] (fun i => [(4, A.d (.one (.lit (.int .i64 i)))), (3, A.d (.one (.lit (.int .i64 ((depthTms (args.take i) : Nat) : Int)))))]) (fun i => []) (fun i => i <= args.length) (fun i => args.length - i) (0) (by omega) (fun i hi => ?_); clear F)
    by_cases hl : i < args.length
    rotate_left
    · have hl' : ¬ ((i : Int) < (args.length : Int)) := by omega
      have e : args.take i = args := List.take_of_length_le (by omega)
      have hw : IntKind.i64.wrap ((depthTms args : Int) + 1) = ((1 + depthTms args : Nat) : Int) := wrapN (by omega) (by omega) (by omega)
      (have F := ai @hl' (ai @e (ai @hw (ai @depthTm_u @tmz))); refine gG ?_; exact gT)
    have hl' : (i : Int) < (args.length : Int) := by omega
    obtain ⟨a, ha⟩ : ∃ a, args[i]? = some a := ⟨_, List.getElem?_eq_getElem hl⟩
    have hs := depthTms_snoc ha
    have hm := sizeTms_mem (List.mem_of_getElem? ha)
    have hw : max (depthTms (args.take i) : Int) (depthTm a : Int) = ((depthTms (args.take (i + 1)) : Nat) : Int) := by omega
    have hw1 := wrap1 (k := i) (by omega)
    (have F := ai @hl' (ai @tmz @ha); refine gG ?_; clear F)
    refine gB ?_
    (have F := ai @tmz @ha; refine gC (ih a (by omega) (by unfold big; omega)) ?_; clear F)
    (have F := @tmz; refine gC (con_l1Max _ _) ?_; clear F)
    (have F := @hw; refine gR ?_; clear F)
    (have F := ai @hw1 (ai @hw @tmz); refine gG ?_; exact ⟨i + 1, by omega, gw, gw, by omega⟩)
theorem con_specDepth {t : Tm} (h : sizeTm t <= big) : Con e0 135 [.agg (encTm t)] [.one (.lit (.int .i64 (depthTm t)))] := con_specDepth_all _ t (Nat.lt_succ_self _) h
end Go.Proofs.YtkekkmpogmlopaaGreat
namespace Go.Proofs.YtkekkmpogmlopaaGreat
open Go.RowKit
def Lks (sb : List (Nat × A)) (mb : List (Nat × Bk)) (σ : St) : Prop := (∀ p ∈ sb, gs σ.s p.1 = p.2) ∧ ∀ p ∈ mb, gm σ.m p.1 = some p.2
def keyB (k : Nat) : A -> Bool
  | .ref k' _ => k' == k
  | .buf k' => k' == k
  | .row k' _ _ _ => k' == k
  | _ => false
def freeB (d : Nat) (sb : List (Nat × A)) (mb : List (Nat × Bk)) : Bool := sb.all (fun p => p.1 != d && !keyB d p.2) && mb.all (fun p => p.1 != d)
theorem gs_killK_keep (k t : Nat) : ∀ (s : List (Nat × A)), keyB k (gs s t) = false -> gs (killK k s) t = gs s t
  | [], _ => rfl
  | (t', x) :: r, h => by
    have ih := gs_killK_keep k t r
    by_cases ht : t = t'
    · cases x <;> simp_all [killK, gs, keyB]
    · have h2 : keyB k (gs r t) = false := by simpa [gs, ht] using h
      have h3 := ih h2
      clear h ih
      cases x <;> simp [killK, gs, ht, h3]
theorem litB_keep {d : Nat} {a : Option Addr} {n cap : Nat} {x : A} (h : keyB d x = false) : litB d a n cap x = x := by
  cases x <;> simp_all [litB, keyB]
section
variable {sb sb' : List (Nat × A)} {mb mb' : List (Nat × Bk)} {s : List (Nat × A)} {m : List (Nat × Bk)} {d : Nat} {α : A} {bk : Bk} {σ : St}
theorem Lks.app (h : Lks sb mb σ) (h' : Lks sb' mb' σ) : Lks (sb ++ sb') (mb ++ mb') σ :=
  ⟨fun p hp => (List.mem_append.1 hp).elim (h.1 p) (h'.1 p), fun p hp => (List.mem_append.1 hp).elim (h.2 p) (h'.2 p)⟩
theorem Lks.born (h : Lks sb mb ⟨s, m⟩) (hf : freeB d sb mb = true) : Lks sb mb ⟨(d, α) :: killK d s, (d, bk) :: remM d m⟩ := by
  simp only [freeB, Bool.and_eq_true, List.all_eq_true, bne_iff_ne, ne_eq, Bool.not_eq_true'] at hf
  refine ⟨fun p hp => ?_, fun p hp => ?_⟩
  · have h1 := hf.1 p hp
    have h2 := h.1 p hp
    simp only [gs, h1.1, if_false]
    rw [gs_killK_keep _ _ _ (by rw [h2]; exact h1.2)]
    exact h2
  · have h1 := hf.2 p hp
    simp only [gm, h1, if_false, gm_remM]
    exact h.2 p hp
theorem Lks.pin (h : Lks sb mb ⟨s, m⟩) (hf : freeB d sb mb = true) {a : Option Addr} {n cap : Nat} : Lks sb mb ⟨(d, α) :: mapS (litB d a n cap) (killK d s), (d, bk) :: remM d (remM d m)⟩ := by
  simp only [freeB, Bool.and_eq_true, List.all_eq_true, bne_iff_ne, ne_eq, Bool.not_eq_true'] at hf
  refine ⟨fun p hp => ?_, fun p hp => ?_⟩
  · have h1 := hf.1 p hp
    have h2 := h.1 p hp
    simp only [gs, h1.1, if_false]
    rw [gs_mapS rfl, gs_killK_keep _ _ _ (by rw [h2]; exact h1.2), h2]
    exact litB_keep h1.2
  · have h1 := hf.2 p hp
    simp only [gm, h1, if_false, gm_remM]
    exact h.2 p hp
theorem Lks.slot (h : Lks sb mb ⟨s, m⟩) (hf : sb.all (fun p => p.1 != d) = true) : Lks sb mb ⟨(d, α) :: s, m⟩ := by
  simp only [List.all_eq_true, bne_iff_ne, ne_eq] at hf
  refine ⟨fun p hp => ?_, h.2⟩
  simp only [gs, hf p hp, if_false]
  exact h.1 p hp
theorem Lks.own (h : Lks sb mb ⟨s, m⟩) (hf : mb.all (fun p => p.1 != d) = true) : Lks sb mb ⟨s, (d, bk) :: remM d m⟩ := by
  simp only [List.all_eq_true, bne_iff_ne, ne_eq] at hf
  refine ⟨h.1, fun p hp => ?_⟩
  simp only [gm, hf p hp, if_false, gm_remM]
  exact h.2 p hp
theorem gs_lks : ∀ {sb : List (Nat × A)} (t : Nat), (∀ p ∈ sb, gs σ.s p.1 = p.2) -> gs sb t = gs σ.s t ∨ gs sb t = .undef
  | [], t, _ => .inr rfl
  | (t', x) :: r, t, h => by
    simp only [gs]
    by_cases ht : t = t'
    · have := h (t', x) (by simp)
      rw [if_pos ht, ht]
      exact .inl this.symm
    · rw [if_neg ht]
      exact gs_lks t fun p hp => h p (by simp [hp])
theorem gm_lks : ∀ {mb : List (Nat × Bk)} (t : Nat) (bk : Bk), (∀ p ∈ mb, gm σ.m p.1 = some p.2) -> gm mb t = some bk -> gm σ.m t = some bk
  | [], t, bk, _, h => by simp [gm] at h
  | (t', x) :: r, t, bk, h, hg => by
    simp only [gm] at hg
    by_cases ht : t = t'
    · rw [if_pos ht] at hg
      injection hg with hg
      have := h (t', x) (by simp)
      rw [ht, this, hg]
    · rw [if_neg ht] at hg
      exact gm_lks t bk (fun p hp => h p (by simp [hp])) hg
end
section
variable {e : Env} {mask : Nat} {Q : PX -> St -> Prop} {ds : List (Option Nat)}
theorem runs0_mono {os : List Oper} {σ : St} {K K' : St -> Prop} (h : Runs e ds 0 os σ K) (hk : ∀ σ', K σ' -> K' σ') : Runs e ds 0 os σ K' := by
  simp only [Runs] at h ⊢
  exact fun he U w0 S0 nt a w ops Q hds hd hQ hs => h he U w0 S0 nt a w ops Q hds hd (fun a w σ' k1 k2 => hQ a w σ' (hk σ' k1) k2) hs
def backB (l : List Oper) : Bool := (List.range l.length).all fun i => match l[i]? with
  | none => true
  | some o => o.guard.isNone && o.after.toList.all fun e => !Region.binds .any e || decide (e.on < i)
def depsOf (o : Oper) : List Nat := (o.after.toList.filter fun e => Region.binds .any e).map (·.on)
def depsAt (L : List Oper) (j : Nat) : List Nat := match L[j]? with
  | some o => depsOf o
  | none => []
def StepsG (e : Env) (ds : List (Option Nat)) (L : List Oper) (B : St -> Prop) (P : Nat -> St -> Prop) : Nat -> List Oper -> Prop
  | _, [] => True
  | i, o :: os => (∀ s m, B ⟨s, m⟩ -> (∀ j ∈ depsOf o, P j ⟨s, m⟩) -> Runs e ds 0 [o] ⟨s, m⟩ (fun σ' => B σ' ∧ P i σ' ∧ ∀ j, j ≠ i -> i ∉ depsAt L j -> P j ⟨s, m⟩ -> P j σ')) ∧ StepsG e ds L B P (i + 1) os
theorem StepsG.get {L : List Oper} {B : St -> Prop} {P : Nat -> St -> Prop} : ∀ {l : List Oper} {k i : Nat} {o : Oper}, StepsG e ds L B P k l -> l[i]? = some o -> ∀ s m, B ⟨s, m⟩ -> (∀ j ∈ depsOf o, P j ⟨s, m⟩) -> Runs e ds 0 [o] ⟨s, m⟩ (fun σ' => B σ' ∧ P (k + i) σ' ∧ ∀ j, j ≠ k + i -> k + i ∉ depsAt L j -> P j ⟨s, m⟩ -> P j σ')
  | [], k, i, o, _, h => by simp at h
  | x :: l, k, 0, o, h, ho => by
    simp only [List.getElem?_cons_zero, Option.some.injEq] at ho
    subst ho
    exact h.1
  | x :: l, k, i + 1, o, h, ho => by
    have := StepsG.get (l := l) (k := k + 1) (i := i) (o := o) h.2 (by simpa using ho)
    rw [show k + 1 + i = k + (i + 1) by omega] at this
    exact this
theorem runsT_good {l : List Oper} {K B : St -> Prop} {P : Nat -> St -> Prop} (hb : backB l = true) (hstep : StepsG e ds l B P 0 l) (hK : ∀ s m, B ⟨s, m⟩ -> (∀ i, i < l.length -> P i ⟨s, m⟩) -> K ⟨s, m⟩) :
    ∀ (f : Nat) (listed : Array Bool) (σ : St), listed.size = l.length -> (List.range l.length).countP (fun i => !listed.getD i true) = f -> B σ -> (∀ j, listed.getD j false = true -> P j σ ∧ ∀ q ∈ depsAt l j, listed.getD q false = true) -> RunsT e ds l.toArray K f listed σ := by
  have hback : ∀ i o, l[i]? = some o -> o.guard = none ∧ ∀ e ∈ o.after, Region.binds .any e = true -> e.on < i := fun i o ho => by
    have h1 := List.all_eq_true.1 hb i (List.mem_range.2 (List.getElem?_eq_some_iff.1 ho).1)
    rw [ho] at h1
    simp only [Bool.and_eq_true, Option.isNone_iff_eq_none, List.all_eq_true, Bool.or_eq_true, Bool.not_eq_true', decide_eq_true_eq] at h1
    refine ⟨h1.1, fun e he hbe => ?_⟩
    rcases h1.2 e (Array.mem_toList_iff.2 he) with h2 | h2
    · rw [hbe] at h2; cases h2
    · exact h2
  have hfirst : ∀ (listed : Array Bool), listed.size = l.length -> Region.ready .any l.toArray listed = [] -> ∀ i, i < l.length -> listed.getD i false = true := fun listed hsz h0 i => by
    induction i using Nat.strongRecOn with
    | _ i ih =>
      intro hi
      rw [<- getD_ftt (by omega : i < listed.size)]
      cases hun : listed.getD i true with
      | true => rfl
      | false =>
      obtain ⟨o, ho⟩ : ∃ o, l[i]? = some o := ⟨_, List.getElem?_eq_getElem hi⟩
      have := (mem_ready (ops := l.toArray) (md := .any)).2 ⟨hun, o, by simpa using ho, fun e he hbe => ih e.on ((hback i o ho).2 e he hbe) (by have := (hback i o ho).2 e he hbe; omega)⟩
      rw [h0] at this
      cases this
  intro f
  induction f with
  | zero =>
    intro listed σ hsz hc hB hP
    have hall : ∀ i, i < l.length -> listed.getD i true = true := fun i hi => by
      have := List.countP_eq_zero.1 hc i (List.mem_range.2 hi)
      simpa using this
    refine ⟨?_, hK σ.s σ.m hB fun i hi => (hP i (by rw [<- getD_ftt (by omega)]; exact hall i hi)).1⟩
    cases hr : Region.ready .any l.toArray listed with
    | nil => rfl
    | cons i r =>
      have hi : i ∈ Region.ready .any l.toArray listed := by rw [hr]; simp
      obtain ⟨hun, oi, hoi, _⟩ := mem_ready.1 hi
      have hil : i < l.length := by
        have := (Array.getElem?_eq_some_iff.1 hoi).1
        simpa using this
      rw [hall i hil] at hun
      cases hun
  | succ f ih =>
    intro listed σ hsz hc hB hP
    refine ⟨fun h0 => hK σ.s σ.m hB fun i hi => (hP i (hfirst listed hsz h0 i hi)).1, fun i hi => ?_⟩
    obtain ⟨hun, o, hoi, hall⟩ := mem_ready.1 hi
    have ho : l[i]? = some o := by simpa using hoi
    have hil : i < l.length := (List.getElem?_eq_some_iff.1 ho).1
    have hls : i < listed.size := by omega
    refine ⟨o, hoi, (hback i o ho).1, stepOk_of_runs (hback i o ho).1 ?_⟩
    have h1 := StepsG.get hstep ho σ.s σ.m hB fun j hj => by
      simp only [depsOf, List.mem_map, List.mem_filter] at hj
      obtain ⟨e, ⟨he, hbe⟩, rfl⟩ := hj
      exact (hP e.on (hall e (Array.mem_toList_iff.1 he) hbe)).1
    rw [Nat.zero_add] at h1
    refine runs0_mono h1 fun σ' ⟨k1, k2, k3⟩ => ih _ σ' (by simpa using hsz) ?_ k1 fun j hj => ?_
    · have h1 : (List.range l.length).countP (fun j => !(listed.setIfInBounds i true).getD j true) + 1 = (List.range l.length).countP (fun j => !listed.getD j true) := by
        have hperm := List.perm_cons_erase (List.mem_range.2 hil)
        rw [hperm.countP_eq, hperm.countP_eq, List.countP_cons, List.countP_cons]
        have hcong : ((List.range l.length).erase i).countP (fun j => !(listed.setIfInBounds i true).getD j true) = ((List.range l.length).erase i).countP (fun j => !listed.getD j true) := by
          refine List.countP_congr fun j hj => ?_
          have hne : j ≠ i := fun e => by
            subst e
            exact List.Nodup.not_mem_erase (List.nodup_range) hj
          rw [getD_set_ne true (Ne.symm hne)]
        rw [hcong, hun]
        simp [hls]
      omega
    · by_cases hji : j = i
      · subst hji
        refine ⟨k2, fun q hq => ?_⟩
        have hda : depsAt l j = depsOf o := by unfold depsAt; rw [ho]
        rw [hda] at hq
        simp only [depsOf, List.mem_map, List.mem_filter] at hq
        obtain ⟨e, ⟨he, hbe⟩, rfl⟩ := hq
        have hlt := (hback j o ho).2 e (Array.mem_toList_iff.1 he) hbe
        rw [getD_set_ne false (by omega)]
        exact hall e (Array.mem_toList_iff.1 he) hbe
      · rw [getD_set_ne false (Ne.symm hji)] at hj
        obtain ⟨p1, p2⟩ := hP j hj
        have hni : i ∉ depsAt l j := fun hm => by
          have h2 := p2 i hm
          rw [<- getD_ftt hls, hun] at h2
          cases h2
        refine ⟨k3 j hji hni p1, fun q hq => ?_⟩
        by_cases hqi : q = i
        · subst hqi; exact absurd hq hni
        · rw [getD_set_ne false (Ne.symm hqi)]; exact p2 q hq
theorem gGd {id : Nat} {l : List Oper} {s : List (Nat × A)} {m : List (Nat × Bk)} (B : St -> Prop) (P : Nat -> St -> Prop) (hB : B ⟨s, m⟩) (hS : StepsG e (l.map (·.dst)) l B P 0 l) (hK : ∀ s' m', B ⟨s', m'⟩ -> (∀ i, i < l.length -> P i ⟨s', m'⟩) -> ∃ sf mf, Lks sf mf ⟨s', m'⟩ ∧ Q .normal ⟨sf, mf⟩)
    (hb : backB l = true := by decide +kernel) (hT : regT l.toArray 0 = true := by decide +kernel) : pwp e mask (.region id l.toArray true) ⟨s, m⟩ Q := fun he U w0 S0 nt a w hok hs => by
  refine region_T he hT (K := fun σ' => ∃ sf mf, Lks sf mf σ' ∧ Q .normal ⟨sf, mf⟩) (fun a w σ' ⟨sf, mf, h1, h2⟩ h3 => ⟨⟨sf, mf⟩, h2, h3.weak (fun t => gs_lks t h1.1) (fun t bk => gm_lks t bk h1.2)⟩) (okDst hok) hs ?_
  simp only [List.take_zero, Runs]
  have := runsT_good (K := fun σ' => ∃ sf mf, Lks sf mf σ' ∧ Q .normal ⟨sf, mf⟩) hb hS hK l.length (headArr l.length 0) ⟨s, m⟩ (by simp [headArr]) (by
    rw [List.countP_eq_length.2]
    · simp
    · intro i hi
      have hi' := List.mem_range.1 hi
      simp [headArr, hi']) hB (fun j hj => by
      have h0 : (headArr l.length 0).getD j false = false := by
        by_cases hjl : j < l.length
        · simp [headArr, hjl]
        · simp [headArr, hjl]
      rw [h0] at hj
      cases hj)
  simpa using this
def PG {X : Type} (S : X -> Nat -> List (Nat × A)) (M : X -> Nat -> List (Nat × Bk)) (i : Nat) (σ : St) : Prop := ∃ x, Lks (S x i) (M x i) σ
section
variable {X : Type} {S : X -> Nat -> List (Nat × A)} {M : X -> Nat -> List (Nat × Bk)} {d i : Nat} {L : List Oper} {s : List (Nat × A)} {m : List (Nat × Bk)} {α : A} {bk : Bk}
theorem PG.slot (hf : ∀ j, j ≠ i -> i ∉ depsAt L j -> ∀ x, (S x j).all (fun p => p.1 != d) = true) : ∀ j, j ≠ i -> i ∉ depsAt L j -> PG S M j ⟨s, m⟩ -> PG S M j ⟨(d, α) :: s, m⟩ := fun j h1 h2 ⟨x, h⟩ => ⟨x, h.slot (hf j h1 h2 x)⟩
theorem PG.born (hf : ∀ j, j ≠ i -> i ∉ depsAt L j -> ∀ x, freeB d (S x j) (M x j) = true) : ∀ j, j ≠ i -> i ∉ depsAt L j -> PG S M j ⟨s, m⟩ -> PG S M j ⟨(d, α) :: killK d s, (d, bk) :: remM d m⟩ := fun j h1 h2 ⟨x, h⟩ => ⟨x, h.born (hf j h1 h2 x)⟩
theorem PG.pin (hf : ∀ j, j ≠ i -> i ∉ depsAt L j -> ∀ x, freeB d (S x j) (M x j) = true) {a : Option Addr} {n cap : Nat} : ∀ j, j ≠ i -> i ∉ depsAt L j -> PG S M j ⟨s, m⟩ -> PG S M j ⟨(d, α) :: mapS (litB d a n cap) (killK d s), (d, bk) :: remM d (remM d m)⟩ := fun j h1 h2 ⟨x, h⟩ => ⟨x, h.pin (hf j h1 h2 x)⟩
end
end
theorem turn_apart {e : Env} {σ : St} {k k' ety ety' sz sz' cap cap' : Nat} {ad ad' : Option Addr} {rows rows' : List (List C)} (hne : k ≠ k') (h : gm σ.m k = some (.buf (some (ad, cap)) ety sz rows)) (h' : gm σ.m k' = some (.buf (some (ad', cap')) ety' sz' rows')) (hr : 0 < rows.length) (hr' : 0 < rows'.length) : Turn e σ (fun σ' => σ' = σ ∧ ad ≠ ad') := fun he U w0 S0 nt act w hs => by
  refine ⟨σ, ⟨rfl, fun e => ?_⟩, hs⟩
  obtain ⟨S, L, h1⟩ := hs
  have key : ∀ {k ety sz cap : Nat} {ad : Option Addr} {rows : List (List C)}, gm σ.m k = some (.buf (some (ad, cap)) ety sz rows) -> 0 < rows.length -> ∃ g, vblk (L.v k) = some g ∧ ad = some ⟨g, 0, none⟩ := fun {k ety sz cap ad rows} h hr => by
    obtain ⟨o1, o2⟩ := h1.cls.own k _ h
    have o1 := o1 _ rfl
    rcases o2.2.2 with ⟨h3, _⟩ | ⟨g, cap2, cur, hv, hc, _⟩
    · rw [h3] at hr; simp at hr
    · refine ⟨g, by rw [hv]; simp [vblk]; omega, ?_⟩
      rw [o1] at hv
      injection hv with hv _ _
  obtain ⟨g, v1, e1⟩ := key h hr
  obtain ⟨g', v2, e2⟩ := key h' hr'
  rw [e1, e2] at e
  injection e with e
  injection e with e _ _
  rw [<- e] at v2
  exact hne (h1.cls.inj k k' _ _ g h h' v1 v2)
theorem pA {e : Env} {mask : Nat} {Q : PX -> St -> Prop} {c : Code} {s : List (Nat × A)} {m : List (Nat × Bk)} {ety ety' sz sz' cap cap' : Nat} {ad ad' : Option Addr} {rows rows' : List (List C)} (k k' : Nat) (hK : ad ≠ ad' -> pwp e mask c ⟨s, m⟩ Q) (hr : 0 < rows.length) (hr' : 0 < rows'.length) (hne : k ≠ k' := by decide) (h : gm m k = some (.buf (some (ad, cap)) ety sz rows) := by simp only [pz, ↓reduceIte, Nat.reduceEqDiff, Nat.reduceAdd, Nat.reduceSub, Nat.reduceMul, Nat.reduceLeDiff, Nat.reduceBEq, Bool.false_eq_true, decide_true, decide_false, Int.reduceLE, Int.reduceToNat, Int.reduceLT, Int.reduceEq, eq_self, Nat.reduceShiftRight, Nat.reduceAnd, Nat.reduceBneDiff]; exact rfl) (h' : gm m k' = some (.buf (some (ad', cap')) ety' sz' rows') := by simp only [pz, ↓reduceIte, Nat.reduceEqDiff, Nat.reduceAdd, Nat.reduceSub, Nat.reduceMul, Nat.reduceLeDiff, Nat.reduceBEq, Bool.false_eq_true, decide_true, decide_false, Int.reduceLE, Int.reduceToNat, Int.reduceLT, Int.reduceEq, eq_self, Nat.reduceShiftRight, Nat.reduceAnd, Nat.reduceBneDiff]; exact rfl) : pwp e mask c ⟨s, m⟩ Q :=
  pwp_turn (turn_apart hne h h' hr hr') fun σ' ⟨hσ, ha⟩ => by subst hσ; exact hK ha
end Go.Proofs.YtkekkmpogmlopaaGreat
namespace Go.Proofs.YtkekkmpogmlopaaGreat
open Go.RowKit
def ordS (s : Srt) (f : (Nat -> Option Addr × Nat) × C × C × C) : Nat -> List (Nat × A)
  | 0 => [(20, .d (.agg (encSrt s)))]
  | 1 => [(21, .d (.one (.sl (nR (up s)))))]
  | 2 => [(22, .d (.one (.lit (.int .i64 s.names.length))))]
  | 3 => [(23, .d (.one (.lit (.slice (f.1 23).1 s.names.length (f.1 23).2))))]
  | 4 => [(24, .d (.one (.lit (.int .i64 s.names.length))))]
  | 5 => [(25, .d (.one (.lit (.slice (f.1 25).1 s.names.length (f.1 25).2))))]
  | 6 => [(26, .d (.agg [.sl (nR (up s)), .lit (.slice (f.1 23).1 s.names.length (f.1 23).2), .lit (.slice (f.1 25).1 s.names.length (f.1 25).2)]))]
  | 7 => [(5, .ref 5 0)]
  | 8 => [(5, .ref 5 0)]
  | _ => []
def ordM (s : Srt) (f : (Nat -> Option Addr × Nat) × C × C × C) : Nat -> List (Nat × Bk)
  | 3 => [(23, .buf (some (f.1 23)) 3 1 (nR (List.replicate s.names.length 0)))]
  | 5 => [(25, .buf (some (f.1 25)) 3 1 (nR (List.replicate s.names.length 0)))]
  | 6 => [(23, .buf (some (f.1 23)) 3 1 (nR (List.replicate s.names.length 0))), (25, .buf (some (f.1 25)) 3 1 (nR (List.replicate s.names.length 0)))]
  | 7 => [(5, .var none [f.2.1, f.2.2.1, f.2.2.2])]
  | 8 => [(5, .var none [.sl (nR (up s)), .lit (.slice (f.1 23).1 s.names.length (f.1 23).2), .lit (.slice (f.1 25).1 s.names.length (f.1 25).2)]), (23, .buf (some (f.1 23)) 3 1 (nR (List.replicate s.names.length 0))), (25, .buf (some (f.1 25)) 3 1 (nR (List.replicate s.names.length 0)))]
  | _ => []
theorem ord_0 : (∀ (u l : List Nat), downs u 0 l = l) ∧ ∀ n, kFill n 0 = List.replicate n 0 := ⟨fun _ _ => rfl, fun n => by simp [kFill]⟩
theorem ordI_0 (i : Nat) (l : List Nat) : downIn i l [] = l := rfl
theorem ordI_step {ks : List Nat} {j k : Nat} (h : ks[j]? = some k) (i : Nat) (l : List Nat) : downIn i l (ks.take (j + 1)) = (downIn i l (ks.take j)).set k ((downIn i l (ks.take j)).getD k 0 ||| 2 ^ i) := foldl_take h l
def ordB1 (s : Srt) : List (Nat × A) := [(1, .ref 1 0), (2, .ref 2 0), (3, .d (.one (.lit (.bool false)))), (4, .d (.one (.lit (.int .i64 s.names.length))))]
def ordB2 (s : Srt) : List (Nat × Bk) := [(1, .var none (encSrt s)), (2, .var none [.sl [], .sl [], .sl []])]
def ordB (s : Srt) (σ : St) : Prop := Lks (ordB1 s) (ordB2 s) σ
section
variable {s : Srt}
set_option maxHeartbeats 4000000 in
set_option maxRecDepth 100000 in
theorem con_newOrder_not (hok : okSrt s) (hs : ¬ SortsOk s) : Con e0 86 [.agg (encSrt s)] [.agg [.sl [], .sl [], .sl []], .one (.lit (.bool false))] := by
  have cI := con_implSorts hok
  rw [isSorts_false hs, encSrt] at cI
  rw [encSrt]
  refine gI (ts := [.cell 2 137, .slot 3]) 569543224310601128703 Tryz.func86 ?_
  (have F := @e0P; refine gG ?_; clear F)
  refine gB ?_
  (have F := @e0P; refine gC (cI) ?_; clear F)
  (have F := @e0P; refine gR ?_; clear F)
  (have F := @e0P; refine gG ?_; exact gTd)
set_option maxHeartbeats 8000000 in
set_option maxRecDepth 100000 in
theorem con_newOrder (hok : okSrt s) (hs : SortsOk s) : Con e0 86 [.agg (encSrt s)] [.agg (encOrd s), .one (.lit (.bool true))] := by
  have cI := con_implSorts hok
  have hSI := SortsOk.subsIn hs.subs
  have cA := con_implAbove hs.n1 hs.n8 hs.m16 hSI
  rw [isSorts_true hs] at cI
  rw [encSrt] at cI ⊢
  refine gI (ts := [.cell 2 137, .slot 3]) 569543224310601128703 Tryz.func86 ?_
  (have F := @e0P; refine gG ?_; clear F)
  refine gB ?_
  (have F := @e0P; refine gC (cI) ?_; clear F)
  (have F := @e0P; refine gR ?_; clear F)
  (have F := @e0P; have NN : StopAt 4 := trivial; refine gGn ?_; clear F NN)
  have hmx : ((s.names.length : Int) <= (maxApp : Int)) = True := eq_true (by have := hs.n8; unfold maxApp; omega)
  refine gGd (ordB s) (PG (ordS s) (ordM s)) ⟨by simp [ordB1, gs], by simp [ordB2, gm, encSrt]⟩ ⟨?_, ?_, ?_, ?_, ?_, ?_, ?_, ?_, ?_, trivial⟩ ?_
  rotate_right
  all_goals (intro s' m' hB)
  all_goals (have g1 : gs s' 1 = .ref 1 0 := hB.1 (1, .ref 1 0) (by simp [ordB1]))
  all_goals (have g4 : gs s' 4 = .d (.one (.lit (.int .i64 s.names.length))) := hB.1 (4, _) (by simp [ordB1]))
  all_goals (have k1 : gm m' 1 = some (.var none [.sl (s.names.map encStr), .sl (s.subs.map encSub)]) := hB.2 (1, _) (by simp [ordB2, encSrt]))
  · intro hP
    clear g1 g4 k1
    obtain ⟨f, h⟩ := hP 8 (by decide)
    refine ⟨_, _, h.app hB, ?_⟩
    generalize hp : f.1 23 = p
    generalize hq : f.1 25 = q
    obtain ⟨a3, c3⟩ := p
    obtain ⟨a5, c5⟩ := q
    simp only [ordS, ordM, ordB1, ordB2, List.cons_append, List.nil_append, encSrt, hp, hq]
    clear hp hq h hB hP s' m' f
    refine ⟨_, Wk.refl _, ?_⟩
    have hU := up_ok hSI
    have lU := nR_len (l := up s)
    rw [hU.1] at lU
    have h8 := hs.n8
    have rU := nR_rows (l := up s)
    (have F := @e0P; have NN : StopAt 5 := trivial; refine gGn ?_; clear F NN)
    have hn1 := hs.n1
    have l00 : 0 < (nR (List.replicate s.names.length 0)).length := by rw [nR_len, List.length_replicate]; omega
    refine pA 23 25 (fun hne => ?_) l00 l00
    have hn5 : ∀ p, (a5 = a3 ∧ p) = False := fun p => eq_false fun e => hne e.1.symm
    (have F := @lU; refine gG ?_; clear F)
    (have F := @ord_0; refine gL (ι := Nat) [6, 7, 9, 30, 31, 36, 37, 38, 39] [23, 25] (fun i => [(30, A.d (.one (.lit (.int .i64 i))))]) (fun i => [(23, .buf (some (a3, c3)) 3 1 (nR (downs (up s) i (List.replicate s.names.length 0)))), (25, .buf (some (a5, c5)) 3 1 (nR (kFill s.names.length i)))]) (fun i => i <= s.names.length) (fun i => s.names.length - i) (0) (Nat.zero_le _) (fun i hi => ?_); clear F)
    have hDi := UpOk.downs hU i (l := List.replicate s.names.length 0) hi (UpOk.zeros _)
    have lK := nR_len (l := kFill s.names.length i)
    rw [kFill_len hi] at lK
    by_cases hlt : i < s.names.length
    · have q1 : (i : Int) < (s.names.length : Int) := by omega
      have hw := wrap1 (k := i) (by omega)
      obtain ⟨gi, bi⟩ := hU.get hlt
      have r1 := nR_get gi
      have p256 : 2 ^ s.names.length <= 256 := Nat.le_trans (Nat.pow_le_pow_right (by omega) h8) (by decide)
      have cL := con_listOf (a := (up s).getD i 0) (by omega)
      have hdn : downs (up s) (i + 1) (List.replicate s.names.length 0) = downIn i (downs (up s) i (List.replicate s.names.length 0)) (listOf ((up s).getD i 0)) := rfl
      have hks := listOf_lt bi
      have lks := nR_len (l := listOf ((up s).getD i 0))
      have rks := nR_rows (l := listOf ((up s).getD i 0))
      have hks16 : (listOf ((up s).getD i 0)).length <= 64 := Nat.le_trans (bitsTo_len _ _) (by decide)
      have hsh := shl_k (k := i) (by omega)
      (have F := ai @q1 (ai @lU (ai @r1 @rU)); refine gG ?_; clear F)
      refine gB ?_
      (have F := @e0P; refine gC (cL) ?_; clear F)
      (have F := @lks; refine gR ?_; clear F)
      generalize listOf ((up s).getD i 0) = ks at hdn hks lks rks hks16 ⊢
      generalize downs (up s) i (List.replicate s.names.length 0) = l at hdn hDi ⊢
      (have F := @lks; refine gG ?_; clear F)
      (have F := @ordI_0; refine gL (ι := Nat) [9, 38, 39] [23] (fun j => [(38, A.d (.one (.lit (.int .i64 j))))]) (fun j => [(23, .buf (some (a3, c3)) 3 1 (nR (downIn i l (ks.take j))))]) (fun j => j <= ks.length) (fun j => ks.length - j) (0) (Nat.zero_le _) (fun j hj => ?_); clear F)
      by_cases hlj : j < ks.length
      · have q2 : (j : Int) < (ks.length : Int) := by omega
        have hwj := wrap1 (k := j) (by omega)
        obtain ⟨k, hk⟩ : ∃ k, ks[j]? = some k := ⟨_, List.getElem?_eq_getElem hlj⟩
        have hkn := hks k (List.mem_of_getElem? hk)
        have r2 := nR_get hk
        have hst := ordI_step hk i l
        have hV := UpOk.downIn hlt hDi (ks := ks.take j) fun q hq => hks q (List.mem_of_mem_take hq)
        generalize downIn i l (ks.take j) = v at hst hV ⊢
        obtain ⟨gk, bk⟩ := hV.get hkn
        have r3 := nR_get gk
        have l3 := nR_len (l := v)
        rw [hV.1] at l3
        have l4 := nR_rows (l := v)
        have l5 := nR_set (l := v) k (v.getD k 0 ||| 2 ^ i)
        have p2 : 2 ^ i < 4611686018427387904 := pow_lt62 (by omega)
        have hor := bits_or (a := v.getD k 0) (b := 2 ^ i) (by omega) p2
        (have F := ai @q2 (ai @r2 (ai @rks (ai @lks (ai @r3 (ai @l3 (ai @l4 (ai @l5 (ai @hsh (ai @hor (ai @hkn (ai @natInt (ai @hwj @hst)))))))))))); refine gG ?_; exact ⟨j + 1, hlj, gw, gw, by omega⟩)
      obtain rfl : j = ks.length := by omega
      have q2 : ¬ ((ks.length : Int) < (ks.length : Int)) := by omega
      rw [List.take_length, <- hdn]
      have l6 := nR_rows (l := kFill s.names.length i)
      have l7 := nR_set (l := kFill s.names.length i) i i
      rw [kFill_set hlt] at l7
      obtain ⟨y, gy⟩ : ∃ y, (kFill s.names.length i)[i]? = some y := ⟨_, List.getElem?_eq_getElem (by rw [kFill_len hi]; exact hlt)⟩
      have r5 := nR_get gy
      (have F := ai @q2 (ai @hn5 (ai @lK (ai @l6 (ai @l7 (ai @r5 (ai @hlt (ai @hw @natInt))))))); refine gG ?_; exact ⟨i + 1, hlt, gw, gw, by omega⟩)
    obtain rfl : i = s.names.length := by omega
    have q1 : ¬ ((s.names.length : Int) < (s.names.length : Int)) := by omega
    rw [kFill_end, show downs (up s) s.names.length (List.replicate s.names.length 0) = down s from rfl]
    clear hDi lK
    have hK := KOk.start s.names.length
    (have F := @q1; refine gG ?_; clear F)
    (have F := @kIter_0; refine gL (ι := Nat) [11, 12, 62, 63, 65, 66, 67, 68] [25] (fun j => [(62, A.d (.one (.lit (.int .i64 j))))]) (fun j => [(25, .buf (some (a5, c5)) 3 1 (nR (kIter s.subs j (List.range s.names.length))))]) (fun j => j <= s.names.length) (fun j => s.names.length - j) (0) (Nat.zero_le _) (fun j hj => ?_); clear F)
    have hKj := KOk.iter hSI j hK
    have l0 := nR_len (l := kIter s.subs j (List.range s.names.length))
    rw [hKj.1] at l0
    by_cases hlj : j < s.names.length
    rotate_left
    · obtain rfl : j = s.names.length := by omega
      have q2 : ¬ ((s.names.length : Int) < (s.names.length : Int)) := by omega
      rw [show kIter s.subs s.names.length (List.range s.names.length) = kinds s from rfl]
      (have F := @q2; have NN : StopAt 25 := trivial; refine gGn ?_; clear F NN)
      have lD := nR_len (l := down s)
      rw [(down_ok hSI).1] at lD
      have lK := nR_len (l := kinds s)
      rw [(kinds_ok hSI).1] at lK
      refine pD 23 [] [5] ?_ (hr := by simp only [pz, ↓reduceIte, Nat.reduceEqDiff, Nat.reduceAdd, Nat.reduceSub, Nat.reduceMul, Nat.reduceLeDiff, Nat.reduceBEq, Bool.false_eq_true, decide_true, decide_false, Int.reduceLE, Int.reduceToNat, Int.reduceLT, Int.reduceEq, eq_self, Nat.reduceShiftRight, Nat.reduceAnd, Nat.reduceBneDiff, lD, hn5, if_false]; exact rfl)
      refine pD 25 [] [5] ?_ (hr := by simp only [pz, ↓reduceIte, Nat.reduceEqDiff, Nat.reduceAdd, Nat.reduceSub, Nat.reduceMul, Nat.reduceLeDiff, Nat.reduceBEq, Bool.false_eq_true, decide_true, decide_false, Int.reduceLE, Int.reduceToNat, Int.reduceLT, Int.reduceEq, eq_self, Nat.reduceShiftRight, Nat.reduceAnd, Nat.reduceBneDiff, lK, hn5, if_false]; exact rfl)
      (have F := @encOrd_u; refine gG ?_; exact gTd)
    have q2 : (j : Int) < (s.names.length : Int) := by omega
    have hwj := wrap1 (k := j) (by omega)
    have hnx : kIter s.subs (j + 1) (List.range s.names.length) = s.subs.foldl kSub (kIter s.subs j (List.range s.names.length)) := rfl
    generalize kIter s.subs j (List.range s.names.length) = u at hKj hnx l0 ⊢
    (have F := ai @l0 @q2; refine gG ?_; clear F)
    have hm16 := hs.m16
    (have F := @kSub_0; refine gL (ι := Nat) [11, 12, 67, 68] [25] (fun i => [(67, A.d (.one (.lit (.int .i64 i))))]) (fun i => [(25, .buf (some (a5, c5)) 3 1 (nR ((s.subs.take i).foldl kSub u)))]) (fun i => i <= s.subs.length) (fun i => s.subs.length - i) (0) (Nat.zero_le _) (fun i hi => ?_); clear F)
    by_cases hli : i < s.subs.length
    rotate_left
    · obtain rfl : i = s.subs.length := by omega
      have q3 : ¬ ((s.subs.length : Int) < (s.subs.length : Int)) := by omega
      rw [List.take_length, <- hnx]
      (have F := ai @q3 @hwj; refine gG ?_; exact ⟨j + 1, hlj, gw, gw, by omega⟩)
    have q3 : (i : Int) < (s.subs.length : Int) := by omega
    have hwi := wrap1 (k := i) (by omega)
    obtain ⟨p, hp⟩ : ∃ p, s.subs[i]? = some p := ⟨_, List.getElem?_eq_getElem hli⟩
    have hps := hSI p (List.mem_of_getElem? hp)
    have hst := kSub_step hp u
    have hUi := KOk.foldl hKj (hSI.take i)
    generalize (s.subs.take i).foldl kSub u = v at hUi hst ⊢
    obtain ⟨g1, b1⟩ := hUi.get (i := p.1.toNat) (by omega)
    obtain ⟨g2, b2⟩ := hUi.get (i := p.2.toNat) (by omega)
    have l1 := nR_get g1
    have l2 := nR_get g2
    have l3 := nR_len (l := v)
    rw [hUi.1] at l3
    have l4 := nR_rows (l := v)
    have hmin : (if (v.getD p.2.toNat 0 : Int) < (v.getD p.1.toNat 0 : Int) then (v.getD p.2.toNat 0 : Int) else (v.getD p.1.toNat 0 : Int)) = ((min (v.getD p.1.toNat 0) (v.getD p.2.toNat 0) : Nat) : Int) := by
      split <;> omega
    generalize hmn : min (v.getD p.1.toNat 0) (v.getD p.2.toNat 0) = mn at hmin hst
    have l5 := nR_set (l := v) p.1.toNat mn
    have l6 := nR_set (l := v.set p.1.toNat mn) p.2.toNat mn
    have l7 := nR_len (l := v.set p.1.toNat mn)
    rw [List.length_set, hUi.1] at l7
    have l8 := nR_rows (l := v.set p.1.toNat mn)
    obtain ⟨x9, g9⟩ : ∃ x, (v.set p.1.toNat mn)[p.2.toNat]? = some x := ⟨_, List.getElem?_eq_getElem (by rw [List.length_set, hUi.1]; omega)⟩
    have l9 := nR_get g9
    have i1 : 0 <= p.1 := hps.1
    have i2 : 0 <= p.2 := hps.2.2.1
    have i3 : p.1.toNat < s.names.length := by omega
    have i4 : p.2.toNat < s.names.length := by omega
    have hst : (s.subs.take (i + 1)).foldl kSub u = (v.set p.1.toNat mn).set p.2.toNat mn := by rw [hst]; unfold kSub; rw [hmn]
    (have F := ai @q3 (ai @hp (ai @encSub_u (ai @hn5 (ai @l1 (ai @l2 (ai @l3 (ai @l4 (ai @l5 (ai @l6 (ai @l7 (ai @l8 (ai @l9 (ai @i1 (ai @i2 (ai @i3 (ai @i4 (ai @hmin (ai @hwi @hst)))))))))))))))))); refine gG ?_; exact ⟨i + 1, hli, gw, gw, by omega⟩)
  · intro _
    refine (have F := ai g1 k1; gO3 ?_)
    exact ⟨hB.slot rfl, ⟨(fun _ => (none, 0), .sl [], .sl [], .sl []), by simp [ordS, gs, encSrt], by simp [ordM]⟩, PG.slot (by intro j h1 h2 x; rcases j with _ | _ | _ | _ | _ | _ | _ | _ | _ | j <;> first | rfl | exact absurd rfl h1 | exact absurd (by decide) h2)⟩
  · intro hP
    obtain ⟨f, h0, _⟩ := hP 0 (by decide)
    have g20 : gs s' 20 = .d (.agg (encSrt s)) := h0 (_, _) (by simp [ordS])
    refine (have F := g20; gC cA ?_)
    refine runs_nil ?_
    exact ⟨hB.slot rfl, ⟨(fun _ => (none, 0), .sl [], .sl [], .sl []), by simp [ordS, gs], by simp [ordM]⟩, PG.slot (by intro j h1 h2 x; rcases j with _ | _ | _ | _ | _ | _ | _ | _ | _ | j <;> first | rfl | exact absurd rfl h1 | exact absurd (by decide) h2)⟩
  · intro _
    refine (have F := g4; gO3 ?_)
    exact ⟨hB.slot rfl, ⟨(fun _ => (none, 0), .sl [], .sl [], .sl []), by simp [ordS, gs], by simp [ordM]⟩, PG.slot (by intro j h1 h2 x; rcases j with _ | _ | _ | _ | _ | _ | _ | _ | _ | j <;> first | rfl | exact absurd rfl h1 | exact absurd (by decide) h2)⟩
  · intro hP
    obtain ⟨f, h0, _⟩ := hP 2 (by decide)
    have g22 : gs s' 22 = .d (.one (.lit (.int .i64 s.names.length))) := h0 (_, _) (by simp [ordS])
    refine (have F := ai g22 (ai hmx (ai @Int.toNat_natCast @len_rep)); gP 1 ?_)
    refine gS 23 fun a cap => ?_
    refine runs_nil ?_
    exact ⟨hB.pin rfl, ⟨(fun _ => (a, cap), .sl [], .sl [], .sl []), by simp [ordS, gs], by simp [ordM, gm, nR_0]⟩, PG.pin (by intro j h1 h2 x; rcases j with _ | _ | _ | _ | _ | _ | _ | _ | _ | j <;> first | rfl | exact absurd rfl h1 | exact absurd (by decide) h2)⟩
  · intro _
    refine (have F := g4; gO3 ?_)
    exact ⟨hB.slot rfl, ⟨(fun _ => (none, 0), .sl [], .sl [], .sl []), by simp [ordS, gs], by simp [ordM]⟩, PG.slot (by intro j h1 h2 x; rcases j with _ | _ | _ | _ | _ | _ | _ | _ | _ | j <;> first | rfl | exact absurd rfl h1 | exact absurd (by decide) h2)⟩
  · intro hP
    obtain ⟨f, h0, _⟩ := hP 4 (by decide)
    have g24 : gs s' 24 = .d (.one (.lit (.int .i64 s.names.length))) := h0 (_, _) (by simp [ordS])
    refine (have F := ai g24 (ai hmx (ai @Int.toNat_natCast @len_rep)); gP 1 ?_)
    refine gS 25 fun a cap => ?_
    refine runs_nil ?_
    exact ⟨hB.pin rfl, ⟨(fun _ => (a, cap), .sl [], .sl [], .sl []), by simp [ordS, gs], by simp [ordM, gm, nR_0]⟩, PG.pin (by intro j h1 h2 x; rcases j with _ | _ | _ | _ | _ | _ | _ | _ | _ | j <;> first | rfl | exact absurd rfl h1 | exact absurd (by decide) h2)⟩
  · intro hP
    obtain ⟨f1, h1, _⟩ := hP 1 (by decide)
    obtain ⟨f3, h3, h3'⟩ := hP 3 (by decide)
    obtain ⟨f5, h5, h5'⟩ := hP 5 (by decide)
    have g21 : gs s' 21 = .d (.one (.sl (nR (up s)))) := h1 (_, _) (by simp [ordS])
    have g23 : gs s' 23 = .d (.one (.lit (.slice (f3.1 23).1 s.names.length (f3.1 23).2))) := h3 (_, _) (by simp [ordS])
    have g25 : gs s' 25 = .d (.one (.lit (.slice (f5.1 25).1 s.names.length (f5.1 25).2))) := h5 (_, _) (by simp [ordS])
    have k23 := h3' (23, _) (by simp [ordM]; rfl)
    have k25 := h5' (25, _) (by simp [ordM]; rfl)
    refine (have F := ai g21 (ai g23 g25); gO3 ?_)
    exact ⟨hB.slot rfl, ⟨(fun k => if k = 23 then f3.1 23 else f5.1 25, .sl [], .sl [], .sl []), by simp [ordS, gs], by simp [ordM]; exact ⟨k23, k25⟩⟩, PG.slot (by intro j h1 h2 x; rcases j with _ | _ | _ | _ | _ | _ | _ | _ | _ | j <;> first | rfl | exact absurd rfl h1 | exact absurd (by decide) h2)⟩
  · intro _
    refine (have F := g4; gO3 ?_)
    exact ⟨hB.born rfl, ⟨(fun _ => (none, 0), .sl [], .sl [], .sl []), by simp [ordS, gs], by simp [ordM, gm]⟩, PG.born (by intro j h1 h2 x; rcases j with _ | _ | _ | _ | _ | _ | _ | _ | _ | j <;> first | rfl | exact absurd rfl h1 | exact absurd (by decide) h2)⟩
  · intro hP
    obtain ⟨f6, h6, h6'⟩ := hP 6 (by decide)
    obtain ⟨f7, h7, h7'⟩ := hP 7 (by decide)
    have g26 : gs s' 26 = .d (.agg [.sl (nR (up s)), .lit (.slice (f6.1 23).1 s.names.length (f6.1 23).2), .lit (.slice (f6.1 25).1 s.names.length (f6.1 25).2)]) := h6 (_, _) (by simp [ordS])
    have g5 : gs s' 5 = .ref 5 0 := h7 (_, _) (by simp [ordS])
    have k5 : gm m' 5 = some (.var none [f7.2.1, f7.2.2.1, f7.2.2.2]) := h7' (_, _) (by simp [ordM])
    have k23 := h6' (23, _) (by simp [ordM]; rfl)
    have k25 := h6' (25, _) (by simp [ordM]; rfl)
    refine (have F := ai g26 (ai g5 k5); gO3 ?_)
    refine ⟨hB.own rfl, ⟨f6, by simp [ordS, g5], by simp [ordM, gm, gm_remM]; exact ⟨k23, k25⟩⟩, ?_⟩
    intro j q1 q2 ⟨x, q⟩
    rcases j with _ | _ | _ | _ | _ | _ | _ | _ | _ | j
    all_goals first
      | exact ⟨x, q.own rfl⟩
      | exact absurd rfl q1
      | exact ⟨(fun _ => (none, 0), .sl (nR (up s)), .lit (.slice (f6.1 23).1 s.names.length (f6.1 23).2), .lit (.slice (f6.1 25).1 s.names.length (f6.1 25).2)), by simp [ordS, g5], by simp [ordM, gm]⟩
end
section
variable {g : Sgn}
theorem opSeen_step {k : Nat} {o : Opr} (h : g.ops[k]? = some o) : seenL (opNames (g.ops.take k)) ++ [(o.name, .bool true)] = seenL (opNames (g.ops.take (k + 1))) := by
  rw [opNames_snoc h, seenL, seenL, List.map_append]
  rfl
theorem hasStr_mono {l : List Opr} {i k m : Nat} (h : i = k + m) {s : ByteArray} (hs : hasStr (opNames (l.take k)) s = true) : hasStr (opNames (l.take i)) s = true := by
  subst h
  rw [List.take_add, opNames, List.map_append]
  unfold hasStr at hs ⊢
  rw [List.any_append]
  rw [opNames] at hs
  rw [hs, Bool.true_or]
theorem opSeen_0 (l : List Opr) : seenL (opNames (l.take 0)) = [] ∧ seenL (opNames []) = [] := ⟨rfl, rfl⟩
set_option maxHeartbeats 8000000 in
set_option maxRecDepth 100000 in
theorem con_implSgn (hg : okSgn g) : Con e0 85 [.agg (encSgn g)] [.one (.lit (.bool (isSgn g)))] := by
  have hno : ¬ SgnOk g -> isSgn g = false := isSgn_false
  rw [encSgn]
  refine gI 9358620764179268287 Tryz.func85 ?_
  by_cases hs : SortsOk g.sorts
  rotate_left
  · have cO := con_newOrder_not hg.1 hs
    have hf := hno fun h => hs h.sorts
    rw [encSrt] at cO
    (have F := @e0P; refine gG ?_; clear F)
    refine gB ?_
    (have F := @e0P; refine gC (cO) ?_; clear F)
    (have F := @e0P; refine gR ?_; clear F)
    (have F := @hf; refine gG ?_; exact gT)
  have cO := con_newOrder hg.1 hs
  rw [encSrt] at cO
  (have F := @e0P; refine gG ?_; clear F)
  refine gB ?_
  (have F := @e0P; refine gC (cO) ?_; clear F)
  (have F := @encOrd_u; refine gR ?_; clear F)
  by_cases h14 : g.ops.length <= 14
  rotate_left
  · have z1 : ((14 : Int) < (g.ops.length : Int)) = True := eq_true (by omega)
    have hf := hno fun h => h14 h.len
    (have F := ai @z1 @hf; refine gG ?_; exact gT)
  have z1 : ((14 : Int) < (g.ops.length : Int)) = False := eq_false (by omega)
  (have F := @z1; have NN : StopAt 4 := trivial; refine gGn ?_; clear F NN)
  refine gB ?_
  refine gMk fun b => ?_
  (have F := @e0P; refine gR ?_; clear F)
  (have F := @e0P; refine gG ?_; clear F)
  (have F := ((opSeen_0 g.ops)); refine gL (ι := Nat) [2, 7, 28, 29, 47] [24] (fun i => [(28, A.d (.one (.lit (.int .i64 i))))]) (fun i => [(24, mapB b (seenL (opNames (g.ops.take i))))]) (fun i => i <= g.ops.length ∧ (∀ (j : Nat) (o : Opr), j < i -> g.ops[j]? = some o -> isName o.name = true ∧ hasStr (opNames (g.ops.take j)) o.name = false) ∧ (∀ o ∈ g.ops.take i, DeclsOk g.sorts o)) (fun i => g.ops.length - i) (0) (⟨Nat.zero_le _, fun j o h => absurd h (by omega), fun o h => by simp at h⟩) (fun i hi => ?_); clear F)
  obtain ⟨hil, hnm, hdc⟩ := hi
  by_cases hlt : i < g.ops.length
  · have q1 : (i : Int) < (g.ops.length : Int) := by omega
    obtain ⟨o, ho⟩ : ∃ o, g.ops[i]? = some o := ⟨_, List.getElem?_eq_getElem hlt⟩
    have hom := List.mem_of_getElem? ho
    have hw := wrap1 (k := i) (by omega)
    have hfs := findS_seen (opNames (g.ops.take i)) o.name
    have hbad : ¬ (isName o.name = true ∧ hasStr (opNames (g.ops.take i)) o.name = false) -> isSgn g = false := fun h => hno fun hs => h (hs.names i o ho)
    have hbad2 : declsOk g.sorts o = false -> isSgn g = false := fun h => hno fun hs => by rw [declsOk_true (hs.decls o hom)] at h; cases h
    have cN := con_implName (hg.2 o hom).1
    have cD := con_implDecls hs o
    rw [encOpr, encOrd] at cD
    (have F := ai @q1 (ai @ho @encOpr_u); have NN : StopAt 8 := trivial; refine gGn ?_; clear F NN)
    refine gB ?_
    (have F := @e0P; refine gP 3 ?_; clear F)
    cases hh : hasStr (opNames (g.ops.take i)) o.name with
    | true =>
      rw [hh] at hfs hbad
      have hf := hbad fun h => by cases h.2
      refine (have F := e0P; gLk 24 un_mapB un_str zv_bool (v := .bool true) (by rw [hfs]; rfl) ?_)
      (have F := @e0P; refine gR ?_; clear F)
      (have F := @hf; refine gG ?_; exact gT)
    | false =>
    rw [hh] at hfs hbad
    refine (have F := e0P; gLk 24 un_mapB un_str zv_bool (v := .bool false) (by rw [hfs]; rfl) ?_)
    (have F := @e0P; refine gC (cN) ?_; clear F)
    cases hn : isName o.name with
    | false =>
      have hf := hbad fun h => by rw [hn] at h; cases h.1
      (have F := @e0P; refine gR ?_; clear F)
      (have F := @hf; refine gG ?_; exact gT)
    | true =>
    (have F := @encOrd_u; refine gC (cD) ?_; clear F)
    cases hd : declsOk g.sorts o with
    | false =>
      have hf := hbad2 hd
      (have F := @e0P; refine gR ?_; clear F)
      (have F := @hf; refine gG ?_; exact gT)
    | true =>
    have hq : i + 1 <= g.ops.length ∧ (∀ (j : Nat) (o : Opr), j < i + 1 -> g.ops[j]? = some o -> isName o.name = true ∧ hasStr (opNames (g.ops.take j)) o.name = false) ∧ (∀ o ∈ g.ops.take (i + 1), DeclsOk g.sorts o) := ⟨hlt, fun j o' hj ho' => by
      by_cases e : j = i
      · subst e
        rw [ho] at ho'
        injection ho' with ho'
        subst ho'
        exact ⟨hn, hh⟩
      · exact hnm j o' (by omega) ho', fun o' ho' => by
      rw [take_snoc ho] at ho'
      rcases List.mem_append.1 ho' with h | h
      · exact hdc o' h
      · rw [List.mem_singleton.1 h]; exact declsOk_iff.1 hd⟩
    have hsn := opSeen_step ho
    (have F := @e0P; refine gR ?_; clear F)
    (have F := @e0P; have NN : StopAt 10 := trivial; refine gGn ?_; clear F NN)
    refine gB ?_
    (have F := @e0P; refine gP 3 ?_; clear F)
    refine (have F := e0P; gUp 24 un_mapB un_str (by rw [hfs]; rfl) ?_)
    rw [hsn]
    (have F := @e0P; refine gR ?_; clear F)
    (have F := @hw; refine gG ?_; exact ⟨i + 1, hq, gw, gw, by omega⟩)
  obtain rfl : i = g.ops.length := by omega
  have q1 : ¬ ((g.ops.length : Int) < (g.ops.length : Int)) := by omega
  rw [List.take_length] at hdc
  have hnames : ∀ (i : Nat) (o : Opr), g.ops[i]? = some o -> isName o.name = true ∧ hasStr (opNames (g.ops.take i)) o.name = false := fun i o ho => hnm i o (List.getElem?_eq_some_iff.1 ho).1 ho
  (have F := @q1; refine gG ?_; clear F)
  (have F := @e0P; refine gL (ι := Nat) [2, 9, 55, 56, 63] [] (fun k => [(55, A.d (.one (.lit (.int .i64 k))))]) (fun k => []) (fun k => k <= g.ops.length ∧ ∀ o ∈ g.ops.take k, AxOk g o) (fun k => g.ops.length - k) (0) (⟨Nat.zero_le _, fun o h => by simp at h⟩) (fun k hk => ?_); clear F)
  obtain ⟨hkl, hax⟩ := hk
  by_cases hlk : k < g.ops.length
  rotate_left
  · obtain rfl : k = g.ops.length := by omega
    rw [List.take_length] at hax
    have q2 : ¬ ((g.ops.length : Int) < (g.ops.length : Int)) := by omega
    have ht := isSgn_true ⟨hs, h14, hnames, hdc, hax⟩
    (have F := ai @q2 @ht; refine gG ?_; exact gT)
  have q2 : (k : Int) < (g.ops.length : Int) := by omega
  obtain ⟨o, ho⟩ : ∃ o, g.ops[k]? = some o := ⟨_, List.getElem?_eq_getElem hlk⟩
  have hom := List.mem_of_getElem? ho
  have hw := wrap1 (k := k) (by omega)
  have cA := con_implAxioms hs hdc hom h14
  rw [encOpr, encOrd, encSgn] at cA
  (have F := ai @q2 (ai @ho @encOpr_u); refine gG ?_; clear F)
  refine gB ?_
  (have F := @encOrd_u; refine gC (cA) ?_; clear F)
  cases ha : axOk g o with
  | false =>
    have hf := hno fun h => by rw [axOk_true (h.axs o hom)] at ha; cases ha
    (have F := @e0P; refine gR ?_; clear F)
    (have F := @hf; refine gG ?_; exact gT)
  | true =>
  have hq : k + 1 <= g.ops.length ∧ ∀ o ∈ g.ops.take (k + 1), AxOk g o := ⟨hlk, fun o' ho' => by
    rw [take_snoc ho] at ho'
    rcases List.mem_append.1 ho' with h | h
    · exact hax o' h
    · rw [List.mem_singleton.1 h]; exact axOk_iff.1 ha⟩
  (have F := @e0P; refine gR ?_; clear F)
  (have F := @hw; refine gG ?_; exact ⟨k + 1, hq, gw, gw, by omega⟩)
set_option maxHeartbeats 8000000 in
set_option maxRecDepth 100000 in
theorem con_specSgn (hg : okSgn g) : Con e0 76 [.agg (encSgn g)] [.one (.lit (.bool (isSgn g)))] := by
  have hno : ¬ SgnOk g -> isSgn g = false := isSgn_false
  have cS := con_specSorts hg.1
  rw [encSrt] at cS
  rw [encSgn]
  refine gI 599807422667317870655 Tryz.func76 ?_
  (have F := @e0P; refine gG ?_; clear F)
  refine gB ?_
  (have F := @e0P; refine gC (cS) ?_; clear F)
  cases hss : isSorts g.sorts with
  | false =>
    have hf := hno fun h => by rw [isSorts_true h.sorts] at hss; cases hss
    (have F := @e0P; refine gR ?_; clear F)
    (have F := @hf; refine gG ?_; exact gT)
  | true =>
  have hs := isSorts_iff.1 hss
  by_cases h14 : g.ops.length <= 14
  rotate_left
  · have z1 : ((14 : Int) < (g.ops.length : Int)) = True := eq_true (by omega)
    have hf := hno fun h => h14 h.len
    (have F := @z1; refine gR ?_; clear F)
    (have F := @hf; refine gG ?_; exact gT)
  have z1 : ((14 : Int) < (g.ops.length : Int)) = False := eq_false (by omega)
  (have F := @z1; refine gR ?_; clear F)
  (have F := @e0P; refine gG ?_; clear F)
  (have F := @e0P; refine gL (ι := Nat) [2, 3, 4, 20, 40, 43, 58] [] (fun i => [(3, A.d (.one (.lit (.int .i64 i))))]) (fun i => []) (fun i => i <= g.ops.length ∧ (∀ (j : Nat) (o : Opr), j < i -> g.ops[j]? = some o -> isName o.name = true ∧ hasStr (opNames (g.ops.take j)) o.name = false) ∧ (∀ o ∈ g.ops.take i, DeclsOk g.sorts o)) (fun i => g.ops.length - i) (0) (⟨Nat.zero_le _, fun j o h => absurd h (by omega), fun o h => by simp at h⟩) (fun i hi => ?_); clear F)
  obtain ⟨hil, hnm, hdc⟩ := hi
  by_cases hlt : i < g.ops.length
  · have q1 : (i : Int) < (g.ops.length : Int) := by omega
    obtain ⟨o, ho⟩ : ∃ o, g.ops[i]? = some o := ⟨_, List.getElem?_eq_getElem hlt⟩
    have hom := List.mem_of_getElem? ho
    have hw := wrap1 (k := i) (by omega)
    have hbad : ¬ (isName o.name = true ∧ hasStr (opNames (g.ops.take i)) o.name = false) -> isSgn g = false := fun h => hno fun hs => h (hs.names i o ho)
    have hbad2 : declsOk g.sorts o = false -> isSgn g = false := fun h => hno fun hs => by rw [declsOk_true (hs.decls o hom)] at h; cases h
    have cN := con_specName (hg.2 o hom).1
    have cD := con_l4Decls (g := g) hs o
    rw [encOpr, encSgn] at cD
    (have F := @q1; refine gG ?_; clear F)
    refine gB ?_
    (have F := ai @ho @encOpr_u; refine gC (cN) ?_; clear F)
    cases hn : isName o.name with
    | false =>
      have hf := hbad fun h => by rw [hn] at h; cases h.1
      (have F := @e0P; refine gR ?_; clear F)
      (have F := @hf; refine gG ?_; exact gT)
    | true =>
    (have F := ai @ho @encOpr_u; refine gC (cD) ?_; clear F)
    cases hd : declsOk g.sorts o with
    | false =>
      have hf := hbad2 hd
      (have F := @e0P; refine gR ?_; clear F)
      (have F := @hf; refine gG ?_; exact gT)
    | true =>
    (have F := @e0P; refine gR ?_; clear F)
    (have F := @e0P; refine gG ?_; clear F)
    (have F := @e0P; refine gL (ι := Nat) [2, 4, 43, 58] [] (fun k => [(4, A.d (.one (.lit (.int .i64 k))))]) (fun k => []) (fun k => k <= i ∧ hasStr (opNames (g.ops.take k)) o.name = false) (fun k => i - k) (0) (⟨Nat.zero_le _, rfl⟩) (fun k hk => ?_); clear F)
    obtain ⟨hkl, hseen⟩ := hk
    by_cases hlk : k < i
    · have q2 : (k : Int) < (i : Int) := by omega
      obtain ⟨p, hp⟩ : ∃ o, g.ops[k]? = some o := ⟨_, List.getElem?_eq_getElem (by omega)⟩
      have hw2 := wrap1 (k := k) (by omega)
      have hsn := hasStr_snoc (opNames (g.ops.take k)) p.name o.name
      rw [hseen, Bool.false_or, beq_sym, <- opNames_snoc hp] at hsn
      cases hb : (p.name.toList == o.name.toList) with
      | true =>
        rw [hb] at hsn
        have hbp : (p.name.toList == o.name.toList) = true := hb
        have hf := hbad fun h => by
          obtain ⟨m, hm⟩ : ∃ m, i = k + 1 + m := ⟨i - (k + 1), by omega⟩
          have h2 := h.2
          rw [hasStr_mono hm hsn] at h2
          cases h2
        (have F := ai @q2 (ai @ho (ai @hp (ai @encOpr_u (ai @hb @hf)))); refine gG ?_; exact gT)
      | false =>
        rw [hb] at hsn
        (have F := ai @q2 (ai @ho (ai @hp (ai @encOpr_u (ai @hb @hw2)))); refine gG ?_; exact ⟨k + 1, ⟨hlk, hsn⟩, gw, gw, by omega⟩)
    obtain rfl : k = i := by omega
    have q2 : ((k : Int) < (k : Int)) = False := eq_false (by omega)
    have hq : k + 1 <= g.ops.length ∧ (∀ (j : Nat) (o : Opr), j < k + 1 -> g.ops[j]? = some o -> isName o.name = true ∧ hasStr (opNames (g.ops.take j)) o.name = false) ∧ (∀ o ∈ g.ops.take (k + 1), DeclsOk g.sorts o) := ⟨hlt, fun j o' hj ho' => by
      by_cases e : j = k
      · subst e
        rw [ho] at ho'
        injection ho' with ho'
        subst ho'
        exact ⟨hn, hseen⟩
      · exact hnm j o' (by omega) ho', fun o' ho' => by
      rw [take_snoc ho] at ho'
      rcases List.mem_append.1 ho' with h | h
      · exact hdc o' h
      · rw [List.mem_singleton.1 h]; exact declsOk_iff.1 hd⟩
    (have F := ai @q2 @hw; refine gG ?_; exact ⟨k + 1, hq, gw, gw, by omega⟩)
  obtain rfl : i = g.ops.length := by omega
  have q1 : ¬ ((g.ops.length : Int) < (g.ops.length : Int)) := by omega
  rw [List.take_length] at hdc
  have hnames : ∀ (i : Nat) (o : Opr), g.ops[i]? = some o -> isName o.name = true ∧ hasStr (opNames (g.ops.take i)) o.name = false := fun i o ho => hnm i o (List.getElem?_eq_some_iff.1 ho).1 ho
  (have F := @q1; refine gG ?_; clear F)
  (have F := @e0P; refine gL (ι := Nat) [2, 5, 63, 69] [] (fun k => [(5, A.d (.one (.lit (.int .i64 k))))]) (fun k => []) (fun k => k <= g.ops.length ∧ ∀ o ∈ g.ops.take k, AxOk g o) (fun k => g.ops.length - k) (0) (⟨Nat.zero_le _, fun o h => by simp at h⟩) (fun k hk => ?_); clear F)
  obtain ⟨hkl, hax⟩ := hk
  by_cases hlk : k < g.ops.length
  rotate_left
  · obtain rfl : k = g.ops.length := by omega
    rw [List.take_length] at hax
    have q2 : ¬ ((g.ops.length : Int) < (g.ops.length : Int)) := by omega
    have ht := isSgn_true ⟨hs, h14, hnames, hdc, hax⟩
    (have F := ai @q2 @ht; refine gG ?_; exact gT)
  have q2 : (k : Int) < (g.ops.length : Int) := by omega
  obtain ⟨o, ho⟩ : ∃ o, g.ops[k]? = some o := ⟨_, List.getElem?_eq_getElem hlk⟩
  have hom := List.mem_of_getElem? ho
  have hw := wrap1 (k := k) (by omega)
  have cA := con_l4Axioms hs hdc ho h14
  rw [encSgn] at cA
  (have F := @q2; refine gG ?_; clear F)
  refine gB ?_
  (have F := @e0P; refine gC (cA) ?_; clear F)
  cases ha : axOk g o with
  | false =>
    have hf := hno fun h => by rw [axOk_true (h.axs o hom)] at ha; cases ha
    (have F := @e0P; refine gR ?_; clear F)
    (have F := @hf; refine gG ?_; exact gT)
  | true =>
  have hq : k + 1 <= g.ops.length ∧ ∀ o ∈ g.ops.take (k + 1), AxOk g o := ⟨hlk, fun o' ho' => by
    rw [take_snoc ho] at ho'
    rcases List.mem_append.1 ho' with h | h
    · exact hax o' h
    · rw [List.mem_singleton.1 h]; exact axOk_iff.1 ha⟩
  (have F := @e0P; refine gR ?_; clear F)
  (have F := @hw; refine gG ?_; exact ⟨k + 1, hq, gw, gw, by omega⟩)
end
end Go.Proofs.YtkekkmpogmlopaaGreat
namespace Go.Proofs.YtkekkmpogmlopaaGreat
open Go.RowKit
theorem str_emp (s : ByteArray) : (s.toList == ByteArray.toList { data := #[] }) = decide (s = ByteArray.empty) := by
  rw [Bool.eq_iff_iff, beq_iff_eq, decide_eq_true_iff, ByteArray.toList_eq, ByteArray.toList_eq]
  constructor
  · intro h
    cases s with
    | mk d =>
      have : d = #[] := by apply Array.toList_inj.1; exact h
      rw [this]; rfl
  · rintro rfl; rfl
def encX (g : Sgn) (mc : C) : List C := [.sl ((casts (up g.sorts)).map encInt), .sl ((casts (down g.sorts)).map encInt), .sl ((casts (kinds g.sorts)).map encInt), .sl (g.sorts.names.map encStr), .sl (g.sorts.subs.map encSub), .sl (g.ops.map encOpr), mc]
theorem encX_u : ∀ (g : Sgn) (mc : C), encX g mc = [.sl ((casts (up g.sorts)).map encInt), .sl ((casts (down g.sorts)).map encInt), .sl ((casts (kinds g.sorts)).map encInt), .sl (g.sorts.names.map encStr), .sl (g.sorts.subs.map encSub), .sl (g.ops.map encOpr), mc] := fun _ _ => rfl
theorem up_len {s : Srt} (h : SortsOk s) : (up s).length = s.names.length := (up_ok (SortsOk.subsIn h.subs)).1
theorem kd_get {s : Srt} (h : SortsOk s) {k : Int} (h0 : 0 <= k) (h1 : k < s.names.length) : (casts (kinds s))[k.toNat]? = some ((kd s k : Nat) : Int) := by
  have hk := kinds_ok (SortsOk.subsIn h.subs)
  have hl : k.toNat < (kinds s).length := by rw [hk.1]; omega
  unfold casts kd
  rw [List.getElem?_map, List.getElem?_eq_getElem hl]
  simp [List.getD, List.getElem?_eq_getElem hl]
def VarOk (g : Sgn) (t : Tm) : Prop := t.op = -1 ∧ isName t.name = true ∧ 0 <= t.sort ∧ t.sort < g.sorts.names.length ∧ t.args = []
open Classical in
noncomputable def isVar (g : Sgn) (t : Tm) : Bool := decide (VarOk g t)
structure AppOk (g : Sgn) (t : Tm) (o : Opr) (d : Dcl) : Prop where
  lo : 0 <= t.op
  at' : g.ops[t.op.toNat]? = some o
  fst : o.decls[0]? = some d
  nm : t.name = ByteArray.empty
  so : t.sort = 0
  asc : o.assoc = true -> 2 <= t.args.length ∧ t.args.length <= 7
  nas : o.assoc = false -> t.args.length = d.args.length
def NodeOk (g : Sgn) (t : Tm) : Prop := VarOk g t ∨ ∃ o d, AppOk g t o d
def resOf (g : Sgn) (op : Int) : Int := ((g.ops[op.toNat]?.bind (·.decls[0]?)).map (·.res)).getD 0
def kindTm (g : Sgn) (t : Tm) : Int := if t.op = -1 then kd g.sorts t.sort else kd g.sorts (resOf g t.op)
def argAt (o : Opr) (i : Nat) : Nat := if o.assoc = true then 0 else i
theorem argAt_u : ∀ (o : Opr) (i : Nat), argAt o i = if o.assoc = true then 0 else i := fun _ _ => rfl
structure ArgOk (g : Sgn) (op : Int) (o : Opr) (d : Dcl) (args : List Tm) (i : Nat) (a : Tm) : Prop where
  kind : ∀ k, d.args[argAt o i]? = some k -> kindTm g a = kd g.sorts k
  nest : o.assoc = true -> a.op ≠ op
  unit : o.unit ≠ 0 -> a.op ≠ o.unit - 1
  ord : o.comm = true -> ∀ (j : Nat) p, i = j + 1 -> args[j]? = some p -> cmpTm p a <= 0
def RightOk (g : Sgn) (op : Int) (args : List Tm) : Prop := ∀ o d, g.ops[op.toNat]? = some o -> o.decls[0]? = some d -> ∀ (i : Nat) a, args[i]? = some a -> ArgOk g op o d args i a
mutual
def FormOk (g : Sgn) : Tm -> Prop
  | .mk op nm so args => NodeOk g (.mk op nm so args) ∧ FormOks g args ∧ (op = -1 ∨ RightOk g op args)
def FormOks (g : Sgn) : List Tm -> Prop
  | [] => True
  | t :: ts => FormOk g t ∧ FormOks g ts
end
theorem FormOks_iff {g : Sgn} {ts : List Tm} : FormOks g ts ↔ ∀ a ∈ ts, FormOk g a := by
  induction ts with
  | nil => simp [FormOks]
  | cons t ts ih => simp [FormOks, ih]
theorem FormOk_iff {g : Sgn} {t : Tm} : FormOk g t ↔ NodeOk g t ∧ (∀ a ∈ t.args, FormOk g a) ∧ (t.op = -1 ∨ RightOk g t.op t.args) := by
  cases t
  simp only [FormOk, FormOks_iff, Tm.args, Tm.op]
theorem FormOk.node {g : Sgn} {t : Tm} (h : FormOk g t) : NodeOk g t := (FormOk_iff.1 h).1
open Classical in
noncomputable def isForm (g : Sgn) (t : Tm) : Bool := decide (FormOk g t)
theorem isForm_true {g : Sgn} {t : Tm} (h : FormOk g t) : isForm g t = true := by simp [isForm, h]
theorem isForm_false {g : Sgn} {t : Tm} (h : ¬ FormOk g t) : isForm g t = false := by simp [isForm, h]
theorem isForm_iff {g : Sgn} {t : Tm} : isForm g t = true ↔ FormOk g t := by simp [isForm]
theorem SgnOk.first {g : Sgn} (h : SgnOk g) {i : Nat} {o : Opr} (ho : g.ops[i]? = some o) : ∃ d, o.decls[0]? = some d ∧ (0 : Int) <= d.res ∧ d.res < (g.sorts.names.length : Int) ∧ ∀ k : Int, k ∈ d.args -> 0 <= k ∧ k < (g.sorts.names.length : Int) := by
  have hm := List.mem_of_getElem? ho
  obtain ⟨d, hd, hD⟩ := (h.decls o hm).first
  exact ⟨d, hd, hD.res.1, hD.res.2, hD.args⟩
theorem resOf_eq {g : Sgn} {op : Int} {o : Opr} {d : Dcl} (ho : g.ops[op.toNat]? = some o) (hd : o.decls[0]? = some d) : resOf g op = d.res := by simp [resOf, ho, hd]
theorem AppOk.op {g : Sgn} {t : Tm} {o : Opr} {d : Dcl} (h : AppOk g t o d) : t.op ≠ -1 := by have := h.lo; omega
section
variable {g : Sgn} {mc : C}
set_option maxHeartbeats 4000000 in
set_option maxRecDepth 100000 in
theorem con_has (hg : SgnOk g) (k : Int) : Con e0 184 [.agg [.sl ((casts (up g.sorts)).map encInt), .sl ((casts (down g.sorts)).map encInt), .sl ((casts (kinds g.sorts)).map encInt)], .one (.lit (.int .i64 k))] [.one (.lit (.bool (decide (0 <= k ∧ k < g.sorts.names.length))))] := by
  have hl := up_len hg.sorts
  refine gI 23 Tryz.func184 ?_
  by_cases h0 : 0 <= k
  · have e : decide (0 <= k ∧ k < (g.sorts.names.length : Int)) = decide (k < (g.sorts.names.length : Int)) := by simp [h0]
    rw [e]
    (have F := ai @h0 (ai @casts_len @hl); refine gG ?_; exact gT)
  · have e : decide (0 <= k ∧ k < (g.sorts.names.length : Int)) = false := by simp [h0]
    rw [e]
    (have F := @h0; refine gG ?_; exact gT)
set_option maxHeartbeats 4000000 in
set_option maxRecDepth 100000 in
theorem con_kindOf (hg : SgnOk g) {t : Tm} (ht : NodeOk g t) : Con e0 92 [.one (.ptr (encX g mc)), .agg (encTm t)] [.one (.lit (.int .i64 (kindTm g t)))] := by
  refine gI 155 Tryz.func92 ?_
  rcases ht with ⟨h1, h2, h3, h4, h5⟩ | ⟨o, d, h⟩
  · have hn : (-1 : Int) < 0 := by omega
    have hk := kd_get hg.sorts h3 h4
    have e : kindTm g t = kd g.sorts t.sort := by simp [kindTm, h1]
    (have F := ai @tmz (ai @h1 (ai @hn (ai @encX_u (ai @h3 (ai @hk (ai @encInt_u @e)))))); refine gG ?_; exact gT)
  · have hn : ¬ (t.op < 0) := by have := h.lo; omega
    obtain ⟨d', hd', hr0, hr1, _⟩ := hg.first h.at'
    rw [h.fst] at hd'
    injection hd' with hd'
    subst hd'
    have hk := kd_get hg.sorts hr0 hr1
    have e : kindTm g t = kd g.sorts d.res := by simp [kindTm, h.op, resOf_eq h.at' h.fst]
    have hlo := h.lo
    have hat := h.at'
    have hfst := h.fst
    (have F := ai @tmz (ai @hn (ai @encX_u (ai @hlo (ai @hat (ai @encOpr_u (ai @hfst (ai @encDcl_u (ai @hr0 (ai @hk (ai @encInt_u @e)))))))))); refine gG ?_; exact gT)
set_option maxHeartbeats 4000000 in
set_option maxRecDepth 100000 in
theorem con_argKind (hg : SgnOk g) {op : Int} {i : Nat} {o : Opr} {d : Dcl} {k : Int} (h0 : 0 <= op) (ho : g.ops[op.toNat]? = some o) (hd : o.decls[0]? = some d) (hk : d.args[argAt o i]? = some k) : Con e0 150 [.one (.ptr (encX g mc)), .one (.lit (.int .i64 op)), .one (.lit (.int .i64 i))] [.one (.lit (.int .i64 (kd g.sorts k)))] := by
  obtain ⟨d', hd', _, _, hk0⟩ := hg.first ho
  rw [hd] at hd'
  injection hd' with hd'
  subst hd'
  obtain ⟨k0, k1⟩ := hk0 k (List.mem_of_getElem? hk)
  have hkd := kd_get hg.sorts k0 k1
  refine gI 131271 Tryz.func150 ?_
  unfold argAt at hk
  cases ha : o.assoc with
  | true =>
    rw [ha] at hk
    simp only [↓reduceIte] at hk
    (have F := ai @encX_u (ai @h0 (ai @ho (ai @encOpr_u (ai @ha (ai @hd (ai @encDcl_u (ai @hk (ai @k0 (ai @hkd @encInt_u))))))))); refine gG ?_; exact gT)
  | false =>
    rw [ha] at hk
    simp only [Bool.false_eq_true, ↓reduceIte] at hk
    (have F := ai @encX_u (ai @h0 (ai @ho (ai @encOpr_u (ai @ha (ai @hd (ai @encDcl_u (ai @hk (ai @k0 (ai @hkd @encInt_u))))))))); refine gG ?_; exact gT)
set_option maxHeartbeats 4000000 in
set_option maxRecDepth 100000 in
theorem con_isUnit (hg : SgnOk g) {op : Int} {o : Opr} (h0 : 0 <= op) (ho : g.ops[op.toNat]? = some o) (t : Tm) : Con e0 151 [.one (.ptr (encX g mc)), .one (.lit (.int .i64 op)), .agg (encTm t)] [.one (.lit (.bool (decide (o.unit ≠ 0 ∧ t.op = o.unit - 1))))] := by
  have hax := hg.axs o (List.mem_of_getElem? ho)
  have hlo := hax.lo
  have hhi := hax.hi
  have hln := hg.len
  have hw : IntKind.i64.wrap (o.unit - 1) = o.unit - 1 := wrapN rfl (by omega) (by omega)
  refine gI 103 Tryz.func151 ?_
  by_cases hu : o.unit = 0
  · have e : decide (o.unit ≠ 0 ∧ t.op = o.unit - 1) = false := by simp [hu]
    rw [e]
    (have F := ai @encX_u (ai @tmz (ai @h0 (ai @ho (ai @encOpr_u @hu)))); refine gG ?_; exact gT)
  · have e : decide (o.unit ≠ 0 ∧ t.op = o.unit - 1) = decide (t.op = o.unit - 1) := by simp [hu]
    rw [e]
    (have F := ai @encX_u (ai @tmz (ai @h0 (ai @ho (ai @encOpr_u (ai @hu @hw))))); refine gG ?_; exact gT)
set_option maxHeartbeats 4000000 in
set_option maxRecDepth 100000 in
theorem con_isVariable (hg : SgnOk g) {t : Tm} (hs : t.name.size <= maxLen) : Con e0 149 [.one (.ptr (encX g mc)), .agg (encTm t)] [.one (.lit (.bool (isVar g t)))] := by
  have hno : ¬ VarOk g t -> isVar g t = false := fun h => by simp [isVar, h]
  refine gI 27 Tryz.func149 ?_
  (have F := @tmz; refine gG ?_; clear F)
  by_cases h1 : t.op = -1
  rotate_left
  · have hf := hno fun h => h1 h.1
    (have F := ai @tmz (ai @h1 @hf); refine gG ?_; exact gT)
  refine gB ?_
  (have F := ai @tmz @h1; refine gC (con_implName hs) ?_; clear F)
  by_cases h2 : isName t.name = true
  rotate_left
  · have hf := hno fun h => h2 h.2.1
    have h2' : isName t.name = false := by simpa using h2
    (have F := ai @tmz @h2'; refine gR ?_; clear F)
    (have F := ai @tmz @hf; refine gG ?_; exact gT)
  (have F := ai @tmz (ai @h2 @encX_u); refine gC (con_has hg t.sort) ?_; clear F)
  by_cases h3 : 0 <= t.sort ∧ t.sort < g.sorts.names.length
  rotate_left
  · have hf := hno fun h => h3 ⟨h.2.2.1, h.2.2.2.1⟩
    have h3' : decide (0 <= t.sort ∧ t.sort < (g.sorts.names.length : Int)) = false := by simp only [decide_eq_false_iff_not]; exact h3
    (have F := ai @tmz @h3'; refine gR ?_; clear F)
    (have F := ai @tmz @hf; refine gG ?_; exact gT)
  have h3' : decide (0 <= t.sort ∧ t.sort < (g.sorts.names.length : Int)) = true := by simp only [decide_eq_true_eq]; exact h3
  by_cases h4 : t.args = []
  · have hT : isVar g t = true := by simp only [isVar, decide_eq_true_eq]; exact ⟨h1, h2, h3.1, h3.2, h4⟩
    (have F := ai @tmz (ai @h3' @h4); refine gR ?_; clear F)
    (have F := ai @tmz @hT; refine gG ?_; exact gT)
  · have hf := hno fun h => h4 h.2.2.2.2
    have h4' : ¬ ((t.args.length : Int) = 0) := by
      intro h; apply h4; apply List.eq_nil_of_length_eq_zero; omega
    (have F := ai @tmz (ai @h3' @h4'); refine gR ?_; clear F)
    (have F := ai @tmz @hf; refine gG ?_; exact gT)
end
end Go.Proofs.YtkekkmpogmlopaaGreat
namespace Go.Proofs.YtkekkmpogmlopaaGreat
open Go.RowKit
theorem okTm_iff {t : Tm} : okTm t ↔ I64 t.op ∧ t.name.size <= maxLen ∧ I64 t.sort ∧ okTms t.args := by cases t; simp only [okTm, Tm.op, Tm.name, Tm.sort, Tm.args]
theorem sizeTm_eq (t : Tm) : sizeTm t = 1 + sizeTms t.args := by cases t; simp only [sizeTm, Tm.args]
theorem isForm_var {g : Sgn} {t : Tm} (h : t.op = -1) : isForm g t = isVar g t := by
  unfold isForm isVar
  congr 1
  rw [FormOk_iff]
  apply propext
  constructor
  · rintro ⟨h1 | ⟨o, d, h1⟩, _⟩
    · exact h1
    · have := h1.lo; omega
  · intro h1
    exact ⟨.inl h1, fun a ha => (by rw [h1.2.2.2.2] at ha; cases ha), .inl h⟩
theorem NodeOk.app {g : Sgn} {t : Tm} (h : NodeOk g t) (hop : t.op ≠ -1) : ∃ o d, AppOk g t o d := by
  rcases h with h | h
  · exact absurd h.1 hop
  · exact h
theorem argAt_get {g : Sgn} (hg : SgnOk g) {i : Nat} {o : Opr} {d : Dcl} {n j : Nat} (ho : g.ops[i]? = some o) (hd : o.decls[0]? = some d) (nas : o.assoc = false -> n = d.args.length) (hj : j < n) : ∃ k, d.args[argAt o j]? = some k := by
  unfold argAt
  cases ha : o.assoc with
  | true =>
    have h2 := ((hg.axs o (List.mem_of_getElem? ho)).two (.inl ha) d hd).1
    exact ⟨_, List.getElem?_eq_getElem (by simp only [↓reduceIte]; omega)⟩
  | false => exact ⟨_, List.getElem?_eq_getElem (by simp only [Bool.false_eq_true, ↓reduceIte]; have := nas ha; omega)⟩
section
variable {g : Sgn} {mc : C}
set_option maxHeartbeats 40000000 in
set_option maxRecDepth 100000 in
theorem con_wellMade_all (hg : SgnOk g) : ∀ (n : Nat) (t : Tm), sizeTm t < n -> okTm t -> sizeTm t <= big -> Con e0 91 [.one (.ptr (encX g mc)), .agg (encTm t)] [.one (.lit (.bool (isForm g t)))] := by
  intro n
  induction n with
  | zero => intro t h; omega
  | succ n ih =>
    intro t hn hok hb
    have hno : ¬ FormOk g t -> isForm g t = false := isForm_false
    obtain ⟨k1, k2, k3, k4⟩ := okTm_iff.1 hok
    have hsz := sizeTm_eq t
    have hal := sizeTms_len t.args
    unfold big at hb
    refine gI 43556142965880125627826793391928073259515 Tryz.func91 ?_
    by_cases h1 : t.op = -1
    · have e := isForm_var (g := g) h1
      rw [e]
      (have F := ai @tmz @h1; refine gG ?_; clear F)
      refine gB ?_
      (have F := ai @tmz @h1; refine gC (con_isVariable hg k2) ?_; clear F)
      (have F := @tmz; refine gR ?_; clear F)
      (have F := @tmz; refine gG ?_; exact gT)
    by_cases h2 : t.op < 0
    · have hf := hno fun h => by
        obtain ⟨o, d, h⟩ := h.node.app h1
        have := h.lo; omega
      (have F := ai @tmz (ai @h1 (ai @h2 @hf)); refine gG ?_; exact gT)
    by_cases h3 : (g.ops.length : Int) <= t.op
    · have hf := hno fun h => by
        obtain ⟨o, d, h⟩ := h.node.app h1
        have := (List.getElem?_eq_some_iff.1 h.at').1; omega
      (have F := ai @tmz (ai @h1 (ai @h2 (ai @h3 (ai @encX_u @hf)))); refine gG ?_; exact gT)
    by_cases h4 : t.name = ByteArray.empty
    rotate_left
    · have hf := hno fun h => by
        obtain ⟨o, d, h⟩ := h.node.app h1
        exact h4 h.nm
      (have F := ai @tmz (ai @h1 (ai @h2 (ai @h3 (ai @encX_u (ai @str_emp (ai @h4 @hf)))))); refine gG ?_; exact gT)
    by_cases h5 : t.sort = 0
    rotate_left
    · have hf := hno fun h => by
        obtain ⟨o, d, h⟩ := h.node.app h1
        exact h5 h.so
      (have F := ai @tmz (ai @h1 (ai @h2 (ai @h3 (ai @encX_u (ai @str_emp (ai @h4 (ai @h5 @hf))))))); refine gG ?_; exact gT)
    have h0 : 0 <= t.op := by omega
    obtain ⟨o, ho⟩ : ∃ o, g.ops[t.op.toNat]? = some o := ⟨_, List.getElem?_eq_getElem (by omega)⟩
    obtain ⟨d, hd, hr0, hr1, hargs⟩ := hg.first ho
    have hgt : FormOk g t -> AppOk g t o d := fun h => by
      obtain ⟨o', d', h⟩ := h.node.app h1
      have e1 := h.at'
      rw [ho] at e1
      injection e1 with e1
      subst e1
      have e2 := h.fst
      rw [hd] at e2
      injection e2 with e2
      subst e2
      exact h
    by_cases hW : (o.assoc = true -> 2 <= t.args.length ∧ t.args.length <= 7) ∧ (o.assoc = false -> t.args.length = d.args.length)
    rotate_left
    · have hf := hno fun h => hW ⟨(hgt h).asc, (hgt h).nas⟩
      cases ha : o.assoc with
      | true =>
        by_cases c1 : t.args.length < 2
        · have c1' : (t.args.length : Int) < 2 := by omega
          (have F := ai @tmz (ai @h1 (ai @h2 (ai @h3 (ai @encX_u (ai @str_emp (ai @h4 (ai @h5 (ai @h0 (ai @ho (ai @encOpr_u (ai @ha (ai @c1' @hf)))))))))))); refine gG ?_; exact gT)
        · have c1' : ¬ ((t.args.length : Int) < 2) := by omega
          have c2 : (7 : Int) < (t.args.length : Int) := by
            by_cases c2 : t.args.length <= 7
            · exact absurd ⟨fun _ => ⟨by omega, c2⟩, fun h => by rw [ha] at h; cases h⟩ hW
            · omega
          (have F := ai @tmz (ai @h1 (ai @h2 (ai @h3 (ai @encX_u (ai @str_emp (ai @h4 (ai @h5 (ai @h0 (ai @ho (ai @encOpr_u (ai @ha (ai @c1' (ai @c2 @hf))))))))))))); refine gG ?_; exact gT)
      | false =>
        have c3 : ¬ ((t.args.length : Int) = (d.args.length : Int)) := fun c => hW ⟨fun h => (by rw [ha] at h; cases h), fun _ => by omega⟩
        (have F := ai @tmz (ai @h1 (ai @h2 (ai @h3 (ai @encX_u (ai @str_emp (ai @h4 (ai @h5 (ai @h0 (ai @ho (ai @encOpr_u (ai @ha (ai @hd (ai @encDcl_u (ai @c3 @hf)))))))))))))); refine gG ?_; exact gT)
    have hA : AppOk g t o d := ⟨h0, ho, hd, h4, h5, hW.1, hW.2⟩
    (have F := ai @tmz (ai @h1 (ai @h2 (ai @h3 (ai @encX_u (ai @str_emp (ai @h4 (ai @h5 (ai @h0 (ai @ho @encOpr_u))))))))); refine gG ?_; clear F)
    refine gM (ι := Unit) [75] [] (fun u => [(75, A.d (.one (.lit (.bool false))))]) (fun u => []) (fun u => True) ?_ (fun u hu => Exists.intro _ (ai (Wk.refl _) ?_))
    · cases ha : o.assoc with
      | true =>
        have c := hW.1 ha
        have c1' : ¬ ((t.args.length : Int) < 2) := by omega
        have c2 : ¬ ((7 : Int) < (t.args.length : Int)) := by omega
        (have F := ai @tmz (ai @encOpr_u (ai @ha (ai @c1' @c2))); refine gG ?_; exact ⟨(), trivial, gw, gw⟩)
      | false =>
        have c3 : ((t.args.length : Int) = (d.args.length : Int)) := by have := hW.2 ha; omega
        (have F := ai @tmz (ai @encOpr_u (ai @ha (ai @hd (ai @encDcl_u @c3)))); refine gG ?_; exact ⟨(), trivial, gw, gw⟩)
    (have F := @tmz; refine gG ?_; clear F)
    (have F := @e0P; refine gL (ι := Nat) [4, 7, 8, 79, 80, 135] [] (fun i => [(79, A.d (.one (.lit (.int .i64 i))))]) (fun i => []) (fun i => i <= t.args.length ∧ ∀ (j : Nat) a, j < i -> t.args[j]? = some a -> FormOk g a ∧ ArgOk g t.op o d t.args j a) (fun i => t.args.length - i) (0) (⟨by omega, fun j a h => absurd h (by omega)⟩) (fun i hi => ?_); clear F)
    obtain ⟨hil, hall⟩ := hi
    by_cases hl : i < t.args.length
    rotate_left
    · have hl' : ¬ ((i : Int) < (t.args.length : Int)) := by omega
      have hT := isForm_true (FormOk_iff.2 ⟨.inr ⟨o, d, hA⟩, fun a ha => by
          obtain ⟨j, hj⟩ := List.getElem?_of_mem ha
          exact (hall j a (by have := (List.getElem?_eq_some_iff.1 hj).1; omega) hj).1, .inr fun o' d' ho' hd' j a hj => by
          rw [ho] at ho'
          injection ho' with ho'
          subst ho'
          rw [hd] at hd'
          injection hd' with hd'
          subst hd'
          exact (hall j a (by have := (List.getElem?_eq_some_iff.1 hj).1; omega) hj).2⟩)
      (have F := ai @hl' @hT; refine gG ?_; exact gT)
    have hl' : (i : Int) < (t.args.length : Int) := by omega
    obtain ⟨a, ha⟩ : ∃ a, t.args[i]? = some a := ⟨_, List.getElem?_eq_getElem hl⟩
    have hm := List.mem_of_getElem? ha
    have hsa := sizeTms_mem hm
    have hw1 := wrap1 (k := i) (by omega)
    have hnoA : ¬ ArgOk g t.op o d t.args i a -> isForm g t = false := fun h => hno fun hF => by
      obtain ⟨_, _, h3⟩ := FormOk_iff.1 hF
      rcases h3 with h3 | h3
      · exact h1 h3
      · exact h (h3 o d ho hd i a ha)
    obtain ⟨k, hk⟩ := argAt_get hg ho hd hA.nas hl
    (have F := ai @hl' (ai @tmz @ha); refine gG ?_; clear F)
    refine gB ?_
    (have F := @tmz; refine gC (ih a (by omega) (k4.mem hm) (by unfold big; omega)) ?_; clear F)
    by_cases hfa : isForm g a = true
    rotate_left
    · have hf := hno fun h => hfa (isForm_true ((FormOk_iff.1 h).2.1 a hm))
      have hfa' : isForm g a = false := by simpa using hfa
      (have F := ai @tmz @hfa'; refine gR ?_; clear F)
      (have F := @hf; refine gG ?_; exact gT)
    have hFa := isForm_iff.1 hfa
    (have F := ai @tmz @hfa; refine gC (con_kindOf hg hFa.node) ?_; clear F)
    (have F := @tmz; refine gC (con_argKind hg h0 ho hd hk) ?_; clear F)
    by_cases hkd : kindTm g a = ((kd g.sorts k : Nat) : Int)
    rotate_left
    · have hf := hnoA fun h => hkd (h.kind k hk)
      (have F := ai @tmz @hkd; refine gR ?_; clear F)
      (have F := @hf; refine gG ?_; exact gT)
    by_cases hN : o.assoc = true ∧ a.op = t.op
    · have hf := hnoA fun h => h.nest hN.1 hN.2
      obtain ⟨hN1, hN2⟩ := hN
      (have F := ai @tmz (ai @hkd (ai @encOpr_u (ai @hN1 @hN2))); refine gR ?_; clear F)
      (have F := @hf; refine gG ?_; exact gT)
    have hne : o.assoc = true -> ¬ a.op = t.op := fun h1 h2 => hN ⟨h1, h2⟩
    have cU := con_isUnit (mc := mc) hg h0 ho a
    generalize hU : decide (o.unit ≠ 0 ∧ a.op = o.unit - 1) = U at cU
    have hnext : (U = false) -> (o.comm = true -> ∀ (j : Nat) p, i = j + 1 -> t.args[j]? = some p -> cmpTm p a <= 0) -> i + 1 <= t.args.length ∧ ∀ (j : Nat) a, j < i + 1 -> t.args[j]? = some a -> FormOk g a ∧ ArgOk g t.op o d t.args j a := fun hU' hc => ⟨by omega, fun j a' hj ha' => by
      by_cases e : j = i
      · subst e
        rw [ha] at ha'
        injection ha' with ha'
        subst ha'
        refine ⟨hFa, fun k' hk' => ?_, fun h1 h2 => hN ⟨h1, h2⟩, fun h1 h2 => ?_, hc⟩
        · rw [hk] at hk'
          injection hk' with hk'
          subst hk'
          exact hkd
        · rw [hU'] at hU
          simp only [decide_eq_false_iff_not] at hU
          exact hU ⟨h1, h2⟩
      · exact hall j a' (by omega) ha'⟩
    rcases Bool.eq_false_or_eq_true o.assoc with hac | hac
    all_goals (
      (have F := ai @tmz (ai @hkd (ai @encOpr_u (ai @hac @hne))); refine gC (cU) ?_; clear F)
      rcases Bool.eq_false_or_eq_true U with hu | hu
      · have hf := hnoA fun h => by
          rw [hu] at hU
          simp only [decide_eq_true_eq] at hU
          exact h.unit hU.1 hU.2
        (have F := ai @tmz @hu; refine gR ?_; clear F)
        (have F := @hf; refine gG ?_; exact gT)
      rcases Bool.eq_false_or_eq_true o.comm with hcm | hcm
      rotate_left
      · have hq := hnext hu (fun h => by rw [hcm] at h; cases h)
        (have F := ai @tmz (ai @hu (ai @encOpr_u @hcm)); refine gR ?_; clear F)
        (have F := ai @hw1 (ai @tmz (ai @encOpr_u (ai @hcm @hac))); refine gG ?_; exact ⟨i + 1, hq, gw, gw, by omega⟩)
      rcases Nat.eq_zero_or_pos i with hi0 | hi0
      · have hq := hnext hu (fun _ j p h => by omega)
        have hi0' : ¬ ((0 : Int) < (i : Int)) := by omega
        (have F := ai @tmz (ai @hu (ai @encOpr_u (ai @hcm @hi0'))); refine gR ?_; clear F)
        (have F := ai @hw1 (ai @tmz (ai @encOpr_u (ai @hcm @hac))); refine gG ?_; exact ⟨i + 1, hq, gw, gw, by omega⟩)
      obtain ⟨j, rfl⟩ : ∃ j, i = j + 1 := ⟨i - 1, by omega⟩
      obtain ⟨p, hp⟩ : ∃ p, t.args[j]? = some p := ⟨_, List.getElem?_eq_getElem (by omega)⟩
      have cC := con_implCmp (k4.mem (List.mem_of_getElem? hp)) (k4.mem hm)
      have hgt0 : (0 : Int) < ((j + 1 : Nat) : Int) := by omega
      have hsub : IntKind.i64.wrap (((j + 1 : Nat) : Int) - 1) = (j : Int) := wrapN (by omega) (by omega) (by omega)
      (have F := ai @tmz (ai @hu (ai @encOpr_u (ai @hcm (ai @hgt0 (ai @hsub @hp))))); refine gC (cC) ?_; clear F)
      by_cases hc : 0 < cmpTm p a
      · have hf := hnoA fun h => by have := h.ord hcm j p rfl hp; omega
        (have F := ai @tmz @hc; refine gR ?_; clear F)
        (have F := @hf; refine gG ?_; exact gT)
      · have hq := hnext hu (fun _ j' p' h hp' => by
          have : j' = j := by omega
          subst this
          rw [hp] at hp'
          injection hp' with hp'
          subst hp'
          omega)
        (have F := ai @tmz @hc; refine gR ?_; clear F)
        (have F := ai @hw1 (ai @tmz (ai @encOpr_u (ai @hcm @hac))); refine gG ?_; exact ⟨j + 1 + 1, hq, gw, gw, by omega⟩))
theorem con_wellMade (hg : SgnOk g) {t : Tm} (hok : okTm t) (hb : sizeTm t <= big) : Con e0 91 [.one (.ptr (encX g mc)), .agg (encTm t)] [.one (.lit (.bool (isForm g t)))] := con_wellMade_all hg _ t (Nat.lt_succ_self _) hok hb
structure TermOk (g : Sgn) (t : Tm) : Prop where
  size : sizeTm t <= 60
  depth : depthTm t <= 20
  form : FormOk g t
open Classical in
noncomputable def isTerm (g : Sgn) (t : Tm) : Bool := decide (TermOk g t)
theorem isTerm_false {g : Sgn} {t : Tm} (h : ¬ TermOk g t) : isTerm g t = false := by simp [isTerm, h]
theorem isTerm_iff {g : Sgn} {t : Tm} : isTerm g t = true ↔ TermOk g t := by simp [isTerm]
theorem isTerm_form {g : Sgn} {t : Tm} (h1 : sizeTm t <= 60) (h2 : depthTm t <= 20) : isForm g t = isTerm g t := by
  unfold isForm isTerm
  congr 1
  exact propext ⟨fun h => ⟨h1, h2, h⟩, fun h => h.form⟩
set_option maxHeartbeats 4000000 in
set_option maxRecDepth 100000 in
theorem con_implIsT (hg : SgnOk g) {t : Tm} (hok : okTm t) (hb : sizeTm t <= big) : Con e0 44 [.one (.ptr (encX g mc)), .agg (encTm t)] [.one (.lit (.bool (isTerm g t)))] := by
  have hno : ¬ TermOk g t -> isTerm g t = false := isTerm_false
  refine gI 27 Tryz.func44 ?_
  (have F := @tmz; refine gG ?_; clear F)
  refine gB ?_
  (have F := @tmz; refine gC (con_implSize hb) ?_; clear F)
  by_cases h1 : sizeTm t <= 60
  rotate_left
  · have h1' : ¬ ((sizeTm t : Int) <= 60) := by omega
    have hf := hno fun h => h1 h.size
    (have F := ai @tmz @h1'; refine gR ?_; clear F)
    (have F := @hf; refine gG ?_; exact gT)
  have h1' : ((sizeTm t : Int) <= 60) := by omega
  (have F := ai @tmz @h1'; refine gC (con_implDepth hb) ?_; clear F)
  by_cases h2 : depthTm t <= 20
  rotate_left
  · have h2' : ¬ ((depthTm t : Int) <= 20) := by omega
    have hf := hno fun h => h2 h.depth
    (have F := ai @tmz @h2'; refine gR ?_; clear F)
    (have F := @hf; refine gG ?_; exact gT)
  have h2' : ((depthTm t : Int) <= 20) := by omega
  (have F := ai @tmz @h2'; refine gC (con_wellMade hg hok hb) ?_; clear F)
  have e := isTerm_form (g := g) h1 h2
  (have F := @tmz; refine gR ?_; clear F)
  (have F := @e; refine gG ?_; exact gT)
end
end Go.Proofs.YtkekkmpogmlopaaGreat
namespace Go.Proofs.YtkekkmpogmlopaaGreat
open Go.RowKit
mutual
theorem cmpTm_zero : ∀ {a b : Tm}, cmpTm a b = 0 -> a = b
  | .mk o n s x, .mk o' n' s' x', h => by
    simp only [cmpTm, firstNZ] at h
    split at h
    · rename_i h1
      split at h
      · rename_i h2
        split at h
        · rename_i h3
          split at h
          · rename_i h4
            rw [cmpInt_zero.1 h1, cmpStr_zero.1 h2, cmpInt_zero.1 h3, cmpTms_zero h4]
          · contradiction
        · contradiction
      · contradiction
    · contradiction
theorem cmpTms_zero : ∀ {a b : List Tm}, cmpTms a b = 0 -> a = b
  | [], [], _ => rfl
  | [], _ :: _, h => by simp [cmpTms] at h
  | _ :: _, [], h => by simp [cmpTms] at h
  | x :: xs, y :: ys, h => by
    simp only [cmpTms, firstNZ] at h
    split at h
    · rename_i h1
      split at h
      · rename_i h2
        rw [cmpTm_zero h1, cmpTms_zero h2]
      · contradiction
    · contradiction
end
mutual
theorem cmpTm_self : ∀ (a : Tm), cmpTm a a = 0
  | .mk o n s x => by simp only [cmpTm, firstNZ, cmpInt_zero.2 (rfl : o = o), cmpInt_zero.2 (rfl : s = s), cmpStr_zero.2 (rfl : n = n), cmpTms_self x, if_true]
theorem cmpTms_self : ∀ (a : List Tm), cmpTms a a = 0
  | [] => rfl
  | x :: xs => by simp only [cmpTms, firstNZ, cmpTm_self x, cmpTms_self xs, if_true]
end
theorem cmpTm_iff {a b : Tm} : cmpTm a b = 0 ↔ a = b := ⟨cmpTm_zero, fun h => h ▸ cmpTm_self a⟩
section
variable {g : Sgn}
set_option maxHeartbeats 4000000 in
set_option maxRecDepth 100000 in
theorem con_newAlg_not (hok : okSgn g) (hg : ¬ SgnOk g) : Con e0 42 [.agg (encSgn g)] [.one (.lit (.pointer none)), .one (.lit (.bool false))] := by
  have hs : isSgn g = false := isSgn_false hg
  have c := con_implSgn hok
  rw [hs, encSgn] at c
  refine gI 287 Tryz.func42 ?_
  (have F := @encSgn_u; refine gG ?_; clear F)
  refine gB ?_
  (have F := @encSgn_u; refine gC (c) ?_; clear F)
  (have F := @encSgn_u; refine gR ?_; clear F)
  (have F := @encSgn_u; refine gG ?_; exact gT)
def algR (g : Sgn) (r : List D) : Prop := ∃ b : Nat, r = [.one (.ptr (encX g (.lit (.map (some b))))), .one (.lit (.bool true))]
set_option maxHeartbeats 4000000 in
set_option maxRecDepth 100000 in
theorem conE_newAlg (hok : okSgn g) (hg : SgnOk g) : ConE e0 42 [.agg (encSgn g)] (algR g) := by
  have hs : isSgn g = true := isSgn_true hg
  have c := con_implSgn hok
  rw [hs, encSgn] at c
  have c2 := con_newOrder hok.1 hg.sorts
  rw [encSrt, encOrd] at c2
  refine gIE 287 Tryz.func42 ?_
  (have F := @encSgn_u; refine gG ?_; clear F)
  refine gB ?_
  (have F := @encSgn_u; refine gC (c) ?_; clear F)
  (have F := @encSgn_u; refine gR ?_; clear F)
  (have F := @encSgn_u; refine gG ?_; clear F)
  refine gB ?_
  (have F := @encSgn_u; refine gC (c2) ?_; clear F)
  (have F := @encSgn_u; refine gR ?_; clear F)
  (have F := @encSgn_u; refine gG ?_; clear F)
  refine gB ?_
  refine runs_map (by simp only [pz, ↓reduceIte, Nat.reduceEqDiff, Nat.reduceAdd, Nat.reduceSub, Nat.reduceMul, Nat.reduceLeDiff, Nat.reduceBEq, Bool.false_eq_true, decide_true, decide_false, Int.reduceLE, Int.reduceToNat, Int.reduceLT, Int.reduceEq, eq_self, Nat.reduceShiftRight, Nat.reduceAnd, Nat.reduceBneDiff, R_makeMap]; exact rfl) fun b => ?_
  (have F := @sa_some; refine gR ?_; clear F)
  refine pwp_ret (ret_E [19] _ ⟨b, rfl⟩ (by simp only [pz, ↓reduceIte, Nat.reduceEqDiff, Nat.reduceAdd, Nat.reduceSub, Nat.reduceMul, Nat.reduceLeDiff, Nat.reduceBEq, Bool.false_eq_true, decide_true, decide_false, Int.reduceLE, Int.reduceToNat, Int.reduceLT, Int.reduceEq, eq_self, Nat.reduceShiftRight, Nat.reduceAnd, Nat.reduceBneDiff]; exact rfl) ?_)
  simp [resOk, resA, resSlots, gs, encX, nR]
set_option maxHeartbeats 4000000 in
set_option maxRecDepth 100000 in
theorem con_l5Same {a b : Tm} (ha : okTm a) (hb : okTm b) : Con e0 159 [.agg (encTm a), .agg (encTm b)] [.one (.lit (.bool (decide (cmpTm a b = 0))))] := by
  refine gI 31 Tryz.func159 ?_
  (have F := @tmz; refine gG ?_; clear F)
  refine gB ?_
  (have F := @tmz; refine gC (con_specCmp ha hb) ?_; clear F)
  (have F := @tmz; refine gR ?_; clear F)
  (have F := @tmz; refine gG ?_; exact gT)
set_option maxHeartbeats 4000000 in
set_option maxRecDepth 100000 in
theorem con_l6Kind (hok : okSgn g) (hg : SgnOk g) {t : Tm} (ht : NodeOk g t) : Con e0 80 [.agg (encSgn g), .agg (encTm t)] [.one (.lit (.int .i64 (kindTm g t)))] := by
  have c2 := con_l3Kinds hg.sorts
  rw [encSrt] at c2
  refine gI 2111 Tryz.func80 ?_
  (have F := ai @tmz @encSgn_u; refine gG ?_; clear F)
  refine gB ?_
  (have F := @encSgn_u; refine gC (c2) ?_; clear F)
  (have F := @encSgn_u; refine gR ?_; clear F)
  rcases ht with ⟨h1, h2, h3, h4, h5⟩ | ⟨o, d, h⟩
  · have hk := kd_get hg.sorts h3 h4
    have e : kindTm g t = kd g.sorts t.sort := by simp [kindTm, h1]
    (have F := ai @tmz (ai @h1 (ai @h3 (ai @hk (ai @encInt_u @e)))); refine gG ?_; exact gT)
  · have hn := h.op
    obtain ⟨d', hd', hr0, hr1, _⟩ := hg.first h.at'
    rw [h.fst] at hd'
    injection hd' with hd'
    subst hd'
    have hk := kd_get hg.sorts hr0 hr1
    have e : kindTm g t = kd g.sorts d.res := by simp [kindTm, h.op, resOf_eq h.at' h.fst]
    have hlo := h.lo
    have hat := h.at'
    have hfst := h.fst
    (have F := ai @tmz (ai @hn (ai @hlo (ai @hat (ai @encOpr_u (ai @hfst (ai @encDcl_u (ai @hr0 (ai @hk (ai @encInt_u @e))))))))); refine gG ?_; exact gT)
def unitTm (o : Opr) : Tm := .mk (if o.unit = 0 then 0 else o.unit - 1) .empty 0 []
set_option maxHeartbeats 4000000 in
set_option maxRecDepth 100000 in
theorem con_l6Unit (hg : SgnOk g) {op : Int} {o : Opr} (h0 : 0 <= op) (ho : g.ops[op.toNat]? = some o) : Con e0 180 [.agg (encSgn g), .one (.lit (.int .i64 op))] [.agg (encTm (unitTm o)), .one (.lit (.bool (!decide (o.unit = 0))))] := by
  have hax := hg.axs o (List.mem_of_getElem? ho)
  have hlo := hax.lo
  have hhi := hax.hi
  have hln := hg.len
  have hw : IntKind.i64.wrap (o.unit - 1) = o.unit - 1 := wrapN rfl (by omega) (by omega)
  refine gI 4151 Tryz.func180 ?_
  by_cases hu : o.unit = 0
  · (have F := ai @encSgn_u (ai @h0 (ai @ho (ai @encOpr_u @hu))); refine gG ?_; clear F)
    refine pwp_ret (ret_ok ?_)
    simp [resOk, resA, resSlots, gs, hu, unitTm, encTm, encTms, gm, ptrA, varA, e0P, pz, tt_0, tt_1]
  · (have F := ai @encSgn_u (ai @h0 (ai @ho (ai @encOpr_u (ai @hu @hw)))); refine gG ?_; clear F)
    refine pwp_ret (ret_ok ?_)
    simp [resOk, resA, resSlots, gs, hu, unitTm, encTm, encTms, gm, ptrA, varA, e0P, pz]
end
end Go.Proofs.YtkekkmpogmlopaaGreat
namespace Go.Proofs.YtkekkmpogmlopaaGreat
open Go.RowKit
def Tri (a b c : Int) : Prop := ((a <= 0 -> b <= 0 -> c <= 0) ∧ (a < 0 -> b <= 0 -> c < 0) ∧ (a <= 0 -> b < 0 -> c < 0)) ∧ ((0 <= a -> 0 <= b -> 0 <= c) ∧ (0 < a -> 0 <= b -> 0 < c) ∧ (0 <= a -> 0 < b -> 0 < c))
theorem first2 (p q : Int) : firstNZ [p, q] = if p = 0 then q else p := by
  simp only [firstNZ]
  split
  · split <;> simp_all
  · rfl
theorem first4 (p q r s : Int) : firstNZ [p, q, r, s] = firstNZ [p, firstNZ [q, firstNZ [r, s]]] := by
  simp only [first2, firstNZ]
  by_cases h1 : p = 0 <;> by_cases h2 : q = 0 <;> by_cases h3 : r = 0 <;> by_cases h4 : s = 0 <;> simp [h1, h2, h3, h4]
theorem Tri.lex {a b c a' b' c' : Int} (h : Tri a b c) (h' : Tri a' b' c') : Tri (firstNZ [a, a']) (firstNZ [b, b']) (firstNZ [c, c']) := by
  simp only [first2]
  unfold Tri at *
  by_cases h1 : a = 0
  · by_cases h2 : b = 0
    · by_cases h3 : c = 0
      · simp only [h1, h2, h3, if_true]; exact h'
      · omega
    · by_cases h3 : c = 0
      · omega
      · simp only [h1, h2, h3, if_true, if_false]; omega
  · by_cases h2 : b = 0
    · by_cases h3 : c = 0
      · omega
      · simp only [h1, h2, h3, if_true, if_false]; omega
    · by_cases h3 : c = 0
      · simp only [h1, h2, h3, if_true, if_false]; omega
      · simp only [h1, h2, h3, if_false]; omega
theorem firstNZ_neg (p q : Int) : firstNZ [-p, -q] = -firstNZ [p, q] := by
  simp only [first2]
  by_cases h : p = 0
  · simp [h]
  · have : ¬ -p = 0 := by omega
    simp [h, this]
theorem cmpInt_tri (a b c : Int) : Tri (cmpInt a b) (cmpInt b c) (cmpInt a c) := by
  unfold Tri cmpInt
  by_cases h1 : a < b <;> by_cases h2 : b < c <;> by_cases h3 : a < c <;> by_cases h4 : b < a <;> by_cases h5 : c < b <;> by_cases h6 : c < a <;> simp only [h1, h2, h3, h4, h5, h6, if_true, if_false] <;> omega
theorem cmpInt_neg (a b : Int) : cmpInt b a = -cmpInt a b := by
  unfold cmpInt
  by_cases h1 : a < b <;> by_cases h2 : b < a <;> simp only [h1, h2, if_true, if_false] <;> omega
theorem bytes_first (x y : UInt8) (xs ys : List UInt8) : Lib.compareBytes (x :: xs) (y :: ys) = firstNZ [cmpInt x.toNat y.toNat, Lib.compareBytes xs ys] := by
  rw [first2]
  simp only [Lib.compareBytes, cmpInt, UInt8.lt_iff_toNat_lt]
  by_cases h1 : x.toNat < y.toNat
  · have : ((x.toNat : Int) < y.toNat) := by omega
    simp [h1, this]
  · have h1' : ¬ ((x.toNat : Int) < y.toNat) := by omega
    by_cases h2 : y.toNat < x.toNat
    · have : ((y.toNat : Int) < x.toNat) := by omega
      simp [h1, h2, h1', this]
    · have : ¬ ((y.toNat : Int) < x.toNat) := by omega
      simp [h1, h2, h1', this]
theorem bytes_tri : ∀ (a b c : List UInt8), Tri (Lib.compareBytes a b) (Lib.compareBytes b c) (Lib.compareBytes a c)
  | [], [], [] => by simp [Lib.compareBytes, Tri]
  | [], [], _ :: _ => by simp [Lib.compareBytes, Tri]
  | [], _ :: _, [] => by simp [Lib.compareBytes, Tri]
  | [], y :: ys, z :: zs => by
    have : Lib.compareBytes [] (y :: ys) = -1 := rfl
    have h2 : Lib.compareBytes [] (z :: zs) = -1 := rfl
    rw [this, h2]; unfold Tri; omega
  | _ :: _, [], [] => by simp [Lib.compareBytes, Tri]
  | x :: xs, [], z :: zs => by
    have : Lib.compareBytes (x :: xs) [] = 1 := rfl
    have h2 : Lib.compareBytes [] (z :: zs) = -1 := rfl
    rw [this, h2]; unfold Tri; omega
  | x :: xs, y :: ys, [] => by
    have : Lib.compareBytes (x :: xs) [] = 1 := rfl
    have h2 : Lib.compareBytes (y :: ys) [] = 1 := rfl
    rw [this, h2]; unfold Tri; omega
  | x :: xs, y :: ys, z :: zs => by
    simp only [bytes_first]
    exact (cmpInt_tri _ _ _).lex (bytes_tri xs ys zs)
theorem bytes_neg : ∀ (a b : List UInt8), Lib.compareBytes b a = -Lib.compareBytes a b
  | [], [] => rfl
  | [], _ :: _ => rfl
  | _ :: _, [] => rfl
  | x :: xs, y :: ys => by rw [bytes_first, bytes_first, cmpInt_neg, bytes_neg xs ys, firstNZ_neg]
mutual
theorem cmpTm_neg : ∀ (a b : Tm), cmpTm b a = -cmpTm a b
  | .mk o n s a, .mk o' n' s' a' => by
    simp only [cmpTm, first4]
    rw [cmpInt_neg o o', cmpInt_neg s s', cmpTms_neg a a', show cmpStr n' n = -cmpStr n n' from bytes_neg _ _, firstNZ_neg, firstNZ_neg, firstNZ_neg]
theorem cmpTms_neg : ∀ (a b : List Tm), cmpTms b a = -cmpTms a b
  | [], [] => by simp [cmpTms]
  | [], _ :: _ => by simp [cmpTms]
  | _ :: _, [] => by simp [cmpTms]
  | x :: xs, y :: ys => by
    simp only [cmpTms]
    rw [cmpTm_neg x y, cmpTms_neg xs ys, firstNZ_neg]
end
mutual
theorem cmpTm_tri : ∀ (a b c : Tm), Tri (cmpTm a b) (cmpTm b c) (cmpTm a c)
  | .mk o n s a, .mk o' n' s' a', .mk o'' n'' s'' a'' => by
    simp only [cmpTm, first4]
    exact (cmpInt_tri _ _ _).lex ((bytes_tri _ _ _).lex ((cmpInt_tri _ _ _).lex (cmpTms_tri a a' a'')))
theorem cmpTms_tri : ∀ (a b c : List Tm), Tri (cmpTms a b) (cmpTms b c) (cmpTms a c)
  | [], [], [] => by simp [cmpTms, Tri]
  | [], [], _ :: _ => by simp [cmpTms, Tri]
  | [], _ :: _, [] => by simp [cmpTms, Tri]
  | [], _ :: _, _ :: _ => by simp only [cmpTms]; unfold Tri; omega
  | _ :: _, [], [] => by simp [cmpTms, Tri]
  | _ :: _, [], _ :: _ => by simp only [cmpTms]; unfold Tri; omega
  | _ :: _, _ :: _, [] => by simp only [cmpTms]; unfold Tri; omega
  | x :: xs, y :: ys, z :: zs => by
    simp only [cmpTms]
    exact (cmpTm_tri x y z).lex (cmpTms_tri xs ys zs)
end
theorem cmpTm_lt_trans {a b c : Tm} (h1 : cmpTm a b < 0) (h2 : cmpTm b c < 0) : cmpTm a c < 0 := (cmpTm_tri a b c).1.2.1 h1 (by omega)
theorem cmpTm_le_trans {a b c : Tm} (h1 : cmpTm a b <= 0) (h2 : cmpTm b c <= 0) : cmpTm a c <= 0 := (cmpTm_tri a b c).1.1 h1 h2
def Asc (l : List Tm) : Prop := l.Pairwise fun a b => cmpTm a b < 0
theorem Asc.ext {l l' : List Tm} (h : Asc l) (h' : Asc l') (hm : ∀ t, t ∈ l ↔ t ∈ l') : l = l' := by
  induction l generalizing l' with
  | nil =>
    cases l' with
    | nil => rfl
    | cons y ys => exact absurd ((hm y).2 (by simp)) (by simp)
  | cons x xs ih =>
    cases l' with
    | nil => exact absurd ((hm x).1 (by simp)) (by simp)
    | cons y ys =>
      have h1 := List.pairwise_cons.1 h
      have h2 := List.pairwise_cons.1 h'
      have e : x = y := by
        rcases List.mem_cons.1 ((hm x).1 (by simp)) with e | hx
        · exact e
        · rcases List.mem_cons.1 ((hm y).2 (by simp)) with e | hy
          · exact e.symm
          · have a1 := h1.1 y hy
            have a2 := h2.1 x hx
            rw [cmpTm_neg x y] at a2
            omega
      subst e
      refine congrArg (x :: ·) (ih h1.2 h2.2 fun t => ⟨fun ht => ?_, fun ht => ?_⟩)
      · rcases List.mem_cons.1 ((hm t).1 (List.mem_cons_of_mem _ ht)) with e | h3
        · subst e; have := h1.1 t ht; rw [cmpTm_self] at this; omega
        · exact h3
      · rcases List.mem_cons.1 ((hm t).2 (List.mem_cons_of_mem _ ht)) with e | h3
        · subst e; have := h2.1 t ht; rw [cmpTm_self] at this; omega
        · exact h3
def insTm (t : Tm) : List Tm -> List Tm
  | [] => [t]
  | x :: xs => if cmpTm x t < 0 then x :: insTm t xs else if cmpTm x t = 0 then x :: xs else t :: x :: xs
theorem mem_insTm {t u : Tm} : ∀ {l : List Tm}, u ∈ insTm t l ↔ u = t ∨ u ∈ l
  | [] => by simp [insTm]
  | x :: xs => by
    simp only [insTm]
    split
    · simp only [List.mem_cons, mem_insTm (l := xs)]
      constructor
      · rintro (h | h | h) <;> simp [h]
      · rintro (h | h | h) <;> simp [h]
    · split
      · rename_i h0
        have e := cmpTm_zero h0
        simp only [List.mem_cons]
        constructor
        · exact fun h => .inr h
        · rintro (h | h)
          · exact .inl (by rw [h, e])
          · exact h
      · simp only [List.mem_cons]
theorem Asc.ins {t : Tm} : ∀ {l : List Tm}, Asc l -> Asc (insTm t l)
  | [], _ => by simp [insTm, Asc]
  | x :: xs, h => by
    have h1 := List.pairwise_cons.1 h
    simp only [insTm]
    split
    · rename_i hx
      refine List.pairwise_cons.2 ⟨fun u hu => ?_, Asc.ins h1.2⟩
      rcases mem_insTm.1 hu with e | hu
      · rw [e]; exact hx
      · exact h1.1 u hu
    · split
      · exact h
      · rename_i h2 h3
        have h4 : cmpTm t x < 0 := by rw [cmpTm_neg x t]; omega
        refine List.pairwise_cons.2 ⟨fun u hu => ?_, h⟩
        rcases List.mem_cons.1 hu with e | hu
        · rw [e]; exact h4
        · exact cmpTm_lt_trans h4 (h1.1 u hu)
def distTm (l : List Tm) : List Tm := l.foldl (fun r t => insTm t r) []
theorem foldl_ins {l r : List Tm} (h : Asc r) : Asc (l.foldl (fun r t => insTm t r) r) ∧ ∀ u, u ∈ l.foldl (fun r t => insTm t r) r ↔ u ∈ l ∨ u ∈ r := by
  induction l generalizing r with
  | nil => exact ⟨h, fun u => by simp⟩
  | cons x xs ih =>
    have := ih (r := insTm x r) h.ins
    refine ⟨this.1, fun u => ?_⟩
    rw [List.foldl_cons, this.2, mem_insTm, List.mem_cons]
    constructor
    · rintro (h | h | h)
      · exact .inl (.inr h)
      · exact .inl (.inl h)
      · exact .inr h
    · rintro ((h | h) | h)
      · exact .inr (.inl h)
      · exact .inl h
      · exact .inr (.inr h)
theorem distTm_asc (l : List Tm) : Asc (distTm l) := (foldl_ins List.Pairwise.nil).1
theorem mem_distTm {l : List Tm} {u : Tm} : u ∈ distTm l ↔ u ∈ l := by
  have := (foldl_ins (l := l) (r := []) List.Pairwise.nil).2 u
  simpa [distTm] using this
theorem distTm_eq {l l' : List Tm} (h : Asc l') (hm : ∀ t, t ∈ l' ↔ t ∈ l) : distTm l = l' := (distTm_asc l).ext h fun t => mem_distTm.trans (hm t).symm
mutual
def varsTm : Tm -> List Tm
  | .mk op nm so args => if op = -1 then [.mk (-1) nm so []] else varsTms args
def varsTms : List Tm -> List Tm
  | [] => []
  | t :: ts => varsTm t ++ varsTms ts
end
def varsOf (t : Tm) : List Tm := distTm (varsTm t)
end Go.Proofs.YtkekkmpogmlopaaGreat
namespace Go.Proofs.YtkekkmpogmlopaaGreat
open Go.RowKit
mutual
def leftTm : Tm -> Int -> Int
  | .mk _ _ _ args, l => leftTms args (l - 1)
def leftTms : List Tm -> Int -> Int
  | [], l => l
  | t :: ts, l => if 0 <= l then leftTms ts (leftTm t l) else l
end
theorem leftTms_u : ∀ l, leftTms [] l = l := fun _ => by rw [leftTms]
mutual
theorem leftTm_spec : ∀ (t : Tm) (l : Int), 0 <= l -> (-1 <= leftTm t l ∧ leftTm t l <= l ∧ ((sizeTm t : Int) <= l -> leftTm t l = l - sizeTm t) ∧ (l < sizeTm t -> leftTm t l < 0))
  | .mk _ _ _ args, l, hl => by
    have := leftTms_spec args (l - 1) (by omega)
    simp only [leftTm, sizeTm]
    refine ⟨this.1, by omega, fun h => ?_, fun h => ?_⟩
    · have := this.2.2.1 (by omega); omega
    · by_cases h1 : 0 <= l - 1
      · exact this.2.2.2 (by omega)
      · have h2 := this.2.1; omega
theorem leftTms_spec : ∀ (ts : List Tm) (l : Int), -1 <= l -> (-1 <= leftTms ts l ∧ leftTms ts l <= l ∧ ((sizeTms ts : Int) <= l -> leftTms ts l = l - sizeTms ts) ∧ (l < sizeTms ts -> leftTms ts l < 0))
  | [], l, hl => by simp only [leftTms, sizeTms]; omega
  | t :: ts, l, hl => by
    simp only [leftTms, sizeTms]
    by_cases h0 : 0 <= l
    · rw [if_pos h0]
      have h1 := leftTm_spec t l h0
      have h2 := leftTms_spec ts (leftTm t l) h1.1
      refine ⟨h2.1, by omega, fun h => ?_, fun h => ?_⟩
      · have e1 := h1.2.2.1 (by omega)
        have e2 := h2.2.2.1 (by omega)
        omega
      · by_cases h3 : (sizeTm t : Int) <= l
        · have e1 := h1.2.2.1 h3
          exact h2.2.2.2 (by omega)
        · have e1 := h1.2.2.2 (by omega)
          omega
    · rw [if_neg h0]
      have := sizeTms_len ts
      refine ⟨hl, Int.le_refl _, fun h => by omega, fun h => by omega⟩
end
theorem leftTms_neg {ts : List Tm} {l : Int} (h : ¬ 0 <= l) : leftTms ts l = l := by
  cases ts with
  | nil => rfl
  | cons t ts => simp only [leftTms, if_neg h]
theorem leftTms_app : ∀ (a b : List Tm) (l : Int), leftTms (a ++ b) l = leftTms b (leftTms a l)
  | [], b, l => rfl
  | t :: ts, b, l => by
    simp only [List.cons_append, leftTms]
    by_cases h : 0 <= l
    · rw [if_pos h, if_pos h, leftTms_app]
    · rw [if_neg h, if_neg h, leftTms_neg h]
theorem leftTms_snoc {ts : List Tm} {i : Nat} {t : Tm} {l : Int} (h : ts[i]? = some t) (h0 : 0 <= leftTms (ts.take i) l) : leftTms (ts.take (i + 1)) l = leftTm t (leftTms (ts.take i) l) := by
  rw [take_snoc h, leftTms_app]
  simp only [leftTms, if_pos h0]
theorem leftTms_stop {ts : List Tm} {i : Nat} {l : Int} (h0 : ¬ 0 <= leftTms (ts.take i) l) : leftTms ts l = leftTms (ts.take i) l := by
  conv => lhs; rw [<- List.take_append_drop i ts]
  rw [leftTms_app, leftTms_neg h0]
theorem leftTm_eq (t : Tm) (l : Int) : leftTm t l = leftTms t.args (l - 1) := by cases t; simp only [leftTm, Tm.args]
set_option maxHeartbeats 4000000 in
set_option maxRecDepth 100000 in
theorem con_l6Left_all : ∀ (n : Nat) (t : Tm) (l : Int), sizeTm t < n -> sizeTm t <= big -> 0 <= l -> l <= 60 -> Con e0 134 [.agg (encTm t), .one (.lit (.int .i64 l))] [.one (.lit (.int .i64 (leftTm t l)))] := by
  intro n
  induction n with
  | zero => intro t l h; omega
  | succ n ih =>
    intro t l hn hb hl0 hl1
    have hsz := sizeTm_eq t
    have hal := sizeTms_len t.args
    unfold big at hb
    have hw : IntKind.i64.wrap (l - 1) = l - 1 := wrapN rfl (by omega) (by omega)
    rw [leftTm_eq]
    refine gI 65591 Tryz.func134 ?_
    (have F := ai @tmz @hw; refine gG ?_; clear F)
    (have F := @leftTms_u; refine gL (ι := Nat) [1, 5, 16] [] (fun i => [(5, A.d (.one (.lit (.int .i64 i)))), (1, A.d (.one (.lit (.int .i64 (leftTms (t.args.take i) (l - 1))))))]) (fun i => []) (fun i => i <= t.args.length) (fun i => t.args.length - i) (0) (by omega) (fun i hi => ?_); clear F)
    have hsp := leftTms_spec (t.args.take i) (l - 1) (by omega)
    by_cases hl : i < t.args.length
    rotate_left
    · have hl' : ¬ ((i : Int) < (t.args.length : Int)) := by omega
      have e : t.args.take i = t.args := List.take_of_length_le (by omega)
      (have F := ai @hl' (ai @e @tmz); refine gG ?_; exact gT)
    have hl' : (i : Int) < (t.args.length : Int) := by omega
    by_cases h0 : 0 <= leftTms (t.args.take i) (l - 1)
    rotate_left
    · have e := leftTms_stop h0
      (have F := ai @hl' (ai @h0 (ai @e @tmz)); refine gG ?_; exact gT)
    obtain ⟨a, ha⟩ : ∃ a, t.args[i]? = some a := ⟨_, List.getElem?_eq_getElem hl⟩
    have hm := sizeTms_mem (List.mem_of_getElem? ha)
    have hw1 := wrap1 (k := i) (by omega)
    have hs := leftTms_snoc ha h0
    (have F := ai @hl' (ai @h0 (ai @tmz @ha)); refine gG ?_; clear F)
    refine gB ?_
    (have F := ai @tmz @ha; refine gC (ih a _ (by omega) (by unfold big; omega) h0 (by omega)) ?_; clear F)
    (have F := @tmz; refine gR ?_; clear F)
    (have F := ai @hw1 (ai @hs @tmz); refine gG ?_; exact ⟨i + 1, by omega, gw, gw, by omega⟩)
theorem small_iff {t : Tm} : 0 <= leftTm t 60 ↔ sizeTm t <= 60 := by
  have := leftTm_spec t 60 (by omega)
  by_cases h : sizeTm t <= 60
  · have := this.2.2.1 (by omega); omega
  · have := this.2.2.2 (by omega); omega
set_option maxHeartbeats 4000000 in
set_option maxRecDepth 100000 in
theorem con_l6Small {t : Tm} (hb : sizeTm t <= big) : Con e0 78 [.agg (encTm t)] [.one (.lit (.bool (decide (sizeTm t <= 60 ∧ depthTm t <= 20))))] := by
  refine gI 7 Tryz.func78 ?_
  (have F := @tmz; refine gG ?_; clear F)
  refine gB ?_
  (have F := @tmz; refine gC (con_l6Left_all _ t 60 (Nat.lt_succ_self _) hb (by omega) (by omega)) ?_; clear F)
  by_cases h1 : sizeTm t <= 60
  rotate_left
  · have h1' : ¬ (0 <= leftTm t 60) := fun h => h1 (small_iff.1 h)
    (have F := ai @tmz @h1'; refine gR ?_; clear F)
    (have F := @h1; refine gG ?_; exact gT)
  have h1' : (0 <= leftTm t 60) := small_iff.2 h1
  (have F := ai @tmz @h1'; refine gC (con_specDepth hb) ?_; clear F)
  by_cases h2 : depthTm t <= 20
  · have h2' : ((depthTm t : Int) <= 20) := by omega
    (have F := ai @tmz @h2'; refine gR ?_; clear F)
    (have F := ai @h1 @h2; refine gG ?_; exact gT)
  · have h2' : ¬ ((depthTm t : Int) <= 20) := by omega
    (have F := ai @tmz @h2'; refine gR ?_; clear F)
    (have F := ai @h1 @h2; refine gG ?_; exact gT)
section
variable {g : Sgn}
open Classical in
noncomputable def isNode (g : Sgn) (t : Tm) : Bool := decide (NodeOk g t)
theorem isNode_true {t : Tm} (h : NodeOk g t) : isNode g t = true := by simp [isNode, h]
theorem isNode_false {t : Tm} (h : ¬ NodeOk g t) : isNode g t = false := by simp [isNode, h]
theorem isNode_iff {t : Tm} : isNode g t = true ↔ NodeOk g t := by simp [isNode]
set_option maxHeartbeats 4000000 in
set_option maxRecDepth 100000 in
theorem con_l6Node (hg : SgnOk g) {t : Tm} (hok : okTm t) (hb : sizeTm t <= big) : Con e0 136 [.agg (encSgn g), .agg (encTm t)] [.one (.lit (.bool (isNode g t)))] := by
  have hno : ¬ NodeOk g t -> isNode g t = false := isNode_false
  obtain ⟨k1, k2, k3, k4⟩ := okTm_iff.1 hok
  have hsz := sizeTm_eq t
  have hal := sizeTms_len t.args
  have hn8 := hg.sorts.n8
  have hn1 := hg.sorts.n1
  have hln := hg.len
  unfold big at hb
  have hwn : IntKind.i64.wrap ((g.sorts.names.length : Int) - 1) = (g.sorts.names.length : Int) - 1 := wrapN rfl (by omega) (by omega)
  have hwo : IntKind.i64.wrap ((g.ops.length : Int) - 1) = (g.ops.length : Int) - 1 := wrapN rfl (by omega) (by omega)
  refine gI 9444733036108034605695 Tryz.func136 ?_
  by_cases h1 : t.op = -1
  · have hV : NodeOk g t -> VarOk g t := fun h => by
      rcases h with h | ⟨o, d, h⟩
      · exact h
      · exact absurd h1 h.op
    (have F := ai @tmz (ai @encSgn_u @h1); refine gG ?_; clear F)
    refine gB ?_
    (have F := @tmz; refine gC (con_specName k2) ?_; clear F)
    by_cases h2 : isName t.name = true
    rotate_left
    · have h2' : isName t.name = false := by simpa using h2
      have hf := hno fun h => h2 (hV h).2.1
      (have F := ai @tmz @h2'; refine gR ?_; clear F)
      (have F := @hf; refine gG ?_; exact gT)
    (have F := ai @tmz (ai @h2 @hwn); refine gC (con_l1In _ _ _) ?_; clear F)
    by_cases h3 : 0 <= t.sort ∧ t.sort < g.sorts.names.length
    rotate_left
    · have h3' : decide (0 <= t.sort ∧ t.sort <= (g.sorts.names.length : Int) - 1) = false := by simp only [decide_eq_false_iff_not]; omega
      have hf := hno fun h => h3 ⟨(hV h).2.2.1, (hV h).2.2.2.1⟩
      (have F := ai @tmz @h3'; refine gR ?_; clear F)
      (have F := @hf; refine gG ?_; exact gT)
    have h3' : decide (0 <= t.sort ∧ t.sort <= (g.sorts.names.length : Int) - 1) = true := by simp only [decide_eq_true_eq]; omega
    by_cases h4 : t.args = []
    · have hT := isNode_true (g := g) (.inl ⟨h1, h2, h3.1, h3.2, h4⟩)
      (have F := ai @tmz (ai @h3' @h4); refine gR ?_; clear F)
      (have F := @hT; refine gG ?_; exact gT)
    · have hf := hno fun h => h4 (hV h).2.2.2.2
      have h4' : ¬ ((t.args.length : Int) = 0) := by
        intro h; apply h4; apply List.eq_nil_of_length_eq_zero; omega
      (have F := ai @tmz (ai @h3' @h4'); refine gR ?_; clear F)
      (have F := @hf; refine gG ?_; exact gT)
  (have F := ai @tmz (ai @encSgn_u @h1); refine gG ?_; clear F)
  refine gB ?_
  (have F := ai @tmz @hwo; refine gC (con_l1In _ _ _) ?_; clear F)
  by_cases h2 : 0 <= t.op ∧ t.op < g.ops.length
  rotate_left
  · have h2' : decide (0 <= t.op ∧ t.op <= (g.ops.length : Int) - 1) = false := by simp only [decide_eq_false_iff_not]; omega
    have hf := hno fun h => by
      obtain ⟨o, d, h⟩ := h.app h1
      have := (List.getElem?_eq_some_iff.1 h.at').1
      have := h.lo
      omega
    (have F := ai @tmz @h2'; refine gR ?_; clear F)
    (have F := @hf; refine gG ?_; exact gT)
  have h2' : decide (0 <= t.op ∧ t.op <= (g.ops.length : Int) - 1) = true := by simp only [decide_eq_true_eq]; omega
  by_cases h4 : t.name = ByteArray.empty
  rotate_left
  · have hf := hno fun h => by
      obtain ⟨o, d, h⟩ := h.app h1
      exact h4 h.nm
    (have F := ai @tmz (ai @h2' (ai @str_emp @h4)); refine gR ?_; clear F)
    (have F := @hf; refine gG ?_; exact gT)
  by_cases h5 : t.sort = 0
  rotate_left
  · have hf := hno fun h => by
      obtain ⟨o, d, h⟩ := h.app h1
      exact h5 h.so
    (have F := ai @tmz (ai @h2' (ai @str_emp (ai @h4 @h5))); refine gR ?_; clear F)
    (have F := @hf; refine gG ?_; exact gT)
  have h0 := h2.1
  obtain ⟨o, ho⟩ : ∃ o, g.ops[t.op.toNat]? = some o := ⟨_, List.getElem?_eq_getElem (by omega)⟩
  obtain ⟨d, hd, hr0, hr1, hargs⟩ := hg.first ho
  have hgt : NodeOk g t -> AppOk g t o d := fun h => by
    obtain ⟨o', d', h⟩ := h.app h1
    have e1 := h.at'
    rw [ho] at e1
    injection e1 with e1
    subst e1
    have e2 := h.fst
    rw [hd] at e2
    injection e2 with e2
    subst e2
    exact h
  have cA := con_l4Arity hd
  rw [encOpr] at cA
  (have F := ai @tmz (ai @h2' (ai @str_emp (ai @h4 @h5))); refine gR ?_; clear F)
  (have F := ai @tmz (ai @h0 (ai @ho @encOpr_u)); refine gG ?_; clear F)
  cases ha : o.assoc with
  | false =>
    rw [ha] at cA
    refine gB ?_
    (have F := ai @tmz @ha; refine gC (cA) ?_; clear F)
    by_cases c : t.args.length = d.args.length
    · have hT := isNode_true (g := g) (.inr ⟨o, d, h0, ho, hd, h4, h5, fun h => (by rw [ha] at h; cases h), fun _ => c⟩)
      have c' : ((t.args.length : Int) = (d.args.length : Int)) := by omega
      (have F := ai @tmz (ai @c' @ha); refine gR ?_; clear F)
      (have F := @hT; refine gG ?_; exact gT)
    · have hf := hno fun h => c ((hgt h).nas ha)
      have c' : ¬ ((t.args.length : Int) = (d.args.length : Int)) := by omega
      (have F := ai @tmz (ai @c' @ha); refine gR ?_; clear F)
      (have F := @hf; refine gG ?_; exact gT)
  | true =>
    refine gB ?_
    (have F := ai @tmz @ha; refine gC (con_l1In _ _ _) ?_; clear F)
    by_cases c : 2 <= t.args.length ∧ t.args.length <= 7
    · have hT := isNode_true (g := g) (.inr ⟨o, d, h0, ho, hd, h4, h5, fun _ => c, fun h => (by rw [ha] at h; cases h)⟩)
      have c' : decide ((2 : Int) <= (t.args.length : Int) ∧ (t.args.length : Int) <= 7) = true := by simp only [decide_eq_true_eq]; omega
      (have F := ai @tmz (ai @c' @ha); refine gR ?_; clear F)
      (have F := @hT; refine gG ?_; exact gT)
    · have hf := hno fun h => c ((hgt h).asc ha)
      have c' : decide ((2 : Int) <= (t.args.length : Int) ∧ (t.args.length : Int) <= 7) = false := by simp only [decide_eq_false_iff_not]; omega
      (have F := ai @tmz (ai @c' @ha); refine gR ?_; clear F)
      (have F := @hf; refine gG ?_; exact gT)
end
end Go.Proofs.YtkekkmpogmlopaaGreat
