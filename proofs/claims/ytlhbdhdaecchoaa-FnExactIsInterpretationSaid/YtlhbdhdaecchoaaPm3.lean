/-
  The plain machine is sound: each operation that changes no memory gives what popV says. No function of the program is named here.
-/
import Derived.Test.YtlhbdhdaecchoaaPm2
set_option linter.unusedSimpArgs false
set_option linter.unusedVariables false
namespace Go.Proofs.Ytlhbdhdaecchoaa
open Go.RowKit

theorem binV_run {P : Program} {op : BinOp} {t : TypeId} {x y : Operand} {a b v : Value} (h : binV op a b = some v) (w : World) :
    ((do eqGuard op t x y a b; binOp op t a b : Sem Value)).run P w = .ok v w := by
  unfold binV at h
  split at h <;> first
    | (cases h; done)
    | (injection h with h; subst h; simp [eqGuard, binOp, Go.Op.intArith, Go.Op.intCmp, Go.Op.stringOp, Result.andThen, bne]; done)
    | (injection h with h; subst h; simp [eqGuard, binOp, Go.Op.intArith, Go.Op.intCmp, Go.Op.stringOp, Result.andThen, bne]; rfl)
theorem binT_run {P : Program} {op : BinOp} {t : TypeId} {x y : Operand} {a b v : Value} (h : binT P op t a b = some v) (w : World) :
    ((do eqGuard op t x y a b; binOp op t a b : Sem Value)).run P w = .ok v w := by
  unfold binT at h
  split at h
  · unfold boolT at h
    split at h
    · rename_i hu; injection h with h; subst h
      simp [eqGuard, binOp, run_equal_bool _ _ _ _ hu, Result.andThen]
    · cases h
  · unfold boolT at h
    split at h
    · rename_i hu; injection h with h; subst h
      simp [eqGuard, binOp, run_equal_bool _ _ _ _ hu, Result.andThen]
    · cases h
  · exact binV_run h w
theorem unV_run {P : Program} {op : UnOp} {a v : Value} (h : unV op a = some v) (w : World) : (Go.Op.unary op a).run P w = .ok v w := by
  unfold unV at h
  split at h <;> first
    | (cases h; done)
    | (injection h with h; subst h; simp [Go.Op.unary, Go.Op.intArith])

section
variable {e : Env} {base : Nat} {S0 : Nat → Prop} {m : List (Nat × List C)} {o : Oper} {ρ : Operand → A}
theorem DsRel_of {w : World} {S : Nat → Prop} {B : Nat → Nat} {ρv : Operand → Value} : ∀ {l : List Operand} {xs : List D}, dsA (l.map ρ) = some xs → (∀ x ∈ l, ARel w S B (ρ x) (ρv x)) → DsRel w S xs (l.map ρv)
  | [], xs, h, _ => by simp [dsA] at h; subst h; simp [DsRel]
  | x :: l, xs, h, hr => by
    simp only [List.map_cons] at h ⊢
    have h0 := hr x (by simp)
    cases hx : ρ x with
    | d y =>
      rw [hx] at h h0
      simp only [dsA, Option.map_eq_some_iff] at h
      obtain ⟨ys, h1, h2⟩ := h
      subst h2
      simp only [DsRel]
      exact ⟨h0, DsRel_of h1 (fun z hz => hr z (by simp [hz]))⟩
    | undef => rw [hx] at h; simp [dsA] at h
    | no => rw [hx] at h; simp [dsA] at h
    | tup ys => rw [hx] at h; simp [dsA] at h
    | ref k off => rw [hx] at h; simp [dsA] at h

theorem fieldAt_run {P : Program} {t : TypeId} {f n : Nat} {ft : TypeId} (h : offT P t f = some (n, ft)) (b off : Nat) (w : World) : (Instr.fieldAt t (.pointer (some ⟨b, off, none⟩)) f).run P w = .ok (.pointer (some ⟨b, off + n, none⟩)) w := by
  unfold offT at h
  split at h
  · rename_i fs hu
    split at h
    · rename_i g hg
      split at h
      · rename_i i hi
        split at h
        · cases h
        · rename_i hz
          injection h with h
          injection h with h1 h2
          subst h1 h2
          simp [Instr.fieldAt, underlying, hu, hg, Instr.sureAddr, fieldPlace, sizeOf, typeInfo, hi, hz, Addr.add_at, Result.andThen]
      · cases h
    · cases h
  · cases h
theorem part_run {P : Program} {w : World} {S : Nat → Prop} {Bm : Nat → Nat} {t : TypeId} {k : TK} {n : Nat} {cs : List C} {vs : List Value} {α : A} (hk : kindT P t = some k) (hr : RepVals w S cs vs) (hv : valT k (cs.drop n) = some α) :
    ∃ v, (part t vs.toArray n).run P w = .ok v w ∧ ARel w S Bm α v := by
  unfold kindT at hk
  cases hu : P.underlying t with
  | none => rw [hu] at hk; simp at hk
  | some d =>
    cases hi : P.info? t with
    | none => rw [hu, hi] at hk; simp at hk
    | some i =>
      rw [hu, hi] at hk
      simp only at hk
      have hrd := hr.drop n
      cases hd : isAggD d with
      | true =>
        rw [hd] at hk
        simp only [if_true, Option.some.injEq] at hk
        subst hk
        simp only [valT] at hv
        split at hv
        · injection hv with hv
          subst hv
          refine ⟨.agg ((vs.drop n).take i.size).toArray, ?_, _, rfl, hrd.take i.size⟩
          have e1 : vs.toArray.extract n (n + i.size) = ((vs.drop n).take i.size).toArray := by
            simp [List.extract_toArray, List.extract_eq_take_drop]
          cases d <;> simp [isAggD] at hd <;> simp [part, isAgg, underlying, hu, sizeOf, typeInfo, hi, e1, Result.andThen]
        · cases hv
      | false =>
        rw [hd] at hk
        simp only [Bool.false_eq_true, if_false] at hk
        split at hk
        · injection hk with hk
          subst hk
          cases hcs : cs.drop n with
          | nil => rw [hcs] at hv; simp [valT] at hv
          | cons c cs' =>
            rw [hcs] at hv hrd
            simp only [valT, Option.some.injEq] at hv
            subst hv
            cases hvs : vs.drop n with
            | nil => rw [hvs] at hrd; simp [RepVals] at hrd
            | cons u us =>
              rw [hvs] at hrd
              simp only [RepVals] at hrd
              have hu' : vs[n]? = some u := by
                have : (vs.drop n)[0]? = some u := by rw [hvs]; rfl
                simpa using this
              refine ⟨u, ?_, hrd.1⟩
              cases d <;> simp [isAggD] at hd <;> simp [part, isAgg, underlying, hu, hu', Result.andThen]
        · cases hk

theorem indexAt_run {P : Program} {w : World} {S : Nat → Prop} {Bm : Nat → Nat} {t : TypeId} {n : Nat} {rows : List (List C)} {k : IntKind} {j : Int} {r : List C} {u : Value} (h : elemT P t = some n) (hj : 0 ≤ j) (hl : rowsLen n rows) (hr : rows[j.toNat]? = some r) (hv : Rep w S (.sl rows) u) :
    ∃ v, (Instr.indexAt t u (.int k j)).run P w = .ok v w ∧ ARel w S Bm (.d (.elt r)) v := by
  unfold elemT at h
  split at h
  · rename_i el hu
    simp only [Option.map_eq_some_iff] at h
    obtain ⟨i, hi, hn⟩ := h
    simp only [Rep] at hv
    obtain ⟨A, len, cap, rfl, hlen, _, _, h4⟩ := hv
    have hjl : j.toNat < rows.length := (List.getElem?_eq_some_iff.1 hr).1
    obtain ⟨b, off, rfl, hs, hb, hrows⟩ := h4 (by omega)
    have hrow := RepRows.get rows off j.toNat r hl hrows hr
    refine ⟨.pointer (some ⟨b, off + j.toNat * n, none⟩), ?_, b, _, rfl, hs, hb, hrow⟩
    have hlt : j < (len : Int) := by omega
    simp [Instr.indexAt, asIntOf, underlying, hu, sizeOf, typeInfo, hi, hn, Addr.add_at, hj, hlt, Result.andThen]
  · cases h

theorem popV_sound (he : e.Ok) {K : A → Prop} (h : popV e m ρ K o.op) (hf : ∀ f, ρ (.func f) = .d (.one (.lit (.func (.func f) #[] #[])))) : ∃ α, K α ∧ GivesA e base S0 m o ρ α := by
  cases ho : o.op <;> rw [ho] at h <;> simp only [popV] at h
  case move x => exact ⟨_, h, givesA_pure fun w S B ρv hC hr => ⟨ρv x, by simp [execOp, ho], hr x (by simp [ho, Op.operands])⟩⟩
  case assign x => exact ⟨_, h, givesA_pure fun w S B ρv hC hr => ⟨ρv x, by simp [execOp, ho], hr x (by simp [ho, Op.operands])⟩⟩
  case pick c a b =>
    split at h
    · rename_i t hc
      refine ⟨_, h, givesA_pure fun w S B ρv hC hr => ?_⟩
      have h1 := hr c (by simp [ho, Op.operands])
      rw [hc] at h1
      have h1 : ρv c = .bool t := by simpa [ARel, DRel, Rep] using h1
      cases t
      · exact ⟨ρv b, by simp [execOp, ho, h1, asBool], by simpa using hr b (by simp [ho, Op.operands])⟩
      · exact ⟨ρv a, by simp [execOp, ho, h1, asBool], by simpa using hr a (by simp [ho, Op.operands])⟩
    · exact h.elim
  case load t x =>
    split at h
    · rename_i k cs hk hp
      split at h
      · rename_i r hv
        refine ⟨r, h, givesA_pure fun w S B ρv hC hr => ?_⟩
        have h1 := hr x (by simp [ho, Op.operands])
        unfold ptrA at hp
        split at hp
        · rename_i cs' hx
          injection hp with hp
          subst hp
          rw [hx] at h1
          obtain ⟨b, off, hv', hs, hb, hrow⟩ := h1
          obtain ⟨v, h2, h3⟩ := load_at (Bm := B) hk hrow hv
          exact ⟨v, by simp [execOp, ho, hv', h2], h3⟩
        · rename_i k' off hx
          rw [Option.map_eq_some_iff] at hp
          obtain ⟨cs', h2, h3⟩ := hp
          rw [hx] at h1
          obtain ⟨_, _, _, _, h7⟩ := hC.own k' cs' h2
          have h8 := h7.drop off
          rw [h3, Nat.zero_add] at h8
          obtain ⟨v, h9, h10⟩ := load_at (Bm := B) hk h8 hv
          have h1 : ρv x = .pointer (some ⟨B k', off, none⟩) := h1
          exact ⟨v, by simp [execOp, ho, h1, h9], h10⟩
        · cases hp
      · exact h.elim
    · exact h.elim
  case fieldAddr t x f =>
    split at h
    · rename_i n ft cs hk hx
      refine ⟨_, h, givesA_pure fun w S B ρv hC hr => ?_⟩
      have h1 := hr x (by simp [ho, Op.operands])
      rw [hx] at h1
      obtain ⟨b, off, hv', hs, hb, hrow⟩ := h1
      exact ⟨_, by simp [execOp, ho, hv', fieldAt_run hk], b, off + n, rfl, hs, hb, hrow.drop n⟩
    · rename_i n ft k off hk hx
      refine ⟨_, h, givesA_pure fun w S B ρv hC hr => ?_⟩
      have h1 := hr x (by simp [ho, Op.operands])
      rw [hx] at h1
      have h1 : ρv x = .pointer (some ⟨B k, off, none⟩) := h1
      exact ⟨_, by simp [execOp, ho, h1, fieldAt_run hk], rfl⟩
    · exact h.elim
  case field t x f =>
    split at h
    · rename_i n ft cs hk hx
      split at h
      · rename_i k hk2
        split at h
        · rename_i r hv
          refine ⟨_, h, givesA_pure fun w S B ρv hC hr => ?_⟩
          have h1 := hr x (by simp [ho, Op.operands])
          rw [hx] at h1
          obtain ⟨vs, hv', hrow⟩ := h1
          obtain ⟨v, h2, h3⟩ := part_run (Bm := B) hk2 hrow hv
          unfold offT at hk
          split at hk
          · rename_i fs hu
            split at hk
            · rename_i g hg
              split at hk
              · split at hk
                · cases hk
                · injection hk with hk
                  injection hk with e1 e2
                  subst e1 e2
                  exact ⟨v, by simp [execOp, ho, hv', Instr.field, underlying, hu, hg, asAgg, h2, Result.andThen], h3⟩
              · cases hk
            · cases hk
          · cases hk
        · exact h.elim
      · exact h.elim
    · exact h.elim
  case indexAddr t x i =>
    split at h
    · rename_i n rows k j hk hx hi
      obtain ⟨h1, h2, r, h3, h4⟩ := h
      refine ⟨_, h4, givesA_pure fun w S B ρv hC hr => ?_⟩
      have hx' := hr x (by simp [ho, Op.operands])
      have hi' := hr i (by simp [ho, Op.operands])
      rw [hx] at hx'
      rw [hi] at hi'
      have hi' : ρv i = .int k j := by simpa [ARel, DRel, Rep] using hi'
      obtain ⟨v, h5, h6⟩ := indexAt_run (Bm := B) (k := k) hk h1 h2 h3 hx'
      exact ⟨v, by simp [execOp, ho, hi', h5], h6⟩
    · exact h.elim
  case index t x i =>
    split at h
    · rename_i s k j hk hx hi
      obtain ⟨h1, b, h3, h4⟩ := h
      refine ⟨_, h4, givesA_pure fun w S B ρv hC hr => ?_⟩
      have hx' := hr x (by simp [ho, Op.operands])
      have hi' := hr i (by simp [ho, Op.operands])
      rw [hx] at hx'
      rw [hi] at hi'
      have hi' : ρv i = .int k j := by simpa [ARel, DRel, Rep] using hi'
      have hx' : ρv x = .string s := by simpa [ARel, DRel, Rep] using hx'
      exact ⟨.int .u8 b.toNat, by simp [execOp, ho, hi', hx', Instr.index, asIntOf, underlying, hk, h1, h3, Result.andThen], by simp [ARel, DRel, Rep]⟩
    · exact h.elim
  case binOp op t x y t' =>
    split at h
    · rename_i a b hx hy
      split at h
      · rename_i v hv
        refine ⟨_, h, givesA_pure fun w S B ρv hC hr => ?_⟩
        have hx' := hr x (by simp [ho, Op.operands])
        have hy' := hr y (by simp [ho, Op.operands])
        rw [hx] at hx'
        rw [hy] at hy'
        have hx' : ρv x = a := by simpa [ARel, DRel, Rep] using hx'
        have hy' : ρv y = b := by simpa [ARel, DRel, Rep] using hy'
        have hb := binT_run (P := e.P) (t := t) (x := x) (y := y) hv w
        exact ⟨v, by simp only [execOp, ho, hx', hy']; rw [Sem.run_bind, hb]; rfl, by simp [ARel, DRel, Rep]⟩
      · exact h.elim
    · exact h.elim
  case unOp op t x =>
    split at h
    · rename_i a hx
      split at h
      · rename_i v hv
        refine ⟨_, h, givesA_pure fun w S B ρv hC hr => ?_⟩
        have hx' := hr x (by simp [ho, Op.operands])
        rw [hx] at hx'
        have hx' : ρv x = a := by simpa [ARel, DRel, Rep] using hx'
        exact ⟨v, by simp only [execOp, ho, hx']; rw [Sem.run_bind, unV_run hv]; rfl, by simp [ARel, DRel, Rep]⟩
      · exact h.elim
    · exact h.elim
  case extract x i =>
    split at h
    · rename_i xs hx
      split at h
      · rename_i r hi
        refine ⟨_, h, givesA_pure fun w S B ρv hC hr => ?_⟩
        have hx' := hr x (by simp [ho, Op.operands])
        rw [hx] at hx'
        obtain ⟨vs, hv, hd⟩ := hx'
        obtain ⟨v, h1, h2⟩ := hd.get hi
        exact ⟨v, by simp [execOp, ho, hv, Instr.extract, h1, Result.andThen], h2⟩
      · exact h.elim
    · exact h.elim
  case nilCheck x =>
    split at h
    · rename_i cs hx
      refine ⟨_, h, givesA_pure fun w S B ρv hC hr => ?_⟩
      have hx' := hr x (by simp [ho, Op.operands])
      rw [hx] at hx'
      obtain ⟨b, off, hv, hr'⟩ := hx'
      exact ⟨ρv x, by simp [execOp, ho, hv], b, off, hv, hr'⟩
    · rename_i k off hx
      refine ⟨_, h, givesA_pure fun w S B ρv hC hr => ?_⟩
      have hx' := hr x (by simp [ho, Op.operands])
      rw [hx] at hx'
      have hx' : ρv x = .pointer (some ⟨B k, off, none⟩) := hx'
      exact ⟨ρv x, by simp [execOp, ho, hx'], hx'⟩
    · exact h.elim
  case call c =>
    split at h
    · rename_i f hc
      split at h
      · rename_i xs hxs
        obtain ⟨r, hcon, hK⟩ := h
        refine ⟨_, hK, fun w S B ρv hC hr => ?_⟩
        have hfun := hr (.func f) (by simp [ho, Op.operands, Call.operands, hc])
        rw [hf f] at hfun
        have hfun : ρv (.func f) = .func (.func f) #[] #[] := by simpa [ARel, DRel, Rep] using hfun
        have hds : DsRel w S xs (c.args.toList.map ρv) := DsRel_of hxs (fun x hx => hr x (by simp [ho, Op.operands, Call.operands, hc]; exact .inr (Array.mem_toList_iff.1 hx)))
        obtain ⟨hbody, hcon⟩ := hcon
        have hcl := hcon w S _ hC.sin (fun b hb => Nat.lt_of_lt_of_le (hC.ein b hb) hC.bsz) hC.g hds
        have hrun : (execOp ρv o).run e.P w = .ok (.enter f (c.args.toList.map ρv).toArray) w := by
          have ha : c.args.map ρv = (c.args.toList.map ρv).toArray := by
            apply Array.toList_inj.1
            simp
          unfold hasBody at hbody
          split at hbody
          · rename_i fn hfn
            simp only [Bool.and_eq_true, Bool.not_eq_true'] at hbody
            obtain ⟨hb1, hb2⟩ := hbody
            have hb3 : fn.body.isNone = false := by rw [Option.isNone_eq_false_iff]; exact hb2
            have hb1' : fn.name ≠ "runtime.NumGoroutine" := by simpa using hb1
            have hb3' : fn.body ≠ none := by intro h0; rw [h0] at hb2; cases hb2
            simp only [execOp, ho, resolve, hc, hfun, ha, Deferred.ofValue, invoke, callFunc, Sem.run_bind, Sem.run_pure, Result.andThen_ok, run_program, hfn, hb1, hb3, Bool.false_eq_true, if_false]
            simp
          · cases hbody
        unfold gives
        rw [hrun]
        refine hcl.mono fun en w' ⟨v, h1, h2, h3, h4⟩ => ⟨v, h1, _, fun b hb => .inl hb, hC.later h2 h3 (fun b hb => .inl hb) (fun b hb => hb), h2, ?_⟩
        cases r with
        | nil => exact h4
        | cons y ys =>
          cases ys with
          | nil => exact h4
          | cons z zs => exact h4
      · exact h.elim
    · rename_i hc
      split at h
      · rename_i rows hlt hxs
        refine ⟨_, h, givesA_pure fun w S B ρv hC hr => ?_⟩
        obtain ⟨x, hx1, hx2⟩ := List.map_eq_singleton_iff.1 hxs
        have hx' := hr x (by simp [ho, Op.operands, Call.operands, hc]; rw [← Array.mem_toList_iff, hx1]; simp)
        rw [hx2] at hx'
        have hx' : Rep w S (.sl rows) (ρv x) := hx'
        obtain ⟨A, n, cap, hv, hn, _, _⟩ := hx'.form
        have ha : c.args.map ρv = #[ρv x] := by
          apply Array.toList_inj.1
          simp [hx1]
        unfold lenT at hlt
        split at hlt
        · rename_i t ht
          split at hlt
          · rename_i el hu
            refine ⟨.int .i64 rows.length, ?_, by simp [ARel, DRel, Rep]⟩
            simp [execOp, ho, resolve, hc, invoke, builtin, Builtin.len_, ha, ht, underlying, hu, hv, goInt, hn, Result.andThen]
          · cases hlt
          · cases hlt
        · cases hlt
      · rename_i s hlt hxs
        refine ⟨_, h, givesA_pure fun w S B ρv hC hr => ?_⟩
        obtain ⟨x, hx1, hx2⟩ := List.map_eq_singleton_iff.1 hxs
        have hx' := hr x (by simp [ho, Op.operands, Call.operands, hc]; rw [← Array.mem_toList_iff, hx1]; simp)
        rw [hx2] at hx'
        have hx' : ρv x = .string s := by simpa [ARel, DRel, Rep] using hx'
        have ha : c.args.map ρv = #[ρv x] := by
          apply Array.toList_inj.1
          simp [hx1]
        unfold lenT at hlt
        split at hlt
        · rename_i t ht
          split at hlt
          · cases hlt
          · rename_i hu
            refine ⟨.int .i64 s.size, ?_, by simp [ARel, DRel, Rep]⟩
            simp [execOp, ho, resolve, hc, invoke, builtin, Builtin.len_, ha, ht, underlying, hu, hx', goInt, Result.andThen]
          · cases hlt
        · cases hlt
      · exact h.elim
    · exact h.elim
  all_goals exact h.elim
end
end Go.Proofs.Ytlhbdhdaecchoaa
