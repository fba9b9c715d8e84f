/-
  The plain machine as a function, to be run by rewriting; rules for code. No function of the program is named here.
-/
import Derived.Test.YtlhbdhdaecchoaaPm7
set_option linter.unusedSimpArgs false
set_option linter.unusedVariables false
namespace Go.Proofs.Ytlhbdhdaecchoaa
open Go.RowKit

def pickA (a b : A) : A → Option A
  | .d (.one (.lit (.bool t))) => some (if t then a else b)
  | _ => none
def loadA (k : Option TK) (p : Option (List C)) : Option A :=
  match k, p with
  | some k, some cs => valT k cs
  | _, _ => none
def fieldAddrA (x : A) : Option (Nat × TypeId) → Option A
  | some (n, _) => match x with
    | .d (.elt cs) => some (.d (.elt (cs.drop n)))
    | .ref k off => some (.ref k (off + n))
    | _ => none
  | none => none
def fieldA (P : Program) (x : A) : Option (Nat × TypeId) → Option A
  | some (n, ft) => match x with
    | .d (.agg cs) => loadA (kindT P ft) (some (cs.drop n))
    | _ => none
  | none => none
def rowsB (n : Nat) (rows : List (List C)) : Bool := rows.all (fun r => r.length == n)
def eltA : Option (List C) → Option A
  | some r => some (.d (.elt r))
  | none => none
def indexAddrA (n : Option Nat) (x i : A) : Option A :=
  match n, x, i with
  | some n, .d (.one (.sl rows)), .d (.one (.lit (.int _ j))) => if 0 ≤ j then if rowsB n rows = true then eltA rows[j.toNat]? else none else none
  | _, _, _ => none
def byteA : Option UInt8 → Option A
  | some b => some (.d (.one (.lit (.int .u8 b.toNat))))
  | none => none
def indexA (t : Option TypeDesc) (x i : A) : Option A :=
  match t, x, i with
  | some .string, .d (.one (.lit (.string s))), .d (.one (.lit (.int _ j))) => if 0 ≤ j then byteA s[j.toNat]? else none
  | _, _, _ => none
def litA : Option Value → Option A
  | some v => some (.d (.one (.lit v)))
  | none => none
def binA (P : Program) (t : TypeId) (op : BinOp) (x y : A) : Option A :=
  match x, y with
  | .d (.one (.lit a)), .d (.one (.lit b)) => litA (binT P op t a b)
  | _, _ => none
def unA (op : UnOp) (x : A) : Option A :=
  match x with
  | .d (.one (.lit a)) => litA (unV op a)
  | _ => none
def dA : Option D → Option A
  | some x => some (.d x)
  | none => none
def extractA (i : Nat) : A → Option A
  | .tup xs => dA xs[i]?
  | _ => none
def nilA : A → Option A
  | .d (.elt cs) => some (.d (.elt cs))
  | .ref k off => some (.ref k off)
  | _ => none
def lenA (t : Option Bool) (xs : List A) : Option A :=
  match t, xs with
  | some true, [.d (.one (.sl rows))] => some (.d (.one (.lit (.int .i64 rows.length))))
  | some false, [.d (.one (.lit (.string s)))] => some (.d (.one (.lit (.int .i64 s.size))))
  | _, _ => none
/-- One operation that changes no memory and calls nothing. -/
def stepV (P : Program) (m : List (Nat × List C)) (ρ : Operand → A) : Op → Option A
  | .move x => some (ρ x)
  | .assign x => some (ρ x)
  | .pick c a b => pickA (ρ a) (ρ b) (ρ c)
  | .load t x => loadA (kindT P t) (ptrA m (ρ x))
  | .fieldAddr t x f => fieldAddrA (ρ x) (offT P t f)
  | .field t x f => fieldA P (ρ x) (offT P t f)
  | .indexAddr t x i => indexAddrA (elemT P t) (ρ x) (ρ i)
  | .index t x i => indexA (P.underlying t) (ρ x) (ρ i)
  | .binOp op t x y _ => binA P t op (ρ x) (ρ y)
  | .unOp op _ x => unA op (ρ x)
  | .extract x i => extractA i (ρ x)
  | .nilCheck x => nilA (ρ x)
  | .call ⟨.builtin .len, args, ts⟩ => lenA (lenT P ts) (args.toList.map ρ)
  | _ => none
theorem rowsB_iff {n : Nat} {rows : List (List C)} : rowsB n rows = true ↔ rowsLen n rows := by simp [rowsB, rowsLen]

theorem stepV_popV {e : Env} {m : List (Nat × List C)} {ρ : Operand → A} {K : A → Prop} {op : Op} {α : A} (h : stepV e.P m ρ op = some α) (hK : K α) : popV e m ρ K op := by
  unfold stepV at h
  split at h <;> simp only [popV]
  · injection h with h; subst h; exact hK
  · injection h with h; subst h; exact hK
  · unfold pickA at h; split at h <;> first | (cases h; done) | skip
    rename_i t ht; injection h with h; subst h; rw [ht]; exact hK
  · unfold loadA at h; split at h
    · rename_i k cs hk hp; rw [hk, hp]; simp only [h]; exact hK
    · cases h
  · rename_i t x f
    unfold fieldAddrA at h; split at h
    · rename_i n ft ho
      rw [ho]
      split at h
      · rename_i cs hx; injection h with h; subst h; rw [hx]; exact hK
      · rename_i k off hx; injection h with h; subst h; rw [hx]; exact hK
      · cases h
    · cases h
  · rename_i t x f
    unfold fieldA at h; split at h
    · rename_i n ft ho
      rw [ho]
      split at h
      · rename_i cs hx
        rw [hx]
        unfold loadA at h
        split at h
        · rename_i k cs' hk hp; injection hp with hp; subst hp; simp only [hk, h]; exact hK
        · cases h
      · cases h
    · cases h
  · rename_i t x i
    unfold indexAddrA at h; split at h
    · rename_i n rows k j hn hx hi
      rw [hn, hx, hi]
      split at h
      · rename_i hj
        split at h
        · rename_i hr
          unfold eltA at h
          split at h
          · rename_i r hrow; injection h with h; subst h; exact ⟨hj, rowsB_iff.1 hr, r, hrow, hK⟩
          · cases h
        · cases h
      · cases h
    · cases h
  · rename_i t x i
    unfold indexA at h; split at h
    · rename_i s k j hn hx hi
      rw [hn, hx, hi]
      split at h
      · rename_i hj
        unfold byteA at h
        split at h
        · rename_i b hb; injection h with h; subst h; exact ⟨hj, b, hb, hK⟩
        · cases h
      · cases h
    · cases h
  · rename_i op t x y t'
    unfold binA at h; split at h
    · rename_i a b hx hy
      rw [hx, hy]
      unfold litA at h
      split at h
      · rename_i v hv; injection h with h; subst h; simp only [hv]; exact hK
      · cases h
    · cases h
  · rename_i op t x
    unfold unA at h; split at h
    · rename_i a hx
      rw [hx]
      unfold litA at h
      split at h
      · rename_i v hv; injection h with h; subst h; simp only [hv]; exact hK
      · cases h
    · cases h
  · rename_i x i
    unfold extractA at h; split at h
    · rename_i xs hx
      rw [hx]
      unfold dA at h
      split at h
      · rename_i v hv; injection h with h; subst h; simp only [hv]; exact hK
      · cases h
    · cases h
  · rename_i x
    unfold nilA at h; split at h
    · rename_i cs hx; injection h with h; subst h; rw [hx]; exact hK
    · rename_i k off hx; injection h with h; subst h; rw [hx]; exact hK
    · cases h
  · rename_i args ts
    unfold lenA at h; split at h
    · rename_i rows ht hx; injection h with h; subst h; rw [ht, hx]; exact hK
    · rename_i s ht hx; injection h with h; subst h; rw [ht, hx]; exact hK
    · cases h
  · cases h

def newE (σ : St) (d : Option Nat) (cs : Option (List C)) : Option St :=
  match d, cs with
  | some d, some cs => some ⟨(d, .ref d 0) :: killR d σ.s, (d, cs) :: σ.m⟩
  | _, _ => none
def storeE (σ : St) (d : Option Nat) (x : A) (us : Option (List C)) (n : Option Nat) : Option St :=
  match d, x, us, n with
  | none, .ref k off, some us, some n => match gm σ.m k with
    | some cs => if us.length = n ∧ off + n ≤ cs.length then some ⟨σ.s, (k, cs.take off ++ us ++ cs.drop (off + n)) :: σ.m⟩ else none
    | none => none
  | _, _, _, _ => none
def putE (σ : St) (d : Option Nat) : Option A → Option St
  | some α => some ⟨setA σ.s d α, σ.m⟩
  | none => none
def stepE (P : Program) (σ : St) (d : Option Nat) : Op → Option St
  | .alloc t => newE σ d (zeroT P t)
  | .box _ x => newE σ d (cellsA (evA σ.s x))
  | .store t x y => storeE σ d (evA σ.s x) (cellsA (evA σ.s y)) (sizeT P t)
  | op => putE σ d (stepV P σ.m (evA σ.s) op)
theorem stepE_popE {e : Env} {σ σ' : St} {o : Oper} {K : St → Prop} (h : stepE e.P σ o.dst o.op = some σ') (hK : K σ') : popE e σ o K := by
  unfold popE
  cases ho : o.op <;> rw [ho] at h <;> simp only [stepE] at h ⊢
  case alloc t =>
    unfold newE at h; split at h
    · rename_i d cs hd hz; injection h with h; subst h; simp only [hd, hz]; exact hK
    · cases h
  case box t x =>
    unfold newE at h; split at h
    · rename_i d cs hd hz; injection h with h; subst h; simp only [hd, hz]; exact hK
    · cases h
  case store t x y =>
    unfold storeE at h; split at h
    · rename_i k off us n hd hx hu hn
      simp only [hd, hx, hu, hn]
      split at h
      · rename_i cs hm
        split at h
        · rename_i hc; injection h with h; subst h; simp only [hm]; exact ⟨hc.1, hc.2, hK⟩
        · cases h
      · cases h
    · cases h
  all_goals
    unfold putE at h
    split at h
    · rename_i α hα
      injection h with h
      subst h
      exact stepV_popV hα hK
    · cases h

inductive Res where
  | bad
  | done (σ : St)
  | call (f : FuncId) (xs : List D) (d : Option Nat) (os : List Oper) (σ : St)
def contR (x : Option St) (f : St → Res) : Res :=
  match x with
  | some σ => f σ
  | none => .bad
def callR (f : FuncId) (d : Option Nat) (os : List Oper) (σ : St) : Option (List D) → Res
  | some xs => .call f xs d os σ
  | none => .bad
def skipR (d : Option Nat) (next : St → Res) (σ : St) : Res := next ⟨setA σ.s d .no, σ.m⟩
def pickR (yes no : St → Res) (σ : St) : Bool → Res
  | true => yes σ
  | false => no σ
def guardR (want : Bool) (yes no : St → Res) (σ : St) : Option A → Res
  | some (.d (.one (.lit (.bool b)))) => pickR yes no σ (b == want)
  | some .no => no σ
  | _ => .bad
/-- One operation and what follows. -/
def stepR (P : Program) (d : Option Nat) (os : List Oper) (next : St → Res) : Op → St → Res
  | .call ⟨.value (.func f), args, _⟩, σ => callR f d os σ (dsA (args.toList.map (evA σ.s)))
  | op, σ => contR (stepE P σ d op) next
def runOps (P : Program) (ds : List (Option Nat)) : List Oper → St → Res
  | [], σ => .done σ
  | ⟨d, op, _, _, _, none⟩ :: os, σ => stepR P d os (runOps P ds os) op σ
  | ⟨d, op, _, _, _, some (j, want)⟩ :: os, σ => guardR want (stepR P d os (runOps P ds os) op) (skipR d (runOps P ds os)) σ ((ds[j]?.join).map (gs σ.s))

/-- The operations lead to a state as K says. -/
def Runs (e : Env) (ds : List (Option Nat)) (os : List Oper) (σ : St) (K : St → Prop) : Prop := ∀ ops : List Oper, ops.map (·.dst) = ds → pops e ops os σ K
theorem guardSlot_eq {ops : List Oper} {ds : List (Option Nat)} (h : ops.map (·.dst) = ds) (j : Nat) : guardSlot ops j = ds[j]?.join := by
  subst h
  unfold guardSlot
  simp only [List.getElem?_map]
  cases ops[j]? <;> rfl
/-- What a result of the run asks. -/
def ResQ (e : Env) (ds : List (Option Nat)) (K : St → Prop) : Res → Prop
  | .bad => False
  | .done σ => K σ
  | .call f xs d os σ => ∃ r, Con e f xs r ∧ Runs e ds os ⟨setA σ.s d (retA r), σ.m⟩ K
theorem stepR_sound {e : Env} {ds : List (Option Nat)} {os : List Oper} {K : St → Prop} (ih : ∀ σ, ResQ e ds K (runOps e.P ds os σ) → Runs e ds os σ K) {o : Oper} {σ : St} (h : ResQ e ds K (stepR e.P o.dst os (runOps e.P ds os) o.op σ)) {ops : List Oper} (hd : ops.map (·.dst) = ds) :
    popE e σ o (fun σ' => pops e ops os σ' K) := by
  by_cases hc : ∃ f args ts, o.op = .call ⟨.value (.func f), args, ts⟩
  · obtain ⟨f, args, ts, hc⟩ := hc
    rw [hc] at h
    simp only [stepR] at h
    unfold popE
    rw [hc]
    simp only [popV]
    unfold callR at h
    split at h
    · rename_i xs hxs
      obtain ⟨r, h1, h2⟩ := h
      simp only [hxs]
      exact ⟨r, h1, h2 ops hd⟩
    · exact h.elim
  · have hs : stepR e.P o.dst os (runOps e.P ds os) o.op σ = contR (stepE e.P σ o.dst o.op) (runOps e.P ds os) := by
      unfold stepR
      split
      · rename_i f args ts heq; exact absurd ⟨f, args, ts, heq⟩ hc
      · rfl
    rw [hs] at h
    unfold contR at h
    split at h
    · rename_i σ' hσ
      exact stepE_popE hσ (ih σ' h ops hd)
    · exact h.elim
theorem runs_of {e : Env} {ds : List (Option Nat)} {K : St → Prop} : ∀ (os : List Oper) (σ : St), ResQ e ds K (runOps e.P ds os σ) → Runs e ds os σ K
  | [], σ, h => fun ops _ => h
  | ⟨d, op, ty, pos, aft, none⟩ :: os, σ, h => fun ops hd => by
    simp only [runOps] at h
    simp only [pops]
    exact stepR_sound (o := ⟨d, op, ty, pos, aft, none⟩) (runs_of os) h hd
  | ⟨d, op, ty, pos, aft, some (j, want)⟩ :: os, σ, h => fun ops hd => by
    simp only [runOps] at h
    simp only [pops, guardSlot_eq hd]
    unfold guardR at h
    split at h
    · rename_i b hb
      rw [hb]
      simp only
      unfold pickR at h
      split at h
      · rename_i hbw
        rw [if_pos (by simpa using hbw)]
        exact stepR_sound (o := ⟨d, op, ty, pos, aft, some (j, want)⟩) (runs_of os) h hd
      · rename_i hbw
        rw [if_neg (by simpa using hbw)]
        exact runs_of os _ h ops hd
    · rename_i hb
      rw [hb]
      exact runs_of os _ h ops hd
    · exact h.elim

section
variable {e : Env} {mask : Nat} {σ : St} {Q : PX → St → Prop}
theorem runs_done {ds : List (Option Nat)} {K : St → Prop} {os : List Oper} {σ' : St} (h : runOps e.P ds os σ = .done σ') (hK : K σ') : Runs e ds os σ K := runs_of os σ (by rw [h]; exact hK)
theorem runs_call {ds : List (Option Nat)} {K : St → Prop} {os os' : List Oper} {σ' : St} {f : FuncId} {xs : List D} {d : Option Nat} (r : List D) (h : runOps e.P ds os σ = .call f xs d os' σ') (hc : Con e f xs r) (hK : Runs e ds os' ⟨setA σ'.s d (retA r), σ'.m⟩ K) : Runs e ds os σ K :=
  runs_of os σ (by rw [h]; exact ⟨r, hc, hK⟩)
theorem pwp_region {id : Nat} {l : List Oper} {draw : Bool} (h : Runs e (l.map (·.dst)) l σ (fun σ' => Q .normal ⟨trimS mask σ'.s, σ'.m⟩)) : pwp e mask (.region id l.toArray draw) σ Q := by
  simp only [pwp]
  exact h l rfl
theorem pwp_seq {a b : Code} (h : pwp e mask a σ (fun x σ' => match x with
    | .normal => pwp e mask b σ' Q
    | x => Q x σ')) : pwp e mask (.seq a b) σ Q := h
theorem pwp_cond {c : Operand} {a b : Code} {t : Bool} (hc : evA σ.s c = .d (.one (.lit (.bool t)))) (h1 : t = true → pwp e mask a σ Q) (h2 : t = false → pwp e mask b σ Q) : pwp e mask (.cond c a b) σ Q := by
  simp only [pwp, hc]
  cases t
  · exact h2 rfl
  · exact h1 rfl
theorem pwp_block {id : Nat} {c : Code} (h : pwp e mask c σ (fun x σ' => match x with
    | .exit j => if j = id then Q .normal σ' else Q (.exit j) σ'
    | x => Q x σ')) : pwp e mask (.block id c) σ Q := h
theorem pwp_exit {id : Nat} (h : Q (.exit id) σ) : pwp e mask (.exit id) σ Q := h
theorem pwp_ret (h : Q .ret σ) : pwp e mask .ret σ Q := h
theorem pwp_skip (h : Q .normal σ) : pwp e mask .skip σ Q := h
/-- A loop: the states at its head, by a ghost x. -/
theorem pwp_loop {c : Code} {ι : Type} (st : ι → St) (ok : ι → Prop) (μ : ι → Nat) (x0 : ι) (h0 : ok x0) (hs : weakS σ.s (st x0).s) (hm : weakM σ.m (st x0).m)
    (hr : ∀ x, ok x → pwp e mask c (st x) (fun p σ'' => match p with
      | .normal => ∃ y, ok y ∧ weakS σ''.s (st y).s ∧ weakM σ''.m (st y).m ∧ μ y < μ x
      | p => Q p σ'')) : pwp e mask (.loop c) σ Q := ⟨ι, st, ok, μ, x0, h0, hs, hm, hr⟩
end
end Go.Proofs.Ytlhbdhdaecchoaa
