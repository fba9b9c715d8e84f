/-
  FnExactCandidateTerms returns true for every signature and term, and turns nothing: proved without conditions.
-/
import Derived.Test.YtofklmbljbkdaaaGreatBBase0
import Derived.Test.YtofklmbljbkdaaaGreatBBase1
import Derived.Test.YtofklmbljbkdaaaGreatBBase2
import Derived.Test.YtofklmbljbkdaaaGreatBBase3
import Derived.Test.YtofklmbljbkdaaaGreatBBase4
import Derived.Test.YtofklmbljbkdaaaGreatBCandidateTerms0
import Derived.Test.YtofklmbljbkdaaaGreatBBaseL0
set_option linter.unusedSimpArgs false
set_option linter.unusedVariables false
namespace Go.Proofs.YtofklmbljbkdaaaGreat
open Go.RowKit
theorem pFz {e : Env} {mask : Nat} {Q : PX → St → Prop} {c : Code} {σ σ1 : St} (ks : List Nat) (hK : pwp e mask c σ1 Q) (hf : frzs ks σ = σ1 := by simp only [pz, ↓reduceIte, Nat.reduceEqDiff, Nat.reduceAdd, Nat.reduceSub, Nat.reduceMul, Nat.reduceLeDiff, Nat.reduceBEq, Bool.false_eq_true, decide_true, decide_false, Int.reduceLE, Int.reduceToNat, Int.reduceLT, Int.reduceEq, eq_self, Nat.reduceShiftRight, Nat.reduceAnd, Nat.reduceBneDiff]; exact rfl) : pwp e mask c σ Q :=
  pwp_turn (turn_frzs ks hf) fun σ' h => by subst h; exact hK
def pkTo {α : Type} (m : Nat) (l : List α) : Nat → List α
  | 0 => []
  | i + 1 => pkTo m l i ++ (if tbit m i then (l[i]?).toList else [])
def pkAll {α : Type} (m : Nat) (l : List α) : List α := pkTo m l l.length
theorem pkTo_yes {α : Type} {m : Nat} {l : List α} {i : Nat} {x : α} (h : l[i]? = some x) (hb : tbit m i = true) : pkTo m l (i + 1) = pkTo m l i ++ [x] := by simp [pkTo, hb, h]
theorem pkTo_no {α : Type} {m : Nat} {l : List α} {i : Nat} (hb : tbit m i = false) : pkTo m l (i + 1) = pkTo m l i := by simp [pkTo, hb]
theorem pkTo_len {α : Type} (m : Nat) (l : List α) : ∀ i, (pkTo m l i).length ≤ i
  | 0 => Nat.le_refl _
  | i + 1 => by
    have := pkTo_len m l i
    simp only [pkTo, List.length_append]
    split
    · cases l[i]? <;> simp <;> omega
    · simp; omega
theorem pkTo_map {α β : Type} (f : α → β) (m : Nat) (l : List α) : ∀ i, pkTo m (l.map f) i = (pkTo m l i).map f
  | 0 => rfl
  | i + 1 => by
    simp only [pkTo, List.map_append, pkTo_map f m l i, List.getElem?_map]
    split
    · cases l[i]? <;> simp
    · simp
theorem pkTo_sub {α : Type} (m : Nat) (l : List α) : ∀ i, (pkTo m l i).Sublist (l.take i)
  | 0 => by simp [pkTo]
  | i + 1 => by
    rw [List.take_add_one]
    simp only [pkTo]
    refine (pkTo_sub m l i).append ?_
    split
    · exact List.Sublist.refl _
    · exact List.nil_sublist _
theorem pkAll_sub {α : Type} (m : Nat) (l : List α) : (pkAll m l).Sublist l := by
  have h := pkTo_sub m l l.length
  rwa [List.take_length] at h
theorem pk_0 (m : Nat) (ts : List Tm) : encTms (pkTo m ts 0) = [] := encTms_nil'
theorem pk_yes {m : Nat} {ts : List Tm} {i : Nat} {t : Tm} (h : ts[i]? = some t) (hb : tbit m i = true) : encTms (pkTo m ts (i + 1)) = encTms (pkTo m ts i) ++ [encTm t] := by rw [pkTo_yes h hb, encTms_app, encTms_one]
set_option maxHeartbeats 8000000 in
set_option maxRecDepth 100000 in
theorem con_pick {m : Nat} (hm : m < 4611686018427387904) (ts : List Tm) (hl : ts.length ≤ 60) : Con e0 174 [.one (.sl (encTms ts)), .one (.lit (.int .i64 m))] [.one (.sl (encTms (pkAll m ts)))] := by
  refine gI 1056499 Tryz.func174 ?_
  (have F := @tmz; refine gG ?_; clear F)
  (have F := ((pk_0 m ts)); refine gL (ι := Nat) [5, 6, 7, 11, 12, 20] [5] (fun i => [(11, A.d (.one (.lit (.int .i64 i)))), (5, .buf 5)]) (fun i => [(5, .buf none 73 4 (encTms (pkTo m ts i)))]) (fun i => i ≤ ts.length) (fun i => ts.length - i) (0) (Nat.zero_le _) (fun i hi => ?_); clear F)
  by_cases hlt : i < ts.length
  · obtain ⟨t, ht⟩ : ∃ t, ts[i]? = some t := ⟨_, List.getElem?_eq_getElem hlt⟩
    have q1 : ((i : Int) < (ts.length : Int)) = True := eq_true (by omega)
    have hw := wrap1 (k := i) (by omega)
    have h1 := shl_k (k := i) (by omega)
    have h2 := and_k (x := m) (k := i) hm (by omega)
    have l1 : rowsB 4 (encTms (pkTo m ts i)) = true := rb_tm _
    have l2 : ((encTms (pkTo m ts i)).length + 1 ≤ maxApp) = True := eq_true (by rw [encTms_len]; have := pkTo_len m ts i; unfold maxApp; omega)
    have l3 : ((pkTo m ts i).length + 1 ≤ maxApp) = True := eq_true (by have := pkTo_len m ts i; unfold maxApp; omega)
    cases hb : tbit m i with
    | false =>
      rw [hb] at h2
      have e := pkTo_no (l := ts) hb
      rw [← e]
      (have F := And.intro @q1 (And.intro @h1 (And.intro @h2 (And.intro @natInt (And.intro @ht (And.intro @tmz @hw))))); refine gG ?_; exact ⟨i + 1, hlt, gw, gw, by omega⟩)
    | true =>
      rw [hb] at h2
      have e := pk_yes ht hb
      (have F := And.intro @q1 (And.intro @h1 (And.intro @h2 (And.intro @natInt (And.intro @ht (And.intro @l1 (And.intro @l2 (And.intro @l3 (And.intro @tmz (And.intro @e @hw))))))))); refine gG ?_; exact ⟨i + 1, hlt, gw, gw, by omega⟩)
  · obtain rfl : i = ts.length := by omega
    have q1 : ¬ ((ts.length : Int) < (ts.length : Int)) := by omega
    rw [pkAll]
    (have F := @q1; refine gG ?_; clear F)
    (have F := @tmz; refine gG ?_; exact gTz [4])
def rowI (m : Int) : Bool := decide (bits .and .i64 (IntKind.i64.wrap (m + bits .and .i64 m (IntKind.i64.wrap (-m)))) m = 0)
theorem rowI_u (m : Int) : decide (bits .and .i64 (IntKind.i64.wrap (m + bits .and .i64 m (IntKind.i64.wrap (-m)))) m = 0) = rowI m := rfl
set_option maxHeartbeats 8000000 in
set_option maxRecDepth 100000 in
theorem con_isRow (m : Int) : Con e0 175 [.one (.lit (.int .i64 m))] [.one (.lit (.bool (rowI m)))] := by
  refine gI 13 Tryz.func175 ?_
  (have F := And.intro @rowI_u @tmz; refine gG ?_; exact gT)
end Go.Proofs.YtofklmbljbkdaaaGreat
namespace Go.Proofs.YtofklmbljbkdaaaGreat
open Go.RowKit
def mskL {α : Type} (F : Nat → List α) : Nat → List α
  | 0 => []
  | k + 1 => mskL F k ++ F k
theorem mem_mskL {α : Type} {F : Nat → List α} {x : α} : ∀ {k : Nat}, x ∈ mskL F k ↔ ∃ m, m < k ∧ x ∈ F m
  | 0 => by simp [mskL]
  | k + 1 => by
    simp only [mskL, List.mem_append, mem_mskL (k := k)]
    constructor
    · rintro (⟨m, h1, h2⟩ | h)
      · exact ⟨m, by omega, h2⟩
      · exact ⟨k, by omega, h⟩
    · rintro ⟨m, h1, h2⟩
      by_cases e : m = k
      · subst e; exact .inr h2
      · exact .inl ⟨m, by omega, h2⟩
theorem mskL_mono {α : Type} (F : Nat → List α) {j k : Nat} (h : j ≤ k) : (mskL F j).length ≤ (mskL F k).length := by
  induction k with
  | zero => obtain rfl : j = 0 := by omega
            exact Nat.le_refl _
  | succ k ih =>
    by_cases e : j = k + 1
    · subst e; exact Nat.le_refl _
    · have := ih (by omega)
      simp only [mskL, List.length_append]
      omega
theorem pkAll_0 {α : Type} (l : List α) : pkAll 0 l = [] := by
  unfold pkAll
  generalize l.length = n
  induction n with
  | zero => rfl
  | succ n ih => rw [pkTo_no (by simp [tbit]), ih]
theorem pkAll_map {α β : Type} (f : α → β) (m : Nat) (l : List α) : pkAll m (l.map f) = (pkAll m l).map f := by
  unfold pkAll
  rw [List.length_map, pkTo_map]
theorem pkAll_len {α : Type} (m : Nat) (l : List α) : (pkAll m l).length = (pkAll m (List.range l.length)).length := by
  have h1 : (pkAll m (l.map fun _ => ())).length = (pkAll m l).length := by rw [pkAll_map, List.length_map]
  have h2 : (pkAll m ((List.range l.length).map fun _ => ())).length = (pkAll m (List.range l.length)).length := by rw [pkAll_map, List.length_map]
  rw [← h1, ← h2]
  congr 2
  apply List.ext_getElem <;> simp
def partOf (op : Int) (P : Nat → Bool) (ts : List Tm) (m : Nat) : List Tm := if 2 ≤ (pkAll m ts).length ∧ P m = true then [.mk op ByteArray.empty 0 (pkAll m ts)] else []
theorem partOf_0 (op : Int) (P : Nat → Bool) (ts : List Tm) : partOf op P ts 0 = [] := by
  rw [partOf, pkAll_0]
  exact if_neg fun h => absurd h.1 (by decide)
theorem partOf_yes {op : Int} {P : Nat → Bool} {ts : List Tm} {m : Nat} (h : 2 ≤ (pkAll m ts).length) (hp : P m = true) : partOf op P ts m = [.mk op ByteArray.empty 0 (pkAll m ts)] := if_pos ⟨h, hp⟩
theorem partOf_no {op : Int} {P : Nat → Bool} {ts : List Tm} {m : Nat} (h : ¬ (2 ≤ (pkAll m ts).length ∧ P m = true)) : partOf op P ts m = [] := if_neg h
def cnt2 (n : Nat) (m : Nat) : List Unit := if 2 ≤ (pkAll m (List.range n)).length then [()] else []
theorem cnt2_le : ∀ n, n ≤ 7 → (mskL (cnt2 n) (2 ^ n)).length ≤ 18 * n := by decide +kernel
theorem parts_len (op : Int) (P : Nat → Bool) {ts : List Tm} (h : ts.length ≤ 7) : (mskL (partOf op P ts) (2 ^ ts.length)).length ≤ 18 * ts.length := by
  refine Nat.le_trans ?_ (cnt2_le _ h)
  generalize 2 ^ ts.length = k
  induction k with
  | zero => exact Nat.le_refl _
  | succ k ih =>
    simp only [mskL, List.length_append]
    refine Nat.add_le_add ih ?_
    unfold partOf cnt2
    rw [← pkAll_len]
    by_cases h2 : 2 ≤ (pkAll k ts).length
    · rw [if_pos h2]
      split <;> simp
    · rw [if_neg h2, if_neg fun h => h2 h.1]
      exact Nat.le_refl _
def rowP (cm : Bool) (m : Nat) : Bool := cm || rowI (m : Int)
def partsI (g : Sgn) (op : Int) (ts : List Tm) : List Tm := if op < 0 then [] else match g.ops[op.toNat]? with
  | none => []
  | some o => if o.assoc = true then mskL (partOf op (rowP o.comm) ts) (2 ^ ts.length) else []
def ivJ (op : Int) (ts : List Tm) (i k : Nat) : List Tm := mskL (fun k => [.mk op ByteArray.empty 0 ((ts.take (i + 2 + k)).drop i)]) k
def ivI (op : Int) (ts : List Tm) (i : Nat) : List Tm := mskL (fun i => ivJ op ts i (ts.length - (i + 1))) i
def partsS (g : Sgn) (op : Int) (ts : List Tm) : List Tm := if op < 0 then [] else match g.ops[op.toNat]? with
  | none => []
  | some o => if o.assoc = true then (if o.comm = true then mskL (partOf op (fun _ => true) ts) (2 ^ ts.length) else ivI op ts ts.length) else []
mutual
def candW (W : Int → List Tm → List Tm) : Tm → List Tm
  | .mk op nm so args => .mk op nm so args :: (candsW W args ++ W op args)
def candsW (W : Int → List Tm → List Tm) : List Tm → List Tm
  | [] => []
  | t :: ts => candW W t ++ candsW W ts
end
theorem candsW_snoc (W : Int → List Tm → List Tm) : ∀ (l : List Tm) (t : Tm), candsW W (l ++ [t]) = candsW W l ++ candW W t
  | [], t => by simp [candsW]
  | x :: xs, t => by simp [candsW, candsW_snoc W xs t]
theorem candsW_take {W : Int → List Tm → List Tm} {l : List Tm} {i : Nat} {t : Tm} (h : l[i]? = some t) : candsW W (l.take (i + 1)) = candsW W (l.take i) ++ candW W t := by
  rw [show l.take (i + 1) = l.take i ++ [t] by simp [List.take_add_one, h], candsW_snoc]
theorem candsW_le (W : Int → List Tm → List Tm) : ∀ (l : List Tm) (i : Nat), (candsW W (l.take i)).length ≤ (candsW W l).length
  | [], i => by simp [candsW]
  | x :: xs, 0 => by simp [candsW]
  | x :: xs, i + 1 => by have := candsW_le W xs i; simp only [List.take_succ_cons, candsW, List.length_append]; omega
def unitsTo (l : List Opr) (i : Nat) : List Tm := (l.take i).flatMap fun o => if o.unit = 0 then [] else [unitTm o]
theorem units_0 (l : List Opr) : unitsTo l 0 = [] := by simp [unitsTo]
theorem units_yes {l : List Opr} {i : Nat} {o : Opr} (h : l[i]? = some o) (hu : ¬ o.unit = 0) : unitsTo l (i + 1) = unitsTo l i ++ [unitTm o] := by simp [unitsTo, List.take_add_one, h, hu]
theorem units_no {l : List Opr} {i : Nat} {o : Opr} (h : l[i]? = some o) (hu : o.unit = 0) : unitsTo l (i + 1) = unitsTo l i := by simp [unitsTo, List.take_add_one, h, hu]
theorem units_len (l : List Opr) (i : Nat) : (unitsTo l i).length ≤ l.length := by
  unfold unitsTo
  have h : ∀ r : List Opr, (r.flatMap fun o => if o.unit = 0 then [] else [unitTm o]).length ≤ r.length := fun r => by
    induction r with
    | nil => simp
    | cons o r ih =>
      simp only [List.flatMap_cons, List.length_append, List.length_cons]
      generalize (r.flatMap fun o => if o.unit = 0 then [] else [unitTm o]).length = x at ih ⊢
      split
      · simp only [List.length_nil]; omega
      · simp only [List.length_cons, List.length_nil]; omega
  have := h (l.take i)
  rw [List.length_take] at this
  omega
def candI (g : Sgn) (t : Tm) : List Tm := distTm (unitsTo g.ops g.ops.length ++ candW (partsI g) t)
def candS (g : Sgn) (t : Tm) : List Tm := distTm (candW (partsS g) t ++ unitsTo g.ops g.ops.length)
def ixM (n m : Nat) : List Nat := pkAll m (List.range n)
theorem get_map {α : Type} {l : List α} {d : α} : l = (List.range l.length).map fun i => l.getD i d := by
  apply List.ext_getElem
  · simp
  · intro i h1 h2
    simp at h2
    simp [List.getD, h2]
theorem pk_ix {m : Nat} (ts : List Tm) (d : Tm) : pkAll m ts = (ixM ts.length m).map fun i => ts.getD i d := by
  conv => lhs; rw [get_map (l := ts) (d := d)]
  rw [pkAll_map]
  rfl
theorem iv_ix (ts : List Tm) (d : Tm) (i j : Nat) : (ts.take j).drop i = (((List.range ts.length).take j).drop i).map fun i => ts.getD i d := by
  conv => lhs; rw [get_map (l := ts) (d := d)]
  rw [List.map_drop, List.map_take]
theorem row_iv : ∀ n, n ≤ 7 → ∀ m, m < 2 ^ n → 2 ≤ (ixM n m).length → rowI (m : Int) = true → ∃ i, i < n ∧ ∃ k, k < n - (i + 1) ∧ ixM n m = ((List.range n).take (i + 2 + k)).drop i := by decide +kernel
theorem iv_row : ∀ n, n ≤ 7 → ∀ i, i < n → ∀ k, k < n - (i + 1) → ∃ m, m < 2 ^ n ∧ 2 ≤ (ixM n m).length ∧ rowI (m : Int) = true ∧ ixM n m = ((List.range n).take (i + 2 + k)).drop i := by decide +kernel
theorem mem_part {op : Int} {P : Nat → Bool} {ts : List Tm} {m : Nat} {x : Tm} : x ∈ partOf op P ts m ↔ 2 ≤ (pkAll m ts).length ∧ P m = true ∧ x = .mk op ByteArray.empty 0 (pkAll m ts) := by
  unfold partOf
  by_cases h : 2 ≤ (pkAll m ts).length ∧ P m = true
  · rw [if_pos h]; simp [h.1, h.2]
  · rw [if_neg h]
    constructor
    · intro h; cases h
    · exact fun h' => absurd ⟨h'.1, h'.2.1⟩ h
theorem mem_iv {op : Int} {ts : List Tm} {x : Tm} : x ∈ ivI op ts ts.length ↔ ∃ i, i < ts.length ∧ ∃ k, k < ts.length - (i + 1) ∧ x = .mk op ByteArray.empty 0 ((ts.take (i + 2 + k)).drop i) := by
  unfold ivI ivJ
  rw [mem_mskL]
  refine exists_congr fun i => and_congr_right fun hi => ?_
  rw [mem_mskL]
  refine exists_congr fun k => and_congr_right fun hk => ?_
  simp
theorem ix_len (ts : List Tm) (m : Nat) : (pkAll m ts).length = (ixM ts.length m).length := pkAll_len m ts
theorem mem_rows {op : Int} {ts : List Tm} (h : ts.length ≤ 7) {x : Tm} : x ∈ mskL (partOf op (rowP false) ts) (2 ^ ts.length) ↔ x ∈ ivI op ts ts.length := by
  rw [mem_mskL, mem_iv]
  constructor
  · rintro ⟨m, h1, h2⟩
    obtain ⟨h3, h4, rfl⟩ := mem_part.1 h2
    rw [ix_len] at h3
    obtain ⟨i, hi, k, hk, e⟩ := row_iv _ h m h1 h3 (by simpa [rowP] using h4)
    exact ⟨i, hi, k, hk, by rw [pk_ix ts (.mk 0 ByteArray.empty 0 []), e, ← iv_ix]⟩
  · rintro ⟨i, hi, k, hk, rfl⟩
    obtain ⟨m, h1, h2, h3, e⟩ := iv_row _ h i hi k hk
    exact ⟨m, h1, mem_part.2 ⟨by rw [ix_len]; exact h2, by simpa [rowP] using h3, by rw [pk_ix ts (.mk 0 ByteArray.empty 0 []), e, ← iv_ix]⟩⟩
section
variable {g : Sgn}
theorem FormOk.args7 {t : Tm} (h : FormOk g t) {o : Opr} (h0 : ¬ t.op < 0) (ho : g.ops[t.op.toNat]? = some o) (ha : o.assoc = true) : 2 ≤ t.args.length ∧ t.args.length ≤ 7 := by
  obtain ⟨o', d, hA⟩ := h.node.app (by omega)
  have e := hA.at'
  rw [ho] at e
  injection e with e
  subst e
  exact hA.asc ha
theorem mem_parts {op : Int} {nm : ByteArray} {so : Int} {ts : List Tm} (h : FormOk g (.mk op nm so ts)) {x : Tm} : x ∈ partsI g op ts ↔ x ∈ partsS g op ts := by
  unfold partsI partsS
  by_cases h0 : op < 0
  · rw [if_pos h0, if_pos h0]
  rw [if_neg h0, if_neg h0]
  cases ho : g.ops[op.toNat]? with
  | none => exact Iff.rfl
  | some o =>
    simp only
    by_cases ha : o.assoc = true
    · rw [if_pos ha, if_pos ha]
      cases hc : o.comm with
      | true => rw [if_pos rfl]; exact Iff.rfl
      | false =>
        rw [if_neg (by simp)]
        exact mem_rows (h.args7 h0 ho ha).2
    · rw [if_neg ha, if_neg ha]
mutual
theorem mem_candW {x : Tm} : ∀ {t : Tm}, FormOk g t → (x ∈ candW (partsI g) t ↔ x ∈ candW (partsS g) t)
  | .mk op nm so args, h => by
    have e := mem_candsW (x := x) (FormOks_iff.2 (FormOk_iff.1 h).2.1)
    simp only [Tm.args] at e
    simp only [candW, List.mem_cons, List.mem_append, mem_parts h, e]
theorem mem_candsW {x : Tm} : ∀ {ts : List Tm}, FormOks g ts → (x ∈ candsW (partsI g) ts ↔ x ∈ candsW (partsS g) ts)
  | [], _ => Iff.rfl
  | t :: ts, h => by
    simp only [FormOks] at h
    simp only [candsW, List.mem_append, mem_candW h.1, mem_candsW h.2]
end
theorem cand_same {t : Tm} (h : FormOk g t) : candI g t = candS g t :=
  (distTm_asc _).ext (distTm_asc _) fun x => by
    unfold candS
    rw [mem_distTm, mem_distTm, List.mem_append, List.mem_append, mem_candW h, or_comm]
theorem partsI_len {op : Int} {nm : ByteArray} {so : Int} {ts : List Tm} (h : FormOk g (.mk op nm so ts)) : (partsI g op ts).length ≤ 18 * ts.length := by
  unfold partsI
  by_cases h0 : op < 0
  · rw [if_pos h0]; exact Nat.zero_le _
  rw [if_neg h0]
  cases ho : g.ops[op.toNat]? with
  | none => exact Nat.zero_le _
  | some o =>
    simp only
    by_cases ha : o.assoc = true
    · rw [if_pos ha]
      exact parts_len _ _ (h.args7 h0 ho ha).2
    · rw [if_neg ha]; exact Nat.zero_le _
mutual
theorem candW_len {W : Int → List Tm → List Tm} (hW : ∀ {op : Int} {nm : ByteArray} {so : Int} {ts : List Tm}, FormOk g (.mk op nm so ts) → (W op ts).length ≤ 18 * ts.length) : ∀ {t : Tm}, FormOk g t → (candW W t).length + 18 ≤ 19 * sizeTm t
  | .mk op nm so args, h => by
    have h1 := candsW_len hW (FormOks_iff.2 (FormOk_iff.1 h).2.1)
    have h2 := hW h
    simp only [Tm.args] at h1
    simp only [candW, sizeTm, List.length_cons, List.length_append]
    omega
theorem candsW_len {W : Int → List Tm → List Tm} (hW : ∀ {op : Int} {nm : ByteArray} {so : Int} {ts : List Tm}, FormOk g (.mk op nm so ts) → (W op ts).length ≤ 18 * ts.length) : ∀ {ts : List Tm}, FormOks g ts → (candsW W ts).length + 18 * ts.length ≤ 19 * sizeTms ts
  | [], _ => by simp [candsW]
  | t :: ts, h => by
    simp only [FormOks] at h
    have h1 := candW_len hW h.1
    have h2 := candsW_len hW h.2
    simp only [candsW, sizeTms, List.length_cons, List.length_append]
    omega
end
theorem candI_len {t : Tm} (h : FormOk g t) : (candW (partsI g) t).length + 18 ≤ 19 * sizeTm t := candW_len partsI_len h
theorem mskL_le {α : Type} {F : Nat → List α} {n : Nat} (h : ∀ m, (F m).length ≤ n) : ∀ k, (mskL F k).length ≤ k * n
  | 0 => by simp [mskL]
  | k + 1 => by
    have := mskL_le h k
    have := h k
    simp only [mskL, List.length_append, Nat.succ_mul]
    omega
theorem ivJ_len (op : Int) (ts : List Tm) (i k : Nat) : (ivJ op ts i k).length ≤ k := by
  have := mskL_le (F := fun k => [Tm.mk op ByteArray.empty 0 ((ts.take (i + 2 + k)).drop i)]) (n := 1) (fun _ => Nat.le_refl _) k
  rwa [Nat.mul_one] at this
theorem ivI_len (op : Int) (ts : List Tm) (i : Nat) : (ivI op ts i).length ≤ i * ts.length :=
  mskL_le (fun m => Nat.le_trans (ivJ_len op ts m _) (Nat.sub_le _ _)) i
theorem partsS_len {op : Int} {nm : ByteArray} {so : Int} {ts : List Tm} (h : FormOk g (.mk op nm so ts)) : (partsS g op ts).length ≤ 18 * ts.length := by
  unfold partsS
  by_cases h0 : op < 0
  · rw [if_pos h0]; exact Nat.zero_le _
  rw [if_neg h0]
  cases ho : g.ops[op.toNat]? with
  | none => exact Nat.zero_le _
  | some o =>
    simp only
    by_cases ha : o.assoc = true
    · rw [if_pos ha]
      have h7 : ts.length ≤ 7 := (h.args7 h0 ho ha).2
      split
      · exact parts_len _ _ h7
      · exact Nat.le_trans (ivI_len op ts _) (Nat.mul_le_mul_right _ (by omega))
    · rw [if_neg ha]; exact Nat.zero_le _
theorem candS_len {t : Tm} (h : FormOk g t) : (candW (partsS g) t).length + 18 ≤ 19 * sizeTm t := candW_len partsS_len h
end
end Go.Proofs.YtofklmbljbkdaaaGreat
namespace Go.Proofs.YtofklmbljbkdaaaGreat
open Go.RowKit
theorem okTms_iff {ts : List Tm} : okTms ts ↔ ∀ t ∈ ts, okTm t := by
  induction ts with
  | nil => simp [okTms]
  | cons t ts ih => simp [okTms, ih]
theorem bulk_sub {a b : List Tm} (h : a.Sublist b) : a.length + bulkRows (encTms a) ≤ b.length + bulkRows (encTms b) := by
  induction h with
  | slnil => exact Nat.le_refl _
  | cons x h ih => simp only [encTms, bulkRows, List.length_cons]; omega
  | cons_cons x h ih => simp only [encTms, bulkRows, List.length_cons]; omega
theorem bulk_all {l : List Tm} {B : Nat} (h : ∀ x ∈ l, bulkRow (encTm x) ≤ B) : bulkRows (encTms l) ≤ l.length * B := by
  induction l with
  | nil => simp [encTms, bulkRows]
  | cons x l ih =>
    have h1 := h x List.mem_cons_self
    have h2 := ih fun y hy => h y (List.mem_cons_of_mem _ hy)
    simp only [encTms, bulkRows, List.length_cons, Nat.succ_mul]
    omega
theorem bulk_mk (op so : Int) (nm : ByteArray) (args : List Tm) : bulkRow (encTm (.mk op nm so args)) = nm.size + (args.length + bulkRows (encTms args)) := by
  simp only [encTm, bulkRow, bulkC, encTms_len]; omega
section
variable {g : Sgn}
mutual
theorem bulk_form : ∀ {t : Tm}, FormOk g t → bulkRow (encTm t) + 1 ≤ 13 * sizeTm t
  | .mk op nm so args, h => by
    have h1 := bulks_form (FormOks_iff.2 (FormOk_iff.1 h).2.1)
    simp only [Tm.args] at h1
    rw [bulk_mk]
    simp only [sizeTm]
    rcases h.node with hv | ⟨o, d, hA⟩
    · have h2 : isName nm = true := hv.2.1
      have h3 : args = [] := hv.2.2.2.2
      subst h3
      have h4 : ¬ 12 < nm.size := fun h => by rw [isName_bad (.inr (.inl h))] at h2; cases h2
      simp only [encTms, bulkRows, sizeTms, List.length_nil]
      omega
    · have h2 : nm = ByteArray.empty := hA.nm
      subst h2
      have : ByteArray.empty.size = 0 := rfl
      omega
theorem bulks_form : ∀ {ts : List Tm}, FormOks g ts → bulkRows (encTms ts) + ts.length ≤ 13 * sizeTms ts
  | [], _ => by simp [encTms, bulkRows]
  | t :: ts, h => by
    simp only [FormOks] at h
    have h1 := bulk_form h.1
    have h2 := bulks_form h.2
    simp only [encTms, bulkRows, sizeTms, List.length_cons]
    omega
end
theorem parts_mem {op : Int} {P : Nat → Bool} {ts : List Tm} {k : Nat} {x : Tm} (h : x ∈ mskL (partOf op P ts) k) : ∃ us : List Tm, us.Sublist ts ∧ x = .mk op ByteArray.empty 0 us := by
  obtain ⟨m, _, hm⟩ := mem_mskL.1 h
  exact ⟨_, pkAll_sub m ts, (mem_part.1 hm).2.2⟩
theorem partsI_mem {op : Int} {ts : List Tm} {x : Tm} (h : x ∈ partsI g op ts) : ∃ us : List Tm, us.Sublist ts ∧ x = .mk op ByteArray.empty 0 us := by
  unfold partsI at h
  split at h
  · cases h
  · split at h
    · cases h
    · split at h
      · exact parts_mem h
      · cases h
theorem partsS_mem {op : Int} {ts : List Tm} {x : Tm} (h : x ∈ partsS g op ts) : ∃ us : List Tm, us.Sublist ts ∧ x = .mk op ByteArray.empty 0 us := by
  unfold partsS at h
  split at h
  · cases h
  · split at h
    · cases h
    · split at h
      · split at h
        · exact parts_mem h
        · obtain ⟨i, _, k, _, rfl⟩ := mem_iv.1 h
          exact ⟨_, (List.drop_sublist _ _).trans (List.take_sublist _ _), rfl⟩
      · cases h
mutual
theorem candW_all {W : Int → List Tm → List Tm} (P : Tm → Prop) (hW : ∀ op nm so ts, P (.mk op nm so ts) → ∀ x ∈ W op ts, P x) (hA : ∀ op nm so ts, P (.mk op nm so ts) → ∀ a ∈ ts, P a) : ∀ {t : Tm}, P t → ∀ x ∈ candW W t, P x
  | .mk op nm so args, h, x, hx => by
    simp only [candW, List.mem_cons, List.mem_append] at hx
    rcases hx with rfl | hx | hx
    · exact h
    · exact candsW_all P hW hA (hA op nm so args h) x hx
    · exact hW op nm so args h x hx
theorem candsW_all {W : Int → List Tm → List Tm} (P : Tm → Prop) (hW : ∀ op nm so ts, P (.mk op nm so ts) → ∀ x ∈ W op ts, P x) (hA : ∀ op nm so ts, P (.mk op nm so ts) → ∀ a ∈ ts, P a) : ∀ {ts : List Tm}, (∀ a ∈ ts, P a) → ∀ x ∈ candsW W ts, P x
  | [], _, x, hx => by simp only [candsW] at hx; cases hx
  | t :: ts, h, x, hx => by
    simp only [candsW, List.mem_append] at hx
    rcases hx with hx | hx
    · exact candW_all P hW hA (h t List.mem_cons_self) x hx
    · exact candsW_all P hW hA (fun a ha => h a (List.mem_cons_of_mem _ ha)) x hx
end
theorem candI_bulk {t : Tm} {B : Nat} (h : bulkRow (encTm t) ≤ B) : ∀ x ∈ candW (partsI g) t, bulkRow (encTm x) ≤ B :=
  candW_all (fun x => bulkRow (encTm x) ≤ B) (fun op nm so ts h x hx => by
    obtain ⟨us, hs, rfl⟩ := partsI_mem hx
    have := bulk_sub hs
    rw [bulk_mk] at h ⊢
    have : ByteArray.empty.size = 0 := rfl
    omega) (fun op nm so ts h a ha => by
    obtain ⟨i, hi⟩ := List.getElem?_of_mem ha
    have hi' : (encTms ts)[i]? = some (encTm a) := by rw [encTms_get, hi]; rfl
    have := bulk_get hi'
    rw [bulk_mk] at h
    omega) h
theorem cand_ok {W : Int → List Tm → List Tm} (hW : ∀ {op : Int} {ts : List Tm} {x : Tm}, x ∈ W op ts → ∃ us : List Tm, us.Sublist ts ∧ x = .mk op ByteArray.empty 0 us) {t : Tm} (h : okTm t) : okTms (candW W t) :=
  okTms_iff.2 (candW_all okTm (fun op nm so ts h x hx => by
    obtain ⟨us, hs, rfl⟩ := hW hx
    simp only [okTm] at h ⊢
    exact ⟨h.1, by simp [maxLen], ⟨by decide, by decide⟩, okTms_iff.2 fun a ha => okTms_iff.1 h.2.2.2 a (hs.subset ha)⟩) (fun op nm so ts h a ha => by
    simp only [okTm] at h
    exact h.2.2.2.mem ha) h)
theorem units_mem {l : List Opr} {i : Nat} {x : Tm} (h : x ∈ unitsTo l i) : ∃ o ∈ l, x = unitTm o := by
  unfold unitsTo at h
  obtain ⟨o, ho, hx⟩ := List.mem_flatMap.1 h
  refine ⟨o, List.mem_of_mem_take ho, ?_⟩
  split at hx
  · cases hx
  · simpa using hx
theorem units_ok (hg : SgnOk g) (i : Nat) : okTms (unitsTo g.ops i) :=
  okTms_iff.2 fun x hx => by
    obtain ⟨o, ho, rfl⟩ := units_mem hx
    have hax := hg.axs o ho
    have := hax.hi
    have := hg.len
    exact okTm_unit hax.lo (by omega)
theorem unit_bulk (o : Opr) : bulkRow (encTm (unitTm o)) = 0 := by rw [unitTm, bulk_mk]; rfl
theorem cand_tmsB (hg : SgnOk g) {t : Tm} (ht : TermOk g t) : tmsB (candI g t) := by
  have h1 := candI_len ht.form
  have h2 := ht.size
  have h3 := bulk_form ht.form
  have h4 := units_len g.ops g.ops.length
  have h5 := hg.len
  have h6 := dist_len (unitsTo g.ops g.ops.length ++ candW (partsI g) t)
  rw [List.length_append] at h6
  have h7 : ∀ x ∈ candI g t, bulkRow (encTm x) ≤ 779 := fun x hx => by
    unfold candI at hx
    rw [mem_distTm, List.mem_append] at hx
    rcases hx with hx | hx
    · obtain ⟨o, _, rfl⟩ := units_mem hx
      rw [unit_bulk]; exact Nat.zero_le _
    · exact candI_bulk (by omega) x hx
  have h8 := bulk_all h7
  have h9 : (candI g t).length ≤ 1136 := by unfold candI; omega
  unfold tmsB
  have h10 : (candI g t).length * 779 ≤ 1136 * 779 := Nat.mul_le_mul_right _ h9
  omega
theorem cand_okI (hg : SgnOk g) {t : Tm} (ht : okTm t) : okTms (candI g t) :=
  okTms_iff.2 fun x hx => by
    unfold candI at hx
    rw [mem_distTm, List.mem_append] at hx
    rcases hx with hx | hx
    · exact okTms_iff.1 (units_ok hg _) x hx
    · exact okTms_iff.1 (cand_ok partsI_mem ht) x hx
end
open Classical in
noncomputable def candT (g : Sgn) (t : Tm) : List Tm := if SgnOk g ∧ TermOk g t then candI g t else []
theorem candT_yes {g : Sgn} {t : Tm} (h1 : SgnOk g) (h2 : TermOk g t) : candT g t = candI g t := if_pos ⟨h1, h2⟩
theorem candT_no {g : Sgn} {t : Tm} (h : ¬ (SgnOk g ∧ TermOk g t)) : candT g t = [] := if_neg h
theorem candT_ok {g : Sgn} {t : Tm} (ht : okTm t) : okTms (candT g t) := by
  by_cases h : SgnOk g ∧ TermOk g t
  · rw [candT_yes h.1 h.2]; exact cand_okI h.1 ht
  · rw [candT_no h]; simp [okTms]
theorem candT_bulk {g : Sgn} {t : Tm} : tmsB (candT g t) := by
  by_cases h : SgnOk g ∧ TermOk g t
  · rw [candT_yes h.1 h.2]; exact cand_tmsB h.1 h.2
  · rw [candT_no h]; simp [tmsB, encTms, bulkRows]
theorem candT_big {g : Sgn} {t : Tm} : (encTms (candT g t)).length + bulkRows (encTms (candT g t)) ≤ 1048576 := by
  rw [encTms_len]
  exact candT_bulk
end Go.Proofs.YtofklmbljbkdaaaGreat
namespace Go.Proofs.YtofklmbljbkdaaaGreat
open Go.RowKit
end Go.Proofs.YtofklmbljbkdaaaGreat
namespace Go.Proofs.YtofklmbljbkdaaaGreat
open Go.RowKit
end Go.Proofs.YtofklmbljbkdaaaGreat
namespace Go.Proofs.YtofklmbljbkdaaaGreat
open Go.RowKit
theorem ownVs_lits {w : World} : ∀ (us : List (List Value)), OwnVs w (us.map litRow) (fun _ => False) us
  | [] => trivial
  | u :: us => ⟨fun _ => False, fun _ => False, fun _ h => h, fun _ h => h, fun _ h _ => h, by
    induction u with
    | nil => exact OwnVals.nil
    | cons x u ih => exact ⟨fun _ => False, fun _ => False, fun _ h => h, fun _ h => h, fun _ h _ => h, by simp [Own], ih⟩, ownVs_lits us⟩
theorem re_rows {a : Option Addr} {cap ety sz : Nat} {rows : List (List C)} {us : List (List Value)} (h : rows = us.map litRow) : ∃ E : Nat → Prop, Retold [.buf (some (a, cap)) ety sz rows] [.set E (fun w => Own w (.sl rows) E (.slice a rows.length cap))] := by
  subst h
  rw [List.length_map]
  refine ⟨fun b => vblk (.slice a us.length cap) = some b ∨ False, fun w S h ha => ?_⟩
  obtain ⟨h1, h2, h3⟩ := re_close (a := a) (cap := cap) (ety := ety) (sz := sz) (uss := us) (rows := us.map litRow) (E := fun _ => False) (G' := fun w => Own w (.sl (us.map litRow)) (fun b => vblk (.slice a us.length cap) = some b ∨ False) (.slice a us.length cap)) (fun w h => h) (Own.stable _ _ _) w S (fun x hx => by
    simp only [List.mem_cons, List.not_mem_nil, or_false] at hx
    rcases hx with rfl | rfl
    · exact h _ (by simp)
    · exact ⟨fun b hb => hb.elim, ownVs_lits us, OwnVs.stable _ _ _⟩) (apart_2 fun g _ hg => hg)
  refine ⟨h1, h2, fun g hg => ?_⟩
  obtain ⟨x, hx, hg⟩ := h3 g hg
  simp only [List.mem_cons, List.not_mem_nil, or_false] at hx
  rcases hx with rfl | rfl
  · exact ⟨_, List.mem_cons_self, hg⟩
  · exact hg.elim
def RTree3 (n : Int) (rows : List (List C)) (ok : Bool) (r : List D) (pm : List Bk) : Prop := ∃ v E, r = [.one (.lit (.int .i64 n)), .one (.lit v), .one (.lit (.bool ok))] ∧ okCell (.lit v) = true ∧ pm = [.set E (fun w => Own w (.sl rows) E v)]
end Go.Proofs.YtofklmbljbkdaaaGreat
namespace Go.Proofs.YtofklmbljbkdaaaGreat
open Go.RowKit
theorem FormOk.argC {g : Sgn} {t a : Tm} (h : FormOk g t) (ha : a ∈ t.args) : FormOk g a := (FormOk_iff.1 h).2.1 a ha
def RCand (bo bv : Nat) (f : FuncId) (x : C) (ty : Nat) (ts : List Tm) (r : List D) (pm : List Bk) : Prop := ∃ a cap, r = [] ∧ pm = [.var (some bo) [.lit (.slice a ts.length cap)], .buf (some (a, cap)) ty 4 (encTms ts), .var (some bv) [.fn f [.lit (ptr0 bo), .lit (ptr0 bv), x]]]
def CandC (g : Sgn) (mc : C) (bo bv : Nat) (t : Tm) (ts : List Tm) (a : Option Addr) (cap : Nat) (us : List Tm) : Prop := ConP e0 173 [.agg (encTm t), .one (.lit (ptr0 bo)), .one (.lit (ptr0 bv)), .one (.ptr [.ptr (encX g mc)])] [.var (some bo) [.lit (.slice a ts.length cap)], .buf (some (a, cap)) 73 4 (encTms ts), .var (some bv) [.fn 173 [.lit (ptr0 bo), .lit (ptr0 bv), .ptr [.ptr (encX g mc)]]]] (RCand bo bv 173 (.ptr [.ptr (encX g mc)]) 73 us)
def canL (W : Int → List Tm → List Tm) (ts args : List Tm) (i : Nat) : List Tm := ts ++ candsW W (args.take i)
theorem canL_0 (W : Int → List Tm → List Tm) (ts args : List Tm) : canL W ts args 0 = ts := by simp [canL, candsW]
theorem canL_step {W : Int → List Tm → List Tm} {ts args : List Tm} {i : Nat} {b : Tm} (h : args[i]? = some b) : canL W ts args (i + 1) = canL W ts args i ++ candW W b := by
  unfold canL
  rw [candsW_take h, List.append_assoc]
def mskT (ts : List Tm) (F : Nat → List Tm) (m : Nat) : List Tm := ts ++ mskL F m
theorem mskT_1 {ts : List Tm} {F : Nat → List Tm} (h : F 0 = []) : mskT ts F 1 = ts := by simp [mskT, mskL, h]
theorem mskT_yes {ts : List Tm} {F : Nat → List Tm} {m : Nat} {t : Tm} (h : F m = [t]) : mskT ts F (m + 1) = mskT ts F m ++ [t] := by simp [mskT, mskL, h]
theorem mskT_no {ts : List Tm} {F : Nat → List Tm} {m : Nat} (h : F m = []) : mskT ts F (m + 1) = mskT ts F m := by simp [mskT, mskL, h]
set_option maxHeartbeats 16000000 in
set_option maxRecDepth 100000 in
theorem conP_cand_of {g : Sgn} {mc : C} (t : Tm) (hf : FormOk g t) (ts : List Tm) (a : Option Addr) (cap bo bv : Nat) (hne : bo ≠ bv) (hb : bulkRow (encTm t) ≤ 1048576) (hl : ts.length + (candW (partsI g) t).length ≤ 4000000)
    (h : ∀ x ∈ t.args, ∀ (us : List Tm) (a : Option Addr) (cap : Nat), us.length + (candW (partsI g) x).length ≤ 4000000 → CandC g mc bo bv x us a cap (us ++ candW (partsI g) x)) :
    CandC g mc bo bv t ts a cap (ts ++ candW (partsI g) t) := by
  unfold CandC at h ⊢
  have hnode := hf.node
  have h7 := fun o => hf.args7 (o := o)
  obtain ⟨op, nm, so, args⟩ := t
  have hc : encTm (.mk op nm so args) = [.lit (.int .i64 op), .lit (.string nm), .lit (.int .i64 so), .sl (encTms args)] := by simp only [encTm]
  have hn1 : (bo = bv) = False := eq_false hne
  have hn2 : (bv = bo) = False := eq_false (fun e => hne e.symm)
  simp only [Tm.args, Tm.op] at h h7
  simp only [encTm, bulkRow, bulkC, encTms_len] at hb
  simp only [ptr0] at h ⊢
  have e0' : candW (partsI g) (.mk op nm so args) = .mk op nm so args :: (candsW (partsI g) args ++ partsI g op args) := by simp only [candW]
  rw [e0'] at hl ⊢
  simp only [List.length_cons, List.length_append] at hl
  have hm : ts.length + 1 ≤ maxApp := by unfold maxApp; omega
  refine gIP (ts := []) [1001, 1000, 1002] 18889466498826582754271 Tryz.func173 ?_
  (have F := And.intro @hc @tmz; have NN : StopAt 1 := trivial; refine gGn ?_; clear F NN)
  refine gM (ι := Option Addr × Nat) [] [14, 1000, 1001] (fun x => []) (fun x => [(1001, .var (some bo) [.lit (.slice x.1 (ts.length + 1) x.2)]), (14, .buf (some (x.1, x.2)) 73 4 (encTms ts ++ [[.lit (.int .i64 op), .lit (.string nm), .lit (.int .i64 so), .sl (encTms args)]]))]) (fun x => True) ?_ (fun x hx => Exists.intro _ (And.intro (Wk.refl _) ?_))
  · have a1 : (ts.length < ts.length + 1) = True := eq_true (Nat.lt_succ_self _)
    have a2 : ∀ Z : List C, (encTms ts ++ [Z])[ts.length]? = some Z := fun Z => by rw [List.getElem?_append_right (by rw [encTms_len]; exact Nat.le_refl _), encTms_len, Nat.sub_self]; rfl
    have a3 : ∀ Z X : List C, (encTms ts ++ [Z]).set ts.length X = encTms ts ++ [X] := fun Z X => by rw [List.set_append_right _ _ (by rw [encTms_len]; exact Nat.le_refl _), encTms_len, Nat.sub_self]; rfl
    have F := And.intro a1 (And.intro a2 (And.intro a3 (And.intro hc (And.intro @lenNrm (And.intro hm (And.intro hn1 (And.intro hn2 tmz)))))))
    refine gTree 4 ?_
    refine gT1 4 ?_
    refine gS 14 fun a2 cap2 => ?_
    refine runs_nil ?_
    refine gT2 5 7 ?_ ?_
    · refine runs_nil ?_
      refine gT2 6 7 ?_ ?_
      · refine runs_nil ?_
        refine gT1 7 ?_
        refine runs_nil ?_
        refine gT0 ?_
        exact ⟨(a2, cap2), trivial, gw, gw⟩
      · refine runs_nil ?_
        refine gT1 6 ?_
        refine runs_nil ?_
        refine gT0 ?_
        exact ⟨(a2, cap2), trivial, gw, gw⟩
    · refine runs_nil ?_
      refine gT1 5 ?_
      refine runs_nil ?_
      refine gT1 6 ?_
      refine runs_nil ?_
      refine gT0 ?_
      exact ⟨(a2, cap2), trivial, gw, gw⟩
  obtain ⟨a1, cap1⟩ := x
  clear hx hm
  refine pE [14] [1000] (re_refl _) ?_
  have eb : encTms ts ++ [[.lit (.int .i64 op), .lit (.string nm), .lit (.int .i64 so), .sl (encTms args)]] = encTms (ts ++ [.mk op nm so args]) := by rw [encTms_app, encTms_one, hc]
  have el : ts.length + 1 = (ts ++ [Tm.mk op nm so args]).length := by simp
  rw [eb, el]
  have e2 : ts ++ Tm.mk op nm so args :: (candsW (partsI g) args ++ partsI g op args) = ts ++ [.mk op nm so args] ++ (candsW (partsI g) args ++ partsI g op args) := by simp
  rw [e2]
  clear eb e2
  have hl2 : (ts ++ [Tm.mk op nm so args]).length + (candsW (partsI g) args).length + (partsI g op args).length ≤ 4000000 := by rw [← el]; omega
  clear el hl
  generalize ts ++ [Tm.mk op nm so args] = us at hl2 ⊢
  have hal : args.length ≤ 1048576 := by omega
  (have F := And.intro @hc @tmz; refine gG ?_; clear F)
  (have F := @canL_0; refine gL (ι := Nat × Option Addr × Nat) [6, 19, 20] [1000, 1001, 1002] (fun x => [(19, A.d (.one (.lit (.int .i64 x.1))))]) (fun x => [(1001, .var (some bo) [.lit (.slice x.2.1 (canL (partsI g) us args x.1).length x.2.2)]), (1000, .buf (some (x.2.1, x.2.2)) 73 4 (encTms (canL (partsI g) us args x.1))), (1002, .var (some bv) [.fn 173 [.lit (.pointer (some ⟨bo, 0, none⟩)), .lit (.pointer (some ⟨bv, 0, none⟩)), .ptr [.ptr (encX g mc)]]])]) (fun x => x.1 ≤ args.length) (fun x => args.length - x.1) ((0, a1, cap1)) (Nat.zero_le _) (fun x hx => ?_); clear F)
  obtain ⟨i, a2, cap2⟩ := x
  simp only at hx
  dsimp only
  by_cases hlt : i < args.length
  · obtain ⟨b, hg⟩ : ∃ b, args[i]? = some b := ⟨_, List.getElem?_eq_getElem hlt⟩
    have q2 : ((i : Int) < (args.length : Int)) = True := eq_true (by omega)
    have q4 := wrap1 (k := i) (by omega)
    have hle := candsW_le (partsI g) args (i + 1)
    rw [candsW_take hg, List.length_append] at hle
    have hcon := h b (List.mem_of_getElem? hg) (canL (partsI g) us args i) a2 cap2 (by unfold canL; rw [List.length_append]; omega)
    rw [← canL_step hg] at hcon
    (have F := And.intro @q2 (And.intro @hc (And.intro @encTms_len (And.intro @encTms_get (And.intro @hg @tmz)))); refine gG ?_; clear F)
    refine gB ?_
    (have F := And.intro @ktF (And.intro @hn1 (And.intro @hn2 @tmz)); refine gCP [1001, 1000, 1002] [1001, 1000, 1002] (hcon) ?_; clear F)
    rintro r pm ⟨a3, cap3, rfl, rfl⟩
    simp only [ptr0, setA, retA, zipM, List.cons_append, List.nil_append]
    (have F := @tmz; refine gR ?_; clear F)
    (have F := @q4; refine gG ?_; exact ⟨(i + 1, a3, cap3), hlt, gw, gw, by omega⟩)
  obtain rfl : i = args.length := by omega
  have q2 : ((args.length : Int) < (args.length : Int)) = False := eq_false (by omega)
  have ecan : canL (partsI g) us args args.length = us ++ candsW (partsI g) args := by unfold canL; rw [List.take_length]
  have hl3 : (canL (partsI g) us args args.length).length + (partsI g op args).length ≤ 4000000 := by rw [ecan, List.length_append]; omega
  have egoal : us ++ (candsW (partsI g) args ++ partsI g op args) = canL (partsI g) us args args.length ++ partsI g op args := by rw [ecan, List.append_assoc]
  rw [egoal]
  clear egoal ecan hl2 h
  generalize canL (partsI g) us args args.length = vs at hl3 ⊢
  have hstop : partsI g op args = [] → RCand bo bv 173 (.ptr [.ptr (encX g mc)]) 73 (vs ++ partsI g op args) [] [.var (some bo) [.lit (.slice a2 vs.length cap2)], .buf (some (a2, cap2)) 73 4 (encTms vs), .var (some bv) [.fn 173 [.lit (.pointer (some ⟨bo, 0, none⟩)), .lit (.pointer (some ⟨bv, 0, none⟩)), .ptr [.ptr (encX g mc)]]]] := fun e => by
    rw [e, List.append_nil]
    exact ⟨a2, cap2, rfl, rfl⟩
  rcases hnode with hv | ⟨o, d, hA⟩
  · have h1 : op = -1 := hv.1
    have q3 : (op < 0) = True := eq_true (by omega)
    have hR := hstop (by simp [partsI, h1])
    subst h1
    have q5 : ((-1 : Int) < 0) = True := eq_true (by omega)
    (have F := And.intro @q2 (And.intro @hc (And.intro @q5 @tmz)); refine gG ?_; clear F)
    exact (have F := tmz; gTP [1001, 1000, 1002] hR)
  have h0 : 0 ≤ op := hA.lo
  have ho : g.ops[op.toNat]? = some o := hA.at'
  have hneg : ¬ (op < 0) := by omega
  have e9 : partsI g op args = if o.assoc = true then mskL (partOf op (rowP o.comm) args) (2 ^ args.length) else [] := by simp only [partsI, if_neg hneg, ho]
  rw [e9] at hl3 hstop ⊢
  clear e9
  cases ha : o.assoc with
  | false =>
    rw [ha] at hstop
    have hR := hstop rfl
    (have F := And.intro @q2 (And.intro @hc (And.intro @hneg (And.intro @encX_u (And.intro @h0 (And.intro @ho (And.intro @encOpr_u (And.intro @ha @tmz))))))); refine gG ?_; clear F)
    exact (have F := tmz; gTP [1001, 1000, 1002] hR)
  | true =>
  rw [ha, if_pos rfl] at hl3
  rw [if_pos rfl]
  clear hstop
  obtain ⟨hn2', hn7⟩ := h7 o hneg ho ha
  have hp7 : 2 ^ args.length ≤ 128 := Nat.pow_le_pow_right (by decide : 0 < 2) hn7
  have hp1 : 1 < 2 ^ args.length := Nat.one_lt_two_pow (by omega)
  (have F := And.intro @q2 (And.intro @hc (And.intro @hneg (And.intro @encX_u (And.intro @h0 (And.intro @ho (And.intro @encOpr_u (And.intro @ha @tmz))))))); refine gG ?_; clear F)
  (have F := And.intro @natInt (((mskT_1 (ts := vs) (partOf_0 op (rowP o.comm) args)))); refine gL (ι := Nat × Option Addr × Nat) [8, 9, 49, 74] [1000, 1001] (fun x => [(8, A.d (.one (.lit (.int .i64 x.1))))]) (fun x => [(1001, .var (some bo) [.lit (.slice x.2.1 (mskT vs (partOf op (rowP o.comm) args) x.1).length x.2.2)]), (1000, .buf (some (x.2.1, x.2.2)) 73 4 (encTms (mskT vs (partOf op (rowP o.comm) args) x.1)))]) (fun x => 1 ≤ x.1 ∧ x.1 ≤ 2 ^ args.length) (fun x => 2 ^ args.length - x.1) ((1, a2, cap2)) (⟨Nat.le_refl _, by omega⟩) (fun x hx => ?_); clear F)
  obtain ⟨m, a3, cap3⟩ := x
  simp only at hx
  obtain ⟨hm1, hm2⟩ := hx
  dsimp only
  have hmm := mskL_mono (partOf op (rowP o.comm) args) hm2
  have hlm : (mskT vs (partOf op (rowP o.comm) args) m).length ≤ 4000000 := by unfold mskT; rw [List.length_append]; omega
  have hsh := shl_k (k := args.length) (by omega)
  by_cases hlt : m < 2 ^ args.length
  rotate_left
  · obtain rfl : m = 2 ^ args.length := by omega
    have q3 : ((((2 ^ args.length : Nat) : Int)) < ((2 ^ args.length : Nat) : Int)) = False := eq_false (by omega)
    have hR : RCand bo bv 173 (.ptr [.ptr (encX g mc)]) 73 (vs ++ mskL (partOf op (rowP o.comm) args) (2 ^ args.length)) [] [.var (some bo) [.lit (.slice a3 (mskT vs (partOf op (rowP o.comm) args) (2 ^ args.length)).length cap3)], .buf (some (a3, cap3)) 73 4 (encTms (mskT vs (partOf op (rowP o.comm) args) (2 ^ args.length))), .var (some bv) [.fn 173 [.lit (.pointer (some ⟨bo, 0, none⟩)), .lit (.pointer (some ⟨bv, 0, none⟩)), .ptr [.ptr (encX g mc)]]]] := ⟨a3, cap3, rfl, rfl⟩
    (have F := And.intro @hsh (And.intro @natInt @q3); refine gG ?_; clear F)
    exact (have F := tmz; gTPn [1001, 1000, 1002] hR)
  have q3 : ((m : Int) < ((2 ^ args.length : Nat) : Int)) = True := eq_true (by omega)
  have hw := wrap1 (k := m) (by omega)
  have hcp := con_pick (m := m) (by omega) args (by omega)
  (have F := And.intro @hsh (And.intro @natInt (And.intro @q3 (And.intro @hc @tmz))); refine gG ?_; clear F)
  refine gB ?_
  (have F := And.intro @hc @tmz; refine gC (hcp) ?_; clear F)
  (have F := And.intro @hc @tmz; refine gR ?_; clear F)
  have hpl : (pkAll m args).length ≤ 7 := Nat.le_trans (pkTo_len m args _) hn7
  (have F := @tmz; have NN : StopAt 13 := trivial; refine gGn ?_; clear F NN)
  refine gM (ι := Bool) [74] [] (fun u => [(74, A.d (.one (.lit (.bool u))))]) (fun u => []) (fun u => u = decide (2 ≤ (pkAll m args).length ∧ rowP o.comm m = true)) ?_ (fun u hu => Exists.intro _ (And.intro (Wk.refl _) ?_))
  · by_cases h2 : 2 ≤ (pkAll m args).length
    rotate_left
    · have hd : decide (2 ≤ (pkAll m args).length ∧ rowP o.comm m = true) = false := decide_eq_false fun h => h2 h.1
      have z : ((2 : Int) ≤ ((pkAll m args).length : Int)) = False := eq_false (by omega)
      (have F := And.intro @z @tmz; refine gG ?_; exact ⟨false, hd.symm, gw, gw⟩)
    have z : ((2 : Int) ≤ ((pkAll m args).length : Int)) = True := eq_true (by omega)
    cases hcm : o.comm with
    | true =>
      have hd : decide (2 ≤ (pkAll m args).length ∧ rowP true m = true) = true := decide_eq_true ⟨h2, rfl⟩
      (have F := And.intro @z (And.intro @hcm (And.intro @hc (And.intro @hneg (And.intro @encX_u (And.intro @h0 (And.intro @ho (And.intro @encOpr_u @tmz))))))); refine gG ?_; exact ⟨true, hd.symm, gw, gw⟩)
    | false =>
      have hd : decide (2 ≤ (pkAll m args).length ∧ rowP false m = true) = rowI m := by simp [rowP, h2]
      refine gB ?_
      (have F := And.intro @z (And.intro @hcm (And.intro @hc (And.intro @hneg (And.intro @encX_u (And.intro @h0 (And.intro @ho (And.intro @encOpr_u @tmz))))))); refine gC (con_isRow (m : Int)) ?_; clear F)
      (have F := @tmz; refine gR ?_; clear F)
      exact ⟨rowI m, hd.symm, (have F := hd; gw), (have F := hd; gw)⟩
  cases u with
  | false =>
    have e := mskT_no (ts := vs) (partOf_no (op := op) (of_decide_eq_false hu.symm))
    (have F := And.intro @hw @e; refine gG ?_; exact ⟨(m + 1, a3, cap3), ⟨by omega, hlt⟩, gw, gw, by omega⟩)
  | true =>
  have hu2 := of_decide_eq_true hu.symm
  have e := mskT_yes (ts := vs) (partOf_yes (op := op) hu2.1 hu2.2)
  generalize mskT vs (partOf op (rowP o.comm) args) m = us at hlm e ⊢
  have hm : us.length + 1 ≤ maxApp := by unfold maxApp; omega
  (have F := @tmz; have NN : StopAt 14 := trivial; refine gGn ?_; clear F NN)
  refine gM (ι := Option Addr × Nat) [] [82, 1000, 1001] (fun x => []) (fun x => [(1001, .var (some bo) [.lit (.slice x.1 (us.length + 1) x.2)]), (82, .buf (some (x.1, x.2)) 73 4 (encTms us ++ [[.lit (.int .i64 op), .lit (.string ByteArray.empty), .lit (.int .i64 0), .sl (encTms (pkAll m args))]]))]) (fun x => True) ?_ (fun x hx => Exists.intro _ (And.intro (Wk.refl _) ?_))
  · have a1 : (us.length < us.length + 1) = True := eq_true (Nat.lt_succ_self _)
    have a2 : ∀ Z : List C, (encTms us ++ [Z])[us.length]? = some Z := fun Z => by rw [List.getElem?_append_right (by rw [encTms_len]; exact Nat.le_refl _), encTms_len, Nat.sub_self]; rfl
    have a3 : ∀ Z X : List C, (encTms us ++ [Z]).set us.length X = encTms us ++ [X] := fun Z X => by rw [List.set_append_right _ _ (by rw [encTms_len]; exact Nat.le_refl _), encTms_len, Nat.sub_self]; rfl
    have F := And.intro a1 (And.intro a2 (And.intro a3 (And.intro hc (And.intro @lenNrm (And.intro hm (And.intro hn1 (And.intro hn2 tmz)))))))
    refine gTree 7 ?_
    refine gT1 7 ?_
    refine gS 82 fun a2 cap2 => ?_
    refine runs_nil ?_
    refine gT2 8 10 ?_ ?_
    · refine runs_nil ?_
      refine gT2 9 10 ?_ ?_
      · refine runs_nil ?_
        refine gT1 10 ?_
        refine runs_nil ?_
        refine gT0 ?_
        exact ⟨(a2, cap2), trivial, gw, gw⟩
      · refine runs_nil ?_
        refine gT1 9 ?_
        refine runs_nil ?_
        refine gT0 ?_
        exact ⟨(a2, cap2), trivial, gw, gw⟩
    · refine runs_nil ?_
      refine gT1 8 ?_
      refine runs_nil ?_
      refine gT1 9 ?_
      refine runs_nil ?_
      refine gT0 ?_
      exact ⟨(a2, cap2), trivial, gw, gw⟩
  obtain ⟨a4, cap4⟩ := x
  clear hx
  refine pE [82] [1000] (re_refl _) ?_
  have eb : encTms us ++ [[.lit (.int .i64 op), .lit (.string ByteArray.empty), .lit (.int .i64 0), .sl (encTms (pkAll m args))]] = encTms (us ++ [.mk op ByteArray.empty 0 (pkAll m args)]) := by rw [encTms_app, encTms_one]; simp only [encTm]
  have el : us.length + 1 = (us ++ [Tm.mk op ByteArray.empty 0 (pkAll m args)]).length := by simp
  rw [eb, el, ← e]
  clear eb el
  (have F := @hw; refine gG ?_; exact ⟨(m + 1, a4, cap4), ⟨by omega, hlt⟩, gw, gw, by omega⟩)
theorem conP_cand_n {g : Sgn} {mc : C} (bo bv : Nat) (hne : bo ≠ bv) (n : Nat) : ∀ (t : Tm), nodesRow (encTm t) < n → FormOk g t → bulkRow (encTm t) ≤ 1048576 → ∀ (ts : List Tm) (a : Option Addr) (cap : Nat), ts.length + (candW (partsI g) t).length ≤ 4000000 → CandC g mc bo bv t ts a cap (ts ++ candW (partsI g) t) := by
  induction n with
  | zero => exact fun _ h => by omega
  | succ n ih =>
    intro t hn hf hb ts a cap hl
    refine conP_cand_of t hf ts a cap bo bv hne hb hl fun x hx us a cap hl2 => ih x ?_ (hf.argC hx) ?_ us a cap hl2
    · obtain ⟨op, nm, so, args⟩ := t
      simp only [encTm, nodesRow, nodesC] at hn
      simp only [Tm.args] at hx
      obtain ⟨i, hi⟩ := List.getElem?_of_mem hx
      have hi' : (encTms args)[i]? = some (encTm x) := by rw [encTms_get, hi]; rfl
      have h1 := nodes_get hi'
      omega
    · obtain ⟨op, nm, so, args⟩ := t
      simp only [encTm, bulkRow, bulkC] at hb
      simp only [Tm.args] at hx
      obtain ⟨i, hi⟩ := List.getElem?_of_mem hx
      have hi' : (encTms args)[i]? = some (encTm x) := by rw [encTms_get, hi]; rfl
      have h1 := bulk_get hi'
      omega
theorem unit_enc {o : Opr} (h : ¬ o.unit = 0) : encTm (unitTm o) = [.lit (.int .i64 (o.unit - 1)), .lit (.string ByteArray.empty), .lit (.int .i64 0), .sl []] := by
  rw [unitTm, if_neg h]; simp only [encTm, encTms]
set_option maxHeartbeats 16000000 in
set_option maxRecDepth 100000 in
theorem con_cands {g : Sgn} {mc : C} (hg : SgnOk g) {t : Tm} (ht : TermOk g t) (hb : bulkRow (encTm t) ≤ 1048576) : Con e0 106 [.one (.ptr (encX g mc)), .agg (encTm t)] [.one (.sl (encTms (candI g t)))] := by
  have hln := hg.len
  have hcl := candI_len ht.form
  have hsz := ht.size
  have hul := units_len g.ops
  refine gI (ts := [.slot 4]) 4440511 Tryz.func106 ?_
  (have F := @tmz; have NN : StopAt 1 := trivial; refine gGn ?_; clear F NN)
  refine gB ?_
  (have F := @tmz; refine gP 1 ?_; clear F)
  refine gO 9 73 4 ?_
  refine gS 9 fun a cap => ?_
  (have F := @tmz; refine gR ?_; clear F)
  repeat (with_reducible refine pwp_seqW ?_)
  (have F := And.intro @encX_u @tmz; refine gF [2] ?_; clear F)
  (have F := And.intro @encX_u @tmz; refine gG ?_; clear F)
  (have F := And.intro @units_0 @encTms_nil'; refine gL (ι := Nat × Option Addr × Nat) [7, 16, 17, 22] [5, 9] (fun x => [(16, A.d (.one (.lit (.int .i64 x.1))))]) (fun x => [(5, .var none [.lit (.slice x.2.1 (unitsTo g.ops x.1).length x.2.2)]), (9, .buf (some (x.2.1, x.2.2)) 73 4 (encTms (unitsTo g.ops x.1)))]) (fun x => x.1 ≤ g.ops.length) (fun x => g.ops.length - x.1) ((0, a, cap)) (Nat.zero_le _) (fun x hx => ?_); clear F)
  obtain ⟨i, a2, cap2⟩ := x
  simp only at hx
  dsimp only
  by_cases hlt : i < g.ops.length
  · obtain ⟨o, ho⟩ : ∃ b, g.ops[i]? = some b := ⟨_, List.getElem?_eq_getElem hlt⟩
    have q2 : ((i : Int) < (g.ops.length : Int)) = True := eq_true (by omega)
    have q4 := wrap1 (k := i) (by omega)
    by_cases hu : o.unit = 0
    · have e := units_no ho hu
      have z : (o.unit = 0) = True := eq_true hu
      (have F := And.intro @q2 (And.intro @ho (And.intro @encOpr_u (And.intro @z (And.intro @q4 @e)))); refine gG ?_; exact ⟨(i + 1, a2, cap2), hlt, gw, gw, by omega⟩)
    have z : (o.unit = 0) = False := eq_false hu
    have e := units_yes ho hu
    have hul := hul i
    have hax := hg.axs o (List.mem_of_getElem? ho)
    have hlo := hax.lo
    have hhi := hax.hi
    have hwu : IntKind.i64.wrap (o.unit - 1) = o.unit - 1 := wrapN rfl (by omega) (by omega)
    generalize unitsTo g.ops i = us at hul e ⊢
    have hm : us.length + 1 ≤ maxApp := by unfold maxApp; omega
    (have F := And.intro @q2 (And.intro @ho (And.intro @encOpr_u (And.intro @z @tmz))); have NN : StopAt 6 := trivial; refine gGn ?_; clear F NN)
    refine gM (ι := Option Addr × Nat) [] [30, 5, 9] (fun x => []) (fun x => [(5, .var none [.lit (.slice x.1 (us.length + 1) x.2)]), (30, .buf (some (x.1, x.2)) 73 4 (encTms us ++ [[.lit (.int .i64 (o.unit - 1)), .lit (.string ByteArray.empty), .lit (.int .i64 0), .sl []]]))]) (fun x => True) ?_ (fun x hx => Exists.intro _ (And.intro (Wk.refl _) ?_))
    · have a1 : (us.length < us.length + 1) = True := eq_true (Nat.lt_succ_self _)
      have a2 : ∀ Z : List C, (encTms us ++ [Z])[us.length]? = some Z := fun Z => by rw [List.getElem?_append_right (by rw [encTms_len]; exact Nat.le_refl _), encTms_len, Nat.sub_self]; rfl
      have a3 : ∀ Z X : List C, (encTms us ++ [Z]).set us.length X = encTms us ++ [X] := fun Z X => by rw [List.set_append_right _ _ (by rw [encTms_len]; exact Nat.le_refl _), encTms_len, Nat.sub_self]; rfl
      have F := And.intro a1 (And.intro a2 (And.intro a3 (And.intro hwu (And.intro @lenNrm (And.intro hm (And.intro @encOpr_u tmz))))))
      refine gTree 7 ?_
      refine gT1 7 ?_
      refine gS 30 fun a2 cap2 => ?_
      refine runs_nil ?_
      refine gT2 8 10 ?_ ?_
      · refine runs_nil ?_
        refine gT2 9 10 ?_ ?_
        · refine runs_nil ?_
          refine gT1 10 ?_
          refine runs_nil ?_
          refine gT0 ?_
          exact ⟨(a2, cap2), trivial, gw, gw⟩
        · refine runs_nil ?_
          refine gT1 9 ?_
          refine runs_nil ?_
          refine gT0 ?_
          exact ⟨(a2, cap2), trivial, gw, gw⟩
      · refine runs_nil ?_
        refine gT1 8 ?_
        refine runs_nil ?_
        refine gT1 9 ?_
        refine runs_nil ?_
        refine gT0 ?_
        exact ⟨(a2, cap2), trivial, gw, gw⟩
    obtain ⟨a4, cap4⟩ := x
    clear hx
    refine pE [30] [9] (re_refl _) ?_
    rw [show encTms us ++ [[.lit (.int .i64 (o.unit - 1)), .lit (.string ByteArray.empty), .lit (.int .i64 0), .sl []]] = encTms (us ++ [unitTm o]) by rw [encTms_app, encTms_one, unit_enc hu], show us.length + 1 = (us ++ [unitTm o]).length by simp, ← e]
    (have F := @q4; refine gG ?_; exact ⟨(i + 1, a4, cap4), hlt, gw, gw, by omega⟩)
  obtain rfl : i = g.ops.length := by omega
  have q2 : ((g.ops.length : Int) < (g.ops.length : Int)) = False := eq_false (by omega)
  (have F := And.intro @q2 (And.intro @otF (And.intro @ztF @tmz)); have NN : StopAt 9 := trivial; refine gGn ?_; clear F NN)
  refine pV 5 fun b5 hb5 => ?_
  refine pV 8 fun b8 hb8 => ?_
  have hne : b5 ≠ b8 := fun e => hb8 5 b5 _ (by decide) rfl e.symm
  clear hb5 hb8
  have hn1 : (b5 = b8) = False := eq_false hne
  have hn2 : (b8 = b5) = False := eq_false (fun e => hne e.symm)
  (have F := And.intro @ktF (And.intro @ztF (And.intro @okNilF (And.intro @okFn (And.intro @hn1 (And.intro @hn2 @tmz))))); have NN : StopAt 10 := trivial; refine gGn ?_; clear F NN)
  refine gB ?_
  have hul := hul g.ops.length
  have hcon := conP_cand_n (mc := mc) b5 b8 hne _ t (Nat.lt_succ_self _) ht.form hb (unitsTo g.ops g.ops.length) a2 cap2 (by omega)
  have hdis := fun (a : Option Addr) (cap : Nat) => conP_distinct (unitsTo g.ops g.ops.length ++ candW (partsI g) t) (by rw [List.length_append]; omega) a cap
  have ecd : distTm (unitsTo g.ops g.ops.length ++ candW (partsI g) t) = candI g t := rfl
  rw [ecd] at hdis
  simp only [CandC, ptr0, encX] at hcon
  (have F := And.intro @ktF (And.intro @hn1 (And.intro @hn2 @tmz)); refine gCP [5, 9, 8] [5, 9, 8] (hcon) ?_; clear F)
  rintro r pm ⟨a3, cap3, rfl, rfl⟩
  simp only [ptr0, setA, retA, zipM, List.cons_append, List.nil_append]
  (have F := @tmz; refine gR ?_; clear F)
  (have F := @tmz; refine gG ?_; clear F)
  refine gB ?_
  (have F := And.intro @hn1 (And.intro @hn2 @tmz); refine gCP [9] [9] (hdis a3 cap3) ?_; clear F)
  rintro r pm ⟨rfl, rfl⟩
  simp only [setA, retA, zipM, List.cons_append, List.nil_append]
  (have F := @tmz; refine gR ?_; clear F)
  refine pD 9 [4] [] ?_ (hs := by simp only [pz, ↓reduceIte, Nat.reduceEqDiff, Nat.reduceAdd, Nat.reduceSub, Nat.reduceMul, Nat.reduceLeDiff, Nat.reduceBEq, Bool.false_eq_true, decide_true, decide_false, Int.reduceLE, Int.reduceToNat, Int.reduceLT, Int.reduceEq, eq_self, Nat.reduceShiftRight, Nat.reduceAnd, Nat.reduceBneDiff]; exact rfl)
  (have F := @tmz; refine gG ?_; exact gTd)
set_option maxHeartbeats 8000000 in
set_option maxRecDepth 100000 in
theorem conP_implCand {g : Sgn} (hok : okSgn g) {t : Tm} (ht : okTm t) (hb : bulkRow (encTm t) ≤ 1048576) : ConP e0 45 [.agg (encSgn g), .agg (encTm t)] [] (RTreeS (encTms (candT g t))) := by
  by_cases hg : SgnOk g
  rotate_left
  · have e : candT g t = [] := candT_no fun h => hg h.1
    have c := con_newAlg_not hok hg
    rw [encSgn] at c
    rw [e, encTms_nil, encSgn]
    refine gIP (ts := [.slot 4]) [] 524415 Tryz.func45 ?_
    (have F := @tmz; refine gG ?_; clear F)
    refine gB ?_
    (have F := @tmz; refine gC (c) ?_; clear F)
    (have F := @tmz; refine gR ?_; clear F)
    (have F := @tmz; refine gG ?_; clear F)
    refine pS 4 (fun a cap => ?_)
    obtain ⟨E9, hre⟩ := re_rows (a := a) (cap := cap) (ety := 73) (sz := 4) (rows := []) (us := []) rfl
    refine pE [4] [4] hre ?_
    exact (have F := hg; gTP (R := RTreeS []) [4] ⟨_, E9, rfl, rfl, rfl⟩)
  have c := conE_newAlg hok hg
  rw [encSgn] at c
  rw [encSgn]
  refine gIP (ts := [.slot 4]) [] 524415 Tryz.func45 ?_
  (have F := @tmz; refine gG ?_; clear F)
  refine gB ?_
  (have F := @tmz; refine gCE (c) ?_; clear F)
  rintro r ⟨b, rfl⟩
  have c1 := con_implIsT (mc := .lit (.map (some b))) hg ht (big_of_bulk hb)
  have c2 := fun h => con_cands (mc := .lit (.map (some b))) hg (t := t) h hb
  generalize C.lit (.map (some b)) = mc at c1 c2 ⊢
  (have F := And.intro @retA_u @sa_some; refine gR ?_; clear F)
  (have F := @tmz; refine gG ?_; clear F)
  refine gB ?_
  (have F := @tmz; refine gC (c1) ?_; clear F)
  cases h1 : isTerm g t with
  | false =>
    have e : candT g t = [] := candT_no fun h => by rw [isTerm_iff.2 h.2] at h1; cases h1
    rw [e, encTms_nil]
    (have F := @tmz; refine gR ?_; clear F)
    (have F := @tmz; refine gG ?_; clear F)
    refine pS 4 (fun a cap => ?_)
    obtain ⟨E9, hre⟩ := re_rows (a := a) (cap := cap) (ety := 73) (sz := 4) (rows := []) (us := []) rfl
    refine pE [4] [4] hre ?_
    exact (have F := hg; gTP (R := RTreeS []) [4] ⟨_, E9, rfl, rfl, rfl⟩)
  | true =>
  have hT := isTerm_iff.1 h1
  have hB := cand_tmsB hg hT
  have cc := con_copyTerms_of (candI g t) hB fun x hx => con_copyTerm x (by
    obtain ⟨i, hi⟩ := List.getElem?_of_mem hx
    have hi' : (encTms (candI g t))[i]? = some (encTm x) := by rw [encTms_get, hi]; rfl
    have := bulk_get hi'
    unfold tmsB at hB
    omega)
  rw [candT_yes hg hT]
  (have F := @tmz; refine gR ?_; clear F)
  (have F := @tmz; refine gG ?_; clear F)
  refine gB ?_
  (have F := @tmz; refine gC (c2 hT) ?_; clear F)
  (have F := @tmz; refine gCP [] [1000, 1001] (cc) ?_; clear F)
  rintro r pm ⟨a, cap, uss, E, rfl, hu, rfl⟩
  simp only [setA, retA, zipM, List.cons_append, List.nil_append]
  (have F := @tmz; refine gR ?_; clear F)
  (have F := @tmz; refine gG ?_; clear F)
  refine pE [1000, 1001] [1000] (re_close (G' := fun w => Own w (.sl (encTms (candI g t))) (fun b => vblk (.slice a uss.length cap) = some b ∨ E b) (.slice a uss.length cap)) (fun w h => h) (Own.stable _ _ _)) ?_
  exact (have F := hg; gTP (R := RTreeS (encTms (candI g t))) [1000] ⟨_, _, rfl, rfl, rfl⟩)
end Go.Proofs.YtofklmbljbkdaaaGreat
namespace Go.Proofs.YtofklmbljbkdaaaGreat
open Go.RowKit
theorem colT_msk (F : Nat → List Tm) (k : Nat) (r : List Tm) : colT (mskL F (k + 1)) r = colT (F k) (colT (mskL F k) r) := by rw [mskL, colT_app]
theorem colT_one (x : Tm) (r : List Tm) : colT [x] r = insTm x r := rfl
theorem colT_no (r : List Tm) : colT [] r = r := rfl
theorem colT_msk1 {F : Nat → List Tm} (h : F 0 = []) (r : List Tm) : colT (mskL F 1) r = r := by simp [mskL, h, colT]
theorem cands_no (W : Int → List Tm → List Tm) (r : List Tm) : colT (candsW W []) r = r := by simp [candsW, colT]
theorem iv_no0 (op : Int) (ts r : List Tm) : colT (ivI op ts 0) r = r := by simp [ivI, mskL, colT]
theorem ivJ_no0 (op : Int) (ts : List Tm) (i : Nat) (r : List Tm) : colT (ivJ op ts i 0) r = r := by simp [ivJ, mskL, colT]
theorem ivJ_step (op : Int) (ts : List Tm) (i k : Nat) (r : List Tm) : colT (ivJ op ts i (k + 1)) r = insTm (.mk op ByteArray.empty 0 ((ts.take (i + 2 + k)).drop i)) (colT (ivJ op ts i k) r) := by
  unfold ivJ
  rw [colT_msk]; rfl
theorem ivI_step (op : Int) (ts : List Tm) (i : Nat) (r : List Tm) : colT (ivI op ts (i + 1)) r = colT (ivJ op ts i (ts.length - (i + 1))) (colT (ivI op ts i) r) := by
  unfold ivI
  rw [colT_msk]
def PartC (g : Sgn) (t : Tm) (ts us : List Tm) : Prop := Con e0 168 [.agg (encSgn g), .agg (encTm t), .one (.sl (encTms ts))] [.one (.sl (encTms us))]
section
variable {g : Sgn}
theorem part_ok {op : Int} {us args : List Tm} (ho : I64 op) (ha : okTms args) (hs : us.Sublist args) : okTm (.mk op ByteArray.empty 0 us) := by
  simp only [okTm]
  exact ⟨ho, by simp [maxLen], ⟨by decide, by decide⟩, okTms_iff.2 fun a h => okTms_iff.1 ha a (hs.subset h)⟩
theorem msk_ok {op : Int} {P : Nat → Bool} {args : List Tm} (ho : I64 op) (ha : okTms args) (k : Nat) : okTms (mskL (partOf op P args) k) :=
  okTms_iff.2 fun x hx => by
    obtain ⟨us, hs, rfl⟩ := parts_mem hx
    exact part_ok ho ha hs
theorem ivJ_ok {op : Int} {args : List Tm} (ho : I64 op) (ha : okTms args) (i k : Nat) : okTms (ivJ op args i k) :=
  okTms_iff.2 fun x hx => by
    obtain ⟨m, _, hm⟩ := mem_mskL.1 hx
    rw [List.mem_singleton] at hm
    subst hm
    exact part_ok ho ha ((List.drop_sublist _ _).trans (List.take_sublist _ _))
theorem ivI_ok {op : Int} {args : List Tm} (ho : I64 op) (ha : okTms args) (i : Nat) : okTms (ivI op args i) :=
  okTms_iff.2 fun x hx => by
    obtain ⟨m, _, hm⟩ := mem_mskL.1 hx
    exact okTms_iff.1 (ivJ_ok ho ha m _) x hm
theorem cands_ok {l : List Tm} (h : okTms l) : okTms (candsW (partsS g) l) := by
  induction l with
  | nil => simp [candsW, okTms]
  | cons t l ih =>
    simp only [okTms] at h
    simp only [candsW]
    exact okTms_app (cand_ok partsS_mem h.1) (ih h.2)
set_option maxHeartbeats 16000000 in
set_option maxRecDepth 100000 in
theorem con_l10Parts_of (t : Tm) (hf : FormOk g t) (ht : okTm t) (ts : List Tm) (hts : okTms ts) (hb : bulkRow (encTm t) ≤ 1048576) (hl : ts.length + (candW (partsS g) t).length ≤ 7000000)
    (h : ∀ x ∈ t.args, ∀ us : List Tm, okTms us → us.length + (candW (partsS g) x).length ≤ 7000000 → PartC g x us (colT (candW (partsS g) x) us)) : PartC g t ts (colT (candW (partsS g) t) ts) := by
  unfold PartC at h ⊢
  rw [encSgn] at h ⊢
  have hnode := hf.node
  have h7 := fun o => hf.args7 (o := o)
  have hI := con_l5Insert ts t hts ht (by omega)
  obtain ⟨op, nm, so, args⟩ := t
  have hc : encTm (.mk op nm so args) = [.lit (.int .i64 op), .lit (.string nm), .lit (.int .i64 so), .sl (encTms args)] := by simp only [encTm]
  simp only [Tm.args, Tm.op] at h h7
  have hka : okTms args := by simp only [okTm] at ht; exact ht.2.2.2
  have hko : I64 op := by simp only [okTm] at ht; exact ht.1
  have h1 := insTm_ok ht hts
  have h2 := colT_len [Tm.mk op nm so args] ts
  rw [colT_one] at h2
  simp only [List.length_cons, List.length_nil] at h2
  simp only [encTm, bulkRow, bulkC, encTms_len] at hb
  have e0' : colT (candW (partsS g) (.mk op nm so args)) ts = colT (partsS g op args) (colT (candsW (partsS g) args) (insTm (.mk op nm so args) ts)) := by simp only [candW]; rw [← colT_app]; rfl
  rw [e0']
  simp only [candW, List.length_cons, List.length_append] at hl
  generalize insTm (Tm.mk op nm so args) ts = us at hI h1 h2 e0' ⊢
  clear e0'
  have hal : args.length ≤ 1048576 := by omega
  refine gI (ts := [.slot 6]) 319390949205364956188664414175 Tryz.func168 ?_
  (have F := And.intro @hc @tmz; refine gG ?_; clear F)
  refine gB ?_
  (have F := And.intro @hc @tmz; refine gC (hI) ?_; clear F)
  (have F := @tmz; refine gR ?_; clear F)
  (have F := @tmz; refine gG ?_; clear F)
  (have F := And.intro ((cands_no (partsS g))) @tmz; refine gL (ι := Nat) [2, 7, 21] [] (fun x => [(7, A.d (.one (.lit (.int .i64 x)))), (2, .d (.one (.sl (encTms (colT (candsW (partsS g) (args.take x)) us)))))]) (fun x => []) (fun x => x ≤ args.length) (fun x => args.length - x) (0) (Nat.zero_le _) (fun x hx => ?_); clear F)
  by_cases hlt : x < args.length
  · obtain ⟨b, hg⟩ : ∃ b, args[x]? = some b := ⟨_, List.getElem?_eq_getElem hlt⟩
    have q2 : ((x : Int) < (args.length : Int)) = True := eq_true (by omega)
    have q4 := wrap1 (k := x) (by omega)
    have hct := candsW_take (W := partsS g) hg
    have hle := candsW_le (partsS g) args (x + 1)
    rw [hct, List.length_append] at hle
    have hcl := colT_len (candsW (partsS g) (args.take x)) us
    have hcon := h b (List.mem_of_getElem? hg) (colT (candsW (partsS g) (args.take x)) us) (colT_ok (cands_ok (okTms_take x hka)) h1) (by omega)
    rw [← colT_app, ← hct] at hcon
    (have F := And.intro @q2 (And.intro @hc @tmz); refine gG ?_; clear F)
    refine gB ?_
    (have F := And.intro @q2 (And.intro @hc (And.intro @hg @tmz)); refine gC (hcon) ?_; clear F)
    (have F := @tmz; refine gR ?_; clear F)
    (have F := @q4; refine gG ?_; exact ⟨x + 1, hlt, gw, gw, by omega⟩)
  obtain rfl : x = args.length := by omega
  have q2 : ((args.length : Int) < (args.length : Int)) = False := eq_false (by omega)
  rw [List.take_length]
  have hcl := colT_len (candsW (partsS g) args) us
  have h3 := colT_ok (cands_ok (g := g) hka) h1
  generalize colT (candsW (partsS g) args) us = vs at hcl h3 ⊢
  rcases hnode with hv | ⟨o, d, hA⟩
  · have hv1 : op = -1 := hv.1
    have e : colT (partsS g op args) vs = vs := by simp [partsS, hv1, colT]
    rw [e]
    (have F := And.intro @q2 (And.intro @hc (And.intro @hv1 @tmz)); refine gG ?_; exact gTd)
  have h0 : 0 ≤ op := hA.lo
  have hnn : ¬ (op = -1) := by omega
  have ho : g.ops[op.toNat]? = some o := hA.at'
  have hneg : ¬ (op < 0) := by omega
  have e9 : partsS g op args = if o.assoc = true then (if o.comm = true then mskL (partOf op (fun _ => true) args) (2 ^ args.length) else ivI op args args.length) else [] := by simp only [partsS, if_neg hneg, ho]
  rw [e9] at hl ⊢
  clear e9
  cases ha : o.assoc with
  | false =>
    rw [if_neg (by simp), colT_no]
    (have F := And.intro @q2 (And.intro @hc (And.intro @hnn (And.intro @h0 (And.intro @ho (And.intro @encOpr_u (And.intro @ha @tmz)))))); refine gG ?_; exact gTd)
  | true =>
  rw [ha, if_pos rfl] at hl
  rw [if_pos rfl]
  obtain ⟨hn2', hn7⟩ := h7 o hneg ho ha
  have hp7 : 2 ^ args.length ≤ 128 := Nat.pow_le_pow_right (by decide : 0 < 2) hn7
  have hp1 : 1 < 2 ^ args.length := Nat.one_lt_two_pow (by omega)
  cases hcm : o.comm with
  | true =>
    rw [if_pos rfl]
    have hpl := parts_len op (fun _ => true) hn7
    have hf0 := partOf_0 op (fun _ => true) args
    have hlb := con_l2Bit (k := args.length) (by omega)
    (have F := And.intro @q2 (And.intro @hc (And.intro @hnn (And.intro @h0 (And.intro @ho (And.intro @encOpr_u (And.intro @ha (And.intro @hcm @tmz))))))); refine gG ?_; clear F)
    (have F := And.intro @natInt (And.intro ((colT_msk1 hf0)) @tmz); refine gL (ι := Nat) [2, 9, 10, 11, 59, 65, 70, 81] [] (fun m => [(9, A.d (.one (.lit (.int .i64 m)))), (2, .d (.one (.sl (encTms (colT (mskL (partOf op (fun _ => true) args) m) vs)))))]) (fun m => []) (fun m => 1 ≤ m ∧ m ≤ 2 ^ args.length) (fun m => 2 ^ args.length - m) (1) (⟨Nat.le_refl _, by omega⟩) (fun m hm => ?_); clear F)
    obtain ⟨hm1, hm2⟩ := hm
    (have F := @tmz; refine gG ?_; clear F)
    refine gB ?_
    (have F := @tmz; refine gC (hlb) ?_; clear F)
    by_cases hlt : m < 2 ^ args.length
    rotate_left
    · obtain rfl : m = 2 ^ args.length := by omega
      have q3 : ((((2 ^ args.length : Nat) : Int)) < ((2 ^ args.length : Nat) : Int)) = False := eq_false (by omega)
      (have F := @q3; refine gR ?_; clear F)
      (have F := And.intro @q3 @tmz; refine gG ?_; exact gTd)
    have q3 : ((m : Int) < ((2 ^ args.length : Nat) : Int)) = True := eq_true (by omega)
    have hw := wrap1 (k := m) (by omega)
    have hlm := mskL_mono (partOf op (fun _ => true) args) hm2
    have hcm2 := colT_len (mskL (partOf op (fun _ => true) args) m) vs
    have hkm := colT_ok (msk_ok (P := fun _ => true) hko hka m) h3
    have hst := colT_msk (partOf op (fun _ => true) args) m vs
    generalize colT (mskL (partOf op (fun _ => true) args) m) vs = ws at hcm2 hkm hst ⊢
    (have F := @q3; refine gR ?_; clear F)
    (have F := @q3; refine gG ?_; clear F)
    (have F := ((pk_0 m args)); refine gL (ι := Nat) [10, 11, 65, 70] [10] (fun i => [(11, A.d (.one (.lit (.int .i64 i)))), (10, .buf 10)]) (fun i => [(10, .buf none 73 4 (encTms (pkTo m args i)))]) (fun i => i ≤ args.length) (fun i => args.length - i) (0) (Nat.zero_le _) (fun i hi => ?_); clear F)
    by_cases hli : i < args.length
    · obtain ⟨b, hg⟩ : ∃ b, args[i]? = some b := ⟨_, List.getElem?_eq_getElem hli⟩
      have q4 : ((i : Int) < (args.length : Int)) = True := eq_true (by omega)
      have hwi := wrap1 (k := i) (by omega)
      have l1 : rowsB 4 (encTms (pkTo m args i)) = true := rb_tm _
      have l2 : ((encTms (pkTo m args i)).length + 1 ≤ maxApp) = True := eq_true (by rw [encTms_len]; have := pkTo_len m args i; unfold maxApp; omega)
      have l3 : ((pkTo m args i).length + 1 ≤ maxApp) = True := eq_true (by have := pkTo_len m args i; unfold maxApp; omega)
      (have F := @q4; refine gG ?_; clear F)
      refine gB ?_
      (have F := @q4; refine gC (con_l2Has (a := m) (k := i) (by omega) (by omega)) ?_; clear F)
      (have F := @q4; refine gR ?_; clear F)
      cases hbt : tbit m i with
      | false =>
        have e := pkTo_no (l := args) hbt
        rw [← e]
        (have F := @hwi; refine gG ?_; exact ⟨i + 1, hli, gw, gw, by omega⟩)
      | true =>
        have e := pk_yes hg hbt
        (have F := And.intro @hc (And.intro @hg (And.intro @l1 (And.intro @l2 (And.intro @l3 (And.intro @tmz (And.intro @e @hwi)))))); refine gG ?_; exact ⟨i + 1, hli, gw, gw, by omega⟩)
    obtain rfl : i = args.length := by omega
    have q4 : ((args.length : Int) < (args.length : Int)) = False := eq_false (by omega)
    rw [show pkTo m args args.length = pkAll m args from rfl]
    (have F := And.intro @q4 @tmz; refine gG ?_; clear F)
    refine pFz [10] ?_
    by_cases h2p : 2 ≤ (pkAll m args).length
    rotate_left
    · have z : decide ((1 : Int) < ((pkAll m args).length : Int)) = false := decide_eq_false (by omega)
      have e : partOf op (fun _ => true) args m = [] := partOf_no fun h => h2p h.1
      rw [e, colT_no] at hst
      rw [← hst]
      (have F := And.intro @z (And.intro @hw @tmz); refine gG ?_; exact ⟨m + 1, ⟨by omega, hlt⟩, gw, gw, by omega⟩)
    have z : decide ((1 : Int) < ((pkAll m args).length : Int)) = true := decide_eq_true (by omega)
    have e : partOf op (fun _ => true) args m = [.mk op ByteArray.empty 0 (pkAll m args)] := partOf_yes h2p rfl
    rw [e, colT_one] at hst
    have hIn := con_l5Insert ws (.mk op ByteArray.empty 0 (pkAll m args)) hkm (part_ok hko hka (pkAll_sub m args)) (by omega)
    rw [← hst] at hIn
    simp only [encTm] at hIn
    (have F := And.intro @z @tmz; refine gG ?_; clear F)
    refine gB ?_
    (have F := And.intro @hc @tmz; refine gC (hIn) ?_; clear F)
    (have F := @tmz; refine gR ?_; clear F)
    (have F := @hw; refine gG ?_; exact ⟨m + 1, ⟨by omega, hlt⟩, gw, gw, by omega⟩)
  | false =>
    rw [if_neg (by simp)]
    have hil := ivI_len op args
    (have F := And.intro @q2 (And.intro @hc (And.intro @hnn (And.intro @h0 (And.intro @ho (And.intro @encOpr_u (And.intro @ha (And.intro @hcm @tmz))))))); refine gG ?_; clear F)
    (have F := And.intro ((iv_no0 op args)) @tmz; refine gL (ι := Nat) [2, 12, 13, 91, 98] [] (fun i => [(12, A.d (.one (.lit (.int .i64 i)))), (2, .d (.one (.sl (encTms (colT (ivI op args i) vs)))))]) (fun i => []) (fun i => i ≤ args.length) (fun i => args.length - i) (0) (Nat.zero_le _) (fun i hi => ?_); clear F)
    by_cases hlt : i < args.length
    rotate_left
    · obtain rfl : i = args.length := by omega
      have q4 : ((args.length : Int) < (args.length : Int)) = False := eq_false (by omega)
      (have F := And.intro @q4 @tmz; refine gG ?_; exact gTd)
    have q4 : ((i : Int) < (args.length : Int)) = True := eq_true (by omega)
    have hw := wrap1 (k := i) (by omega)
    have hw2 : IntKind.i64.wrap ((i : Int) + 2) = ((i + 2 + 0 : Nat) : Int) := wrapN (by omega) (by omega) (by omega)
    have hi1 := hil i
    have hi2 : i * args.length ≤ 7 * 7 := Nat.mul_le_mul (by omega) hn7
    have hcm2 := colT_len (ivI op args i) vs
    have hkm := colT_ok (ivI_ok hko hka i) h3
    have hst := ivI_step op args i vs
    generalize colT (ivI op args i) vs = ws at hcm2 hkm hst ⊢
    (have F := And.intro @q4 (And.intro @hw2 @tmz); refine gG ?_; clear F)
    (have F := And.intro ((ivJ_no0 op args i)) @tmz; refine gL (ι := Nat) [2, 13, 98] [] (fun k => [(13, A.d (.one (.lit (.int .i64 (i + 2 + k : Nat))))), (2, .d (.one (.sl (encTms (colT (ivJ op args i k) ws)))))]) (fun k => []) (fun k => k ≤ args.length - (i + 1)) (fun k => args.length - (i + 1) - k) (0) (Nat.zero_le _) (fun k hk => ?_); clear F)
    by_cases hlk : k < args.length - (i + 1)
    rotate_left
    · obtain rfl : k = args.length - (i + 1) := by omega
      have q5 : (((i + 2 + (args.length - (i + 1)) : Nat) : Int) ≤ (args.length : Int)) = False := eq_false (by omega)
      rw [← hst]
      (have F := And.intro @q5 @hw; refine gG ?_; exact ⟨i + 1, hlt, gw, gw, by omega⟩)
    have q5 : (((i + 2 + k : Nat) : Int) ≤ (args.length : Int)) = True := eq_true (by omega)
    have q6 : ((i : Int) ≤ ((i + 2 + k : Nat) : Int)) = True := eq_true (by omega)
    have hwk : IntKind.i64.wrap (((i + 2 + k : Nat) : Int) + 1) = ((i + 2 + (k + 1) : Nat) : Int) := wrapN (by omega) (by omega) (by omega)
    have hcj := colT_len (ivJ op args i k) ws
    have hjl := ivJ_len op args i k
    have hkj := colT_ok (ivJ_ok hko hka i k) hkm
    have hsj := ivJ_step op args i k ws
    generalize colT (ivJ op args i k) ws = xs at hcj hkj hsj ⊢
    have hIn := con_l5Insert xs (.mk op ByteArray.empty 0 ((args.take (i + 2 + k)).drop i)) hkj (part_ok hko hka ((List.drop_sublist _ _).trans (List.take_sublist _ _))) (by omega)
    rw [← hsj] at hIn
    simp only [encTm] at hIn
    (have F := And.intro @q5 @tmz; refine gG ?_; clear F)
    refine gB ?_
    (have F := And.intro @hc (And.intro @q5 (And.intro @q6 (And.intro @natInt (And.intro @encTms_take (And.intro @encTms_drop @tmz))))); refine gC (hIn) ?_; clear F)
    (have F := @tmz; refine gR ?_; clear F)
    (have F := @hwk; refine gG ?_; exact ⟨k + 1, hlk, gw, gw, by omega⟩)
theorem con_l10Parts_n (n : Nat) : ∀ t : Tm, nodesRow (encTm t) < n → FormOk g t → okTm t → bulkRow (encTm t) ≤ 1048576 → ∀ ts : List Tm, okTms ts → ts.length + (candW (partsS g) t).length ≤ 7000000 → PartC g t ts (colT (candW (partsS g) t) ts) := by
  induction n with
  | zero => exact fun _ h => by omega
  | succ n ih =>
    intro t hn hf ht hb ts hts hl
    refine con_l10Parts_of t hf ht ts hts hb hl fun x hx us hus hl2 => ?_
    have hfx := (FormOk_iff.1 hf).2.1 x hx
    obtain ⟨op, nm, so, args⟩ := t
    simp only [encTm, nodesRow, nodesC] at hn
    simp only [encTm, bulkRow, bulkC] at hb
    simp only [okTm] at ht
    simp only [Tm.args] at hx
    obtain ⟨i, hi⟩ := List.getElem?_of_mem hx
    have hi' : (encTms args)[i]? = some (encTm x) := by rw [encTms_get, hi]; rfl
    have h1 := nodes_get hi'
    have h2 := bulk_get hi'
    exact ih x (by omega) hfx (ht.2.2.2.mem hx) (by omega) us hus hl2
set_option maxHeartbeats 8000000 in
set_option maxRecDepth 100000 in
theorem con_l10Cand (hg : SgnOk g) {t : Tm} (hf : TermOk g t) (ht : okTm t) (hb : bulkRow (encTm t) ≤ 1048576) : Con e0 103 [.agg (encSgn g), .agg (encTm t)] [.one (.sl (encTms (candS g t)))] := by
  have hln := hg.len
  have hcl := candS_len hf.form
  have hsz := hf.size
  have cP := con_l10Parts_n _ t (Nat.lt_succ_self _) hf.form ht hb [] trivial (by simp; omega)
  have cU := fun (i : Nat) (o : Opr) (ho : g.ops[i]? = some o) => con_l6Unit hg (op := (i : Int)) (by omega) (show g.ops[(i : Int).toNat]? = some o by rw [Int.toNat_natCast]; exact ho)
  have hul := units_len g.ops
  have huo := units_ok hg
  have hk := cand_ok (W := partsS g) partsS_mem ht
  have hes : candS g t = colT (unitsTo g.ops g.ops.length) (colT (candW (partsS g) t) []) := by rw [← colT_app]; rfl
  have hcc := colT_len (candW (partsS g) t) []
  have hck := colT_ok hk (show okTms [] from trivial)
  simp only [List.length_nil, Nat.zero_add] at hcc
  unfold PartC at cP
  rw [encSgn] at cP cU ⊢
  rw [hes]
  generalize colT (candW (partsS g) t) [] = vs at cP hcc hck ⊢
  clear hes
  rw [encTms_nil'] at cP
  have cP := con_clip3 cP
  refine gI (ts := [.slot 4]) 67240447 Tryz.func103 ?_
  (have F := @tmz; refine gG ?_; clear F)
  refine gB ?_
  (have F := @tmz; refine gC (cP) ?_; clear F)
  (have F := @tmz; refine gR ?_; clear F)
  (have F := @tmz; refine gG ?_; clear F)
  (have F := And.intro @units_0 (And.intro ((colT_no vs)) @tmz); refine gL (ι := Nat) [5, 6, 7, 8, 17, 26] [] (fun i => [(6, A.d (.one (.lit (.int .i64 i)))), (5, .d (.one (.sl (encTms (colT (unitsTo g.ops i) vs)))))]) (fun i => []) (fun i => i ≤ g.ops.length) (fun i => g.ops.length - i) (0) (Nat.zero_le _) (fun i hi => ?_); clear F)
  by_cases hlt : i < g.ops.length
  rotate_left
  · obtain rfl : i = g.ops.length := by omega
    have q2 : ((g.ops.length : Int) < (g.ops.length : Int)) = False := eq_false (by omega)
    (have F := And.intro @q2 @tmz; refine gG ?_; exact gTd)
  obtain ⟨o, ho⟩ : ∃ b, g.ops[i]? = some b := ⟨_, List.getElem?_eq_getElem hlt⟩
  have q2 : ((i : Int) < (g.ops.length : Int)) = True := eq_true (by omega)
  have q4 := wrap1 (k := i) (by omega)
  have cU := cU i o ho
  (have F := And.intro @q2 @tmz; refine gG ?_; clear F)
  refine gB ?_
  (have F := @tmz; refine gC (cU) ?_; clear F)
  (have F := @tmz; refine gR ?_; clear F)
  by_cases hu : o.unit = 0
  · have z : (!decide (o.unit = 0)) = false := by simp [hu]
    have e := units_no ho hu
    (have F := And.intro @z (And.intro @q4 (And.intro @e @tmz)); refine gG ?_; exact ⟨i + 1, hlt, gw, gw, by omega⟩)
  have z : (!decide (o.unit = 0)) = true := by simp [hu]
  have e := units_yes ho hu
  have hui := hul i
  have hcl2 := colT_len (unitsTo g.ops i) vs
  have hax := hg.axs o (List.mem_of_getElem? ho)
  have hhi := hax.hi
  have hIn := con_l5Insert (colT (unitsTo g.ops i) vs) (unitTm o) (colT_ok (huo i) hck) (okTm_unit hax.lo (by omega)) (by omega)
  have e2 : insTm (unitTm o) (colT (unitsTo g.ops i) vs) = colT (unitsTo g.ops (i + 1)) vs := by rw [e, colT_app]; rfl
  rw [e2] at hIn
  (have F := And.intro @z @tmz; refine gG ?_; clear F)
  refine gB ?_
  (have F := @tmz; refine gC (hIn) ?_; clear F)
  (have F := @tmz; refine gR ?_; clear F)
  (have F := @q4; refine gG ?_; exact ⟨i + 1, hlt, gw, gw, by omega⟩)
theorem take_snocT {ts : List Tm} {i : Nat} {t : Tm} (h : ts[i]? = some t) : encTms (ts.take i) ++ [encTm t] = encTms (ts.take (i + 1)) := (encTms_snoc ts h).symm
set_option maxHeartbeats 8000000 in
set_option maxRecDepth 100000 in
theorem con_l5Copies (ts : List Tm) (hB : tmsB ts) : Con e0 102 [.one (.sl (encTms ts))] [.one (.sl (encTms ts))] := by
  unfold tmsB at hB
  refine gI (ts := [.slot 2]) 541 Tryz.func102 ?_
  (have F := @tmz; refine gG ?_; clear F)
  (have F := @encTms_nil'; refine gL (ι := Nat) [3, 4, 9] [3] (fun i => [(4, A.d (.one (.lit (.int .i64 i)))), (3, .buf 3)]) (fun i => [(3, .buf none 73 4 (encTms (ts.take i)))]) (fun i => i ≤ ts.length) (fun i => ts.length - i) (0) (Nat.zero_le _) (fun i hi => ?_); clear F)
  by_cases hlt : i < ts.length
  rotate_left
  · obtain rfl : i = ts.length := by omega
    have q2 : ((ts.length : Int) < (ts.length : Int)) = False := eq_false (by omega)
    rw [List.take_length]
    (have F := And.intro @q2 @tmz; refine gG ?_; clear F)
    (have F := @tmz; refine gG ?_; exact gTz [2])
  obtain ⟨t, ht⟩ : ∃ b, ts[i]? = some b := ⟨_, List.getElem?_eq_getElem hlt⟩
  have q2 : ((i : Int) < (ts.length : Int)) = True := eq_true (by omega)
  have q4 := wrap1 (k := i) (by omega)
  have hi' : (encTms ts)[i]? = some (encTm t) := by rw [encTms_get, ht]; rfl
  have hbt := bulk_get hi'
  have cc := con_l5Copy t (by omega)
  have l1 : rowsB 4 (encTms (ts.take i)) = true := rb_tm _
  have l2 : ((encTms (ts.take i)).length + 1 ≤ maxApp) = True := eq_true (by rw [encTms_len, List.length_take]; unfold maxApp; omega)
  have l3 : ((ts.take i).length + 1 ≤ maxApp) = True := eq_true (by rw [List.length_take]; unfold maxApp; omega)
  have l4 : min i ts.length + 1 ≤ maxApp := by unfold maxApp; omega
  have e := take_snocT ht
  (have F := And.intro @q2 @tmz; refine gG ?_; clear F)
  refine gB ?_
  (have F := And.intro @q2 (And.intro @ht @tmz); refine gC (cc) ?_; clear F)
  (have F := And.intro @l1 (And.intro @l2 (And.intro @l3 @tmz)); refine gR ?_; clear F)
  (have F := And.intro @q4 @e; refine gG ?_; exact ⟨i + 1, hlt, gw, gw, by omega⟩)
set_option maxHeartbeats 8000000 in
set_option maxRecDepth 100000 in
theorem con_specCand (hok : okSgn g) {t : Tm} (ht : okTm t) (hb : bulkRow (encTm t) ≤ 1048576) : Con e0 44 [.agg (encSgn g), .agg (encTm t)] [.one (.sl (encTms (candT g t)))] := by
  have cT := con_specIsTerm hok ht (big_of_bulk hb)
  have cC := fun h1 h2 => con_l10Cand (g := g) h1 (t := t) h2 ht hb
  rw [encSgn] at cT cC ⊢
  refine gI 287 Tryz.func44 ?_
  (have F := @tmz; refine gG ?_; clear F)
  refine gB ?_
  (have F := @tmz; refine gC (cT) ?_; clear F)
  by_cases h : SgnOk g ∧ TermOk g t
  · have h1 : (isSgn g && isTerm g t) = true := by rw [isSgn_true h.1, isTerm_true h.2]; rfl
    have e := candT_yes h.1 h.2
    have hB := candT_bulk (g := g) (t := t)
    have cC := cC h.1 h.2
    rw [← cand_same h.2.form, ← e] at cC
    (have F := @h1; refine gR ?_; clear F)
    (have F := And.intro @h1 @tmz; refine gG ?_; clear F)
    refine gB ?_
    (have F := @tmz; refine gC (cC) ?_; clear F)
    (have F := @tmz; refine gC (con_l5Copies _ hB) ?_; clear F)
    (have F := @tmz; refine gR ?_; clear F)
    (have F := @tmz; refine gG ?_; exact gT)
  · have h1 : (isSgn g && isTerm g t) = false := by
      cases h2 : isSgn g with
      | false => rfl
      | true =>
        cases h3 : isTerm g t with
        | false => rfl
        | true => exact absurd ⟨isSgn_iff.1 h2, isTerm_iff.1 h3⟩ h
    rw [candT_no h, encTms_nil']
    (have F := @h1; refine gR ?_; clear F)
    (have F := And.intro @h1 @tmz; refine gG ?_; clear F)
    (have F := @tmz; refine gG ?_; exact gTz [4])
end
end Go.Proofs.YtofklmbljbkdaaaGreat
namespace Go.Proofs.YtofklmbljbkdaaaGreat
open Go.RowKit
theorem conP_toSignature {row : List C} (hok : okRow (sigF) row) (hb : bulkRow row ≤ 1048576) : ConP e0 28 [.agg row] [] (RTree row) :=
  conP_tree (by kernel_rfl) hok.cells fun w S vs h => by
    match vs, h with
    | [v], h =>
      obtain ⟨⟨us, rfl, hu⟩, _⟩ := h
      exact toSignature_any row S us w hok hu hb
theorem RTree3.lits {n : Int} {rows : List (List C)} {b : Bool} {r : List D} {q : List Bk} (h : RTree3 n rows b r q) : r.all litD = true ∧ q.all isSet = true := by
  obtain ⟨v, E, rfl, _, rfl⟩ := h
  exact ⟨rfl, rfl⟩
end Go.Proofs.YtofklmbljbkdaaaGreat
namespace Go.Proofs.YtofklmbljbkdaaaGreat
open Go.RowKit
set_option maxHeartbeats 40000000 in
set_option maxRecDepth 100000 in
theorem con_lawCandidateTerms {row0 : List C} (hok0 : okRow (sigF) row0) {row1 : List C} (hok1 : okRow (fieldsOf .term) row1) {wr : List (List C)} (hokw : okRows (fieldsOf .term) wr) (hBw0 : bulkRow row0 ≤ 1048576 → bulkRow row1 ≤ 1048576 → (bulkRow row0) + (bulkRow row1) ≤ 1048576 → wr.length + bulkRows wr ≤ 1048576) (hsp0 : bulkRow row0 ≤ 1048576 → bulkRow row1 ≤ 1048576 → (bulkRow row0) + (bulkRow row1) ≤ 1048576 → Con e0 44 [.agg row0, .agg row1] [.one (.sl wr)]) (him0 : bulkRow row0 ≤ 1048576 → bulkRow row1 ≤ 1048576 → (bulkRow row0) + (bulkRow row1) ≤ 1048576 → ConP e0 45 [.agg row0, .agg row1] [] (RTreeS wr)) : Con e0 8 [.agg row0, .agg row1] [.one (.lit (.bool true))] := by
  have okc0 := hok0.cells
  obtain ⟨len0, tk0, dr0⟩ := hok0.take (n := 3) rfl
  have okc1 := hok1.cells
  obtain ⟨len1, tk1, dr1⟩ := hok1.take (n := 4) rfl
  refine gI 2795057754822148694082863103 Tryz.func8 ?_
  (have F := And.intro @okc0 (And.intro @len0 (And.intro @tk0 (And.intro @dr0 (And.intro @okc1 (And.intro @len1 (And.intro @tk1 (And.intro @dr1 @drop0))))))); refine gG ?_; clear F)
  have hL0_0 : (0 : Int) ≤ 1048576 := by omega
  have hL0_1 : (1048576 : Int) ≤ 1048576 := by omega
  refine gB ?_
  (have F := And.intro @okc0 (And.intro @len0 (And.intro @tk0 (And.intro @dr0 (And.intro @okc1 (And.intro @len1 (And.intro @tk1 (And.intro @dr1 @drop0))))))); refine gC (con_szSignature hok0 hL0_0 hL0_1) ?_; clear F)
  (have F := And.intro @okc0 (And.intro @len0 (And.intro @tk0 (And.intro @dr0 (And.intro @okc1 (And.intro @len1 (And.intro @tk1 (And.intro @dr1 @drop0))))))); refine gR ?_; clear F)
  by_cases hb0 : ((bulkRow row0 : Nat) : Int) ≤ 1048576
  rotate_left
  · have n1 : sub 1048576 (bulkRow row0 : Nat) = -1 := sub_neg (by omega)
    have n2 : (-1 : Int) < 0 := by omega
    (have F := And.intro @n1 @n2; refine gG ?_; exact gT)
  have nq : sub 1048576 (bulkRow row0 : Nat) = 1048576 - ((bulkRow row0 : Nat) : Nat) := sub_pos (by omega)
  rw [nq]
  clear nq
  have hB0 : bulkRow row0 ≤ 1048576 := by omega
  have hL1_0 : (0 : Int) ≤ 1048576 - ((bulkRow row0 : Nat) : Nat) := by omega
  have hL1_1 : (1048576 : Int) - ((bulkRow row0 : Nat) : Nat) ≤ 1048576 := by omega
  generalize hgl0 : (1048576 : Int) - ((bulkRow row0 : Nat) : Nat) = L1 at *
  have n2 : ¬ (L1 < 0) := by omega
  (have F := And.intro @n2 (And.intro @okc0 (And.intro @len0 (And.intro @tk0 (And.intro @dr0 (And.intro @okc1 (And.intro @len1 (And.intro @tk1 (And.intro @dr1 @drop0)))))))); refine gG ?_; clear F)
  clear n2 hb0
  refine gB ?_
  (have F := And.intro @okc0 (And.intro @len0 (And.intro @tk0 (And.intro @dr0 (And.intro @okc1 (And.intro @len1 (And.intro @tk1 (And.intro @dr1 @drop0))))))); refine gC (con_szTerm hok1 hL1_0 hL1_1) ?_; clear F)
  (have F := And.intro @okc0 (And.intro @len0 (And.intro @tk0 (And.intro @dr0 (And.intro @okc1 (And.intro @len1 (And.intro @tk1 (And.intro @dr1 @drop0))))))); refine gR ?_; clear F)
  by_cases hb1 : ((bulkRow row1 : Nat) : Int) ≤ L1
  rotate_left
  · have n1 : sub L1 (bulkRow row1 : Nat) = -1 := sub_neg (by omega)
    have n2 : (-1 : Int) < 0 := by omega
    (have F := And.intro @n1 @n2; refine gG ?_; exact gT)
  have nq : sub L1 (bulkRow row1 : Nat) = L1 - ((bulkRow row1 : Nat) : Nat) := sub_pos (by omega)
  rw [nq]
  clear nq
  have hB1 : bulkRow row1 ≤ 1048576 := by omega
  have hL2_0 : (0 : Int) ≤ L1 - ((bulkRow row1 : Nat) : Nat) := by omega
  have hL2_1 : (L1 : Int) - ((bulkRow row1 : Nat) : Nat) ≤ 1048576 := by omega
  generalize hgl1 : (L1 : Int) - ((bulkRow row1 : Nat) : Nat) = L2 at *
  have n2 : ¬ (L2 < 0) := by omega
  (have F := And.intro @n2 (And.intro @okc0 (And.intro @len0 (And.intro @tk0 (And.intro @dr0 (And.intro @okc1 (And.intro @len1 (And.intro @tk1 (And.intro @dr1 @drop0)))))))); refine gG ?_; clear F)
  clear n2 hb1
  have hBt : (bulkRow row0) + (bulkRow row1) ≤ 1048576 := by omega
  have hsp := hsp0 hB0 hB1 hBt
  have him := him0 hB0 hB1 hBt
  have hBw := hBw0 hB0 hB1 hBt
  have hcw : cntRows wr ≤ 16 * (wr.length + bulkRows wr) := cnt_okRows _ _ (fields_le _) hokw
  have cE := con_eqTermS hokw
  have cT0 := con_toSignature hok0 hB0
  have cP0 := conP_toSignature hok0 hB0
  have cQ0 := con_eqSignature hok0
  have hc0 : cntTop row0 ≤ 16 * bulkRow row0 := cntTop_ok _ _ hok0
  have cT1 := con_toTerm hok1 hB1
  have cP1 := conP_toTerm hok1 hB1
  have cQ1 := con_eqTerm hok1
  have hc1 : cntTop row1 ≤ 16 * bulkRow row1 := cntTop_ok _ _ hok1
  refine gB ?_
  (have F := And.intro @okc0 (And.intro @len0 (And.intro @tk0 (And.intro @dr0 (And.intro @okc1 (And.intro @len1 (And.intro @tk1 (And.intro @dr1 @drop0))))))); refine gC (cT0) ?_; clear F)
  (have F := And.intro @okc0 (And.intro @len0 (And.intro @tk0 (And.intro @dr0 (And.intro @okc1 (And.intro @len1 (And.intro @tk1 (And.intro @dr1 @drop0))))))); refine gC (cT1) ?_; clear F)
  (have F := And.intro @okc0 (And.intro @len0 (And.intro @tk0 (And.intro @dr0 (And.intro @okc1 (And.intro @len1 (And.intro @tk1 (And.intro @dr1 @drop0))))))); refine gC (hsp) ?_; clear F)
  (have F := And.intro @okc0 (And.intro @len0 (And.intro @tk0 (And.intro @dr0 (And.intro @okc1 (And.intro @len1 (And.intro @tk1 (And.intro @dr1 @drop0))))))); refine gR ?_; clear F)
  (have F := And.intro @okc0 (And.intro @len0 (And.intro @tk0 (And.intro @dr0 (And.intro @okc1 (And.intro @len1 (And.intro @tk1 (And.intro @dr1 @drop0))))))); refine gG ?_; clear F)
  refine gB ?_
  (have F := And.intro @okc0 (And.intro @len0 (And.intro @tk0 (And.intro @dr0 (And.intro @okc1 (And.intro @len1 (And.intro @tk1 (And.intro @dr1 @drop0))))))); refine gCP [] [1000] (cP0) ?_; clear F)
  rintro r pm ⟨us0, E0, rfl, hu0, cu0, rfl⟩
  rw [len0] at hu0
  obtain ⟨lu0, tu0, du0⟩ := lits_len hu0
  simp only [setA, retA, zipM, List.cons_append, List.nil_append]
  (have F := And.intro @okc0 (And.intro @len0 (And.intro @tk0 (And.intro @dr0 (And.intro @okc1 (And.intro @len1 (And.intro @tk1 (And.intro @dr1 (And.intro @drop0 (And.intro @lu0 (And.intro @tu0 (And.intro @du0 @cu0))))))))))); refine gR ?_; clear F)
  (have F := And.intro @okc0 (And.intro @len0 (And.intro @tk0 (And.intro @dr0 (And.intro @okc1 (And.intro @len1 (And.intro @tk1 (And.intro @dr1 (And.intro @drop0 (And.intro @lu0 (And.intro @tu0 (And.intro @du0 @cu0))))))))))); refine gG ?_; clear F)
  refine gB ?_
  (have F := And.intro @okc0 (And.intro @len0 (And.intro @tk0 (And.intro @dr0 (And.intro @okc1 (And.intro @len1 (And.intro @tk1 (And.intro @dr1 (And.intro @drop0 (And.intro @lu0 (And.intro @tu0 (And.intro @du0 @cu0))))))))))); refine gCP [] [1001] (cP1) ?_; clear F)
  rintro r pm ⟨us1, E1, rfl, hu1, cu1, rfl⟩
  rw [len1] at hu1
  obtain ⟨lu1, tu1, du1⟩ := lits_len hu1
  simp only [setA, retA, zipM, List.cons_append, List.nil_append]
  (have F := And.intro @okc0 (And.intro @len0 (And.intro @tk0 (And.intro @dr0 (And.intro @okc1 (And.intro @len1 (And.intro @tk1 (And.intro @dr1 (And.intro @drop0 (And.intro @lu0 (And.intro @tu0 (And.intro @du0 (And.intro @cu0 (And.intro @lu1 (And.intro @tu1 (And.intro @du1 @cu1))))))))))))))); refine gR ?_; clear F)
  (have F := And.intro @okc0 (And.intro @len0 (And.intro @tk0 (And.intro @dr0 (And.intro @okc1 (And.intro @len1 (And.intro @tk1 (And.intro @dr1 (And.intro @drop0 (And.intro @lu0 (And.intro @tu0 (And.intro @du0 (And.intro @cu0 (And.intro @lu1 (And.intro @tu1 (And.intro @du1 @cu1))))))))))))))); refine gG ?_; clear F)
  refine gB ?_
  (have F := And.intro @okc0 (And.intro @len0 (And.intro @tk0 (And.intro @dr0 (And.intro @okc1 (And.intro @len1 (And.intro @tk1 (And.intro @dr1 (And.intro @drop0 (And.intro @lu0 (And.intro @tu0 (And.intro @du0 (And.intro @cu0 (And.intro @lu1 (And.intro @tu1 (And.intro @du1 @cu1))))))))))))))); refine gCP [1000, 1001] [1100, 1000, 1001] (conP_rd (lits := [.agg (litRow us0), .agg (litRow us1)]) [.set E0 (fun w => OwnVals w row0 E0 us0), .set E1 (fun w => OwnVals w row1 E1 us1)] him ⟨.tree List.mem_cons_self, .tree (List.mem_cons_of_mem _ List.mem_cons_self), trivial⟩ rfl (fun _ _ h => RTreeS.lits h)) ?_; clear F)
  rintro r pm ⟨q1, ⟨vg, Eg, rfl, cug, rfl⟩, rfl⟩
  simp only [setA, retA, zipM, List.cons_append, List.nil_append]
  (have F := And.intro @okc0 (And.intro @len0 (And.intro @tk0 (And.intro @dr0 (And.intro @okc1 (And.intro @len1 (And.intro @tk1 (And.intro @dr1 (And.intro @drop0 (And.intro @lu0 (And.intro @tu0 (And.intro @du0 (And.intro @cu0 (And.intro @lu1 (And.intro @tu1 (And.intro @du1 (And.intro @cu1 @cug)))))))))))))))); refine gR ?_; clear F)
  (have F := And.intro @okc0 (And.intro @len0 (And.intro @tk0 (And.intro @dr0 (And.intro @okc1 (And.intro @len1 (And.intro @tk1 (And.intro @dr1 (And.intro @drop0 (And.intro @lu0 (And.intro @tu0 (And.intro @du0 (And.intro @cu0 (And.intro @lu1 (And.intro @tu1 (And.intro @du1 (And.intro @cu1 @cug)))))))))))))))); refine gG ?_; clear F)
  refine gB ?_
  (have F := And.intro @okc0 (And.intro @len0 (And.intro @tk0 (And.intro @dr0 (And.intro @okc1 (And.intro @len1 (And.intro @tk1 (And.intro @dr1 (And.intro @drop0 (And.intro @lu0 (And.intro @tu0 (And.intro @du0 (And.intro @cu0 (And.intro @lu1 (And.intro @tu1 (And.intro @du1 (And.intro @cu1 @cug)))))))))))))))); refine gCP [1100] [1100] (con_rd (lits := [.one (.lit vg), .one (.sl wr)]) [.set Eg (fun w => Own w (.sl wr) Eg vg)] cE ⟨.treeS List.mem_cons_self, .same, trivial⟩ rfl rfl) ?_; clear F)
  rintro r pm ⟨rfl, rfl⟩
  simp only [setA, retA, zipM, List.cons_append, List.nil_append]
  (have F := And.intro @okc0 (And.intro @len0 (And.intro @tk0 (And.intro @dr0 (And.intro @okc1 (And.intro @len1 (And.intro @tk1 (And.intro @dr1 (And.intro @drop0 (And.intro @lu0 (And.intro @tu0 (And.intro @du0 (And.intro @cu0 (And.intro @lu1 (And.intro @tu1 (And.intro @du1 (And.intro @cu1 (And.intro @cug @beq_self_eq_true.{0}))))))))))))))))); refine gR ?_; clear F)
  (have F := And.intro @okc0 (And.intro @len0 (And.intro @tk0 (And.intro @dr0 (And.intro @okc1 (And.intro @len1 (And.intro @tk1 (And.intro @dr1 (And.intro @drop0 (And.intro @lu0 (And.intro @tu0 (And.intro @du0 (And.intro @cu0 (And.intro @lu1 (And.intro @tu1 (And.intro @du1 (And.intro @cu1 (And.intro @cug @beq_self_eq_true.{0}))))))))))))))))); refine gG ?_; clear F)
  refine gB ?_
  (have F := And.intro @okc0 (And.intro @len0 (And.intro @tk0 (And.intro @dr0 (And.intro @okc1 (And.intro @len1 (And.intro @tk1 (And.intro @dr1 (And.intro @drop0 (And.intro @lu0 (And.intro @tu0 (And.intro @du0 (And.intro @cu0 (And.intro @lu1 (And.intro @tu1 (And.intro @du1 (And.intro @cu1 @cug)))))))))))))))); refine gC (cT0) ?_; clear F)
  (have F := And.intro @okc0 (And.intro @len0 (And.intro @tk0 (And.intro @dr0 (And.intro @okc1 (And.intro @len1 (And.intro @tk1 (And.intro @dr1 (And.intro @drop0 (And.intro @lu0 (And.intro @tu0 (And.intro @du0 (And.intro @cu0 (And.intro @lu1 (And.intro @tu1 (And.intro @du1 (And.intro @cu1 @cug)))))))))))))))); refine gCP [1000] [1000] (con_rd (lits := [.agg (litRow us0), .agg row0]) [.set E0 (fun w => OwnVals w row0 E0 us0)] cQ0 ⟨.tree List.mem_cons_self, .same, trivial⟩ rfl rfl) ?_; clear F)
  rintro r pm ⟨rfl, rfl⟩
  simp only [setA, retA, zipM, List.cons_append, List.nil_append]
  (have F := And.intro @okc0 (And.intro @len0 (And.intro @tk0 (And.intro @dr0 (And.intro @okc1 (And.intro @len1 (And.intro @tk1 (And.intro @dr1 (And.intro @drop0 (And.intro @lu0 (And.intro @tu0 (And.intro @du0 (And.intro @cu0 (And.intro @lu1 (And.intro @tu1 (And.intro @du1 (And.intro @cu1 @cug)))))))))))))))); refine gR ?_; clear F)
  (have F := And.intro @okc0 (And.intro @len0 (And.intro @tk0 (And.intro @dr0 (And.intro @okc1 (And.intro @len1 (And.intro @tk1 (And.intro @dr1 (And.intro @drop0 (And.intro @lu0 (And.intro @tu0 (And.intro @du0 (And.intro @cu0 (And.intro @lu1 (And.intro @tu1 (And.intro @du1 (And.intro @cu1 @cug)))))))))))))))); refine gG ?_; clear F)
  refine gB ?_
  (have F := And.intro @okc0 (And.intro @len0 (And.intro @tk0 (And.intro @dr0 (And.intro @okc1 (And.intro @len1 (And.intro @tk1 (And.intro @dr1 (And.intro @drop0 (And.intro @lu0 (And.intro @tu0 (And.intro @du0 (And.intro @cu0 (And.intro @lu1 (And.intro @tu1 (And.intro @du1 (And.intro @cu1 @cug)))))))))))))))); refine gC (cT1) ?_; clear F)
  (have F := And.intro @okc0 (And.intro @len0 (And.intro @tk0 (And.intro @dr0 (And.intro @okc1 (And.intro @len1 (And.intro @tk1 (And.intro @dr1 (And.intro @drop0 (And.intro @lu0 (And.intro @tu0 (And.intro @du0 (And.intro @cu0 (And.intro @lu1 (And.intro @tu1 (And.intro @du1 (And.intro @cu1 @cug)))))))))))))))); refine gCP [1001] [1001] (con_rd (lits := [.agg (litRow us1), .agg row1]) [.set E1 (fun w => OwnVals w row1 E1 us1)] cQ1 ⟨.tree List.mem_cons_self, .same, trivial⟩ rfl rfl) ?_; clear F)
  rintro r pm ⟨rfl, rfl⟩
  simp only [setA, retA, zipM, List.cons_append, List.nil_append]
  (have F := And.intro @okc0 (And.intro @len0 (And.intro @tk0 (And.intro @dr0 (And.intro @okc1 (And.intro @len1 (And.intro @tk1 (And.intro @dr1 (And.intro @drop0 (And.intro @lu0 (And.intro @tu0 (And.intro @du0 (And.intro @cu0 (And.intro @lu1 (And.intro @tu1 (And.intro @du1 (And.intro @cu1 @cug)))))))))))))))); refine gR ?_; clear F)
  (have F := And.intro @okc0 (And.intro @len0 (And.intro @tk0 (And.intro @dr0 (And.intro @okc1 (And.intro @len1 (And.intro @tk1 (And.intro @dr1 (And.intro @drop0 (And.intro @lu0 (And.intro @tu0 (And.intro @du0 (And.intro @cu0 (And.intro @lu1 (And.intro @tu1 (And.intro @du1 (And.intro @cu1 @cug)))))))))))))))); refine gG ?_; clear F)
  refine gB ?_
  (have F := And.intro @okc0 (And.intro @len0 (And.intro @tk0 (And.intro @dr0 (And.intro @okc1 (And.intro @len1 (And.intro @tk1 (And.intro @dr1 (And.intro @drop0 (And.intro @lu0 (And.intro @tu0 (And.intro @du0 (And.intro @cu0 (And.intro @lu1 (And.intro @tu1 (And.intro @du1 (And.intro @cu1 @cug)))))))))))))))); refine gCP [1000] [1000] (markSignature_all hok0 (1) E0 us0 (by omega) cu0 (by omega) (by omega)) ?_; clear F)
  rintro r pm ⟨F0, rfl, rfl⟩
  simp only [setA, retA, zipM, List.cons_append, List.nil_append]
  (have F := And.intro @okc0 (And.intro @len0 (And.intro @tk0 (And.intro @dr0 (And.intro @okc1 (And.intro @len1 (And.intro @tk1 (And.intro @dr1 (And.intro @drop0 (And.intro @lu0 (And.intro @tu0 (And.intro @du0 (And.intro @cu0 (And.intro @lu1 (And.intro @tu1 (And.intro @du1 (And.intro @cu1 @cug)))))))))))))))); refine gR ?_; clear F)
  (have F := And.intro @okc0 (And.intro @len0 (And.intro @tk0 (And.intro @dr0 (And.intro @okc1 (And.intro @len1 (And.intro @tk1 (And.intro @dr1 (And.intro @drop0 (And.intro @lu0 (And.intro @tu0 (And.intro @du0 (And.intro @cu0 (And.intro @lu1 (And.intro @tu1 (And.intro @du1 (And.intro @cu1 @cug)))))))))))))))); refine gG ?_; clear F)
  refine gB ?_
  (have F := And.intro @okc0 (And.intro @len0 (And.intro @tk0 (And.intro @dr0 (And.intro @okc1 (And.intro @len1 (And.intro @tk1 (And.intro @dr1 (And.intro @drop0 (And.intro @lu0 (And.intro @tu0 (And.intro @du0 (And.intro @cu0 (And.intro @lu1 (And.intro @tu1 (And.intro @du1 (And.intro @cu1 @cug)))))))))))))))); refine gCP [1001] [1001] (markTerm_all hok1 (1 + (cntTop row0 : Int)) E1 us1 (by omega) cu1 (by omega) (by omega)) ?_; clear F)
  rintro r pm ⟨F1, rfl, rfl⟩
  simp only [setA, retA, zipM, List.cons_append, List.nil_append]
  (have F := And.intro @okc0 (And.intro @len0 (And.intro @tk0 (And.intro @dr0 (And.intro @okc1 (And.intro @len1 (And.intro @tk1 (And.intro @dr1 (And.intro @drop0 (And.intro @lu0 (And.intro @tu0 (And.intro @du0 (And.intro @cu0 (And.intro @lu1 (And.intro @tu1 (And.intro @du1 (And.intro @cu1 @cug)))))))))))))))); refine gR ?_; clear F)
  (have F := And.intro @okc0 (And.intro @len0 (And.intro @tk0 (And.intro @dr0 (And.intro @okc1 (And.intro @len1 (And.intro @tk1 (And.intro @dr1 (And.intro @drop0 (And.intro @lu0 (And.intro @tu0 (And.intro @du0 (And.intro @cu0 (And.intro @lu1 (And.intro @tu1 (And.intro @du1 (And.intro @cu1 @cug)))))))))))))))); refine gG ?_; clear F)
  have nk : (1 + (cntTop row0 : Int) + (cntTop row1 : Int) < 0) = False := eq_false (by omega)
  refine gB ?_
  (have F := And.intro @okc0 (And.intro @len0 (And.intro @tk0 (And.intro @dr0 (And.intro @okc1 (And.intro @len1 (And.intro @tk1 (And.intro @dr1 (And.intro @drop0 (And.intro @lu0 (And.intro @tu0 (And.intro @du0 (And.intro @cu0 (And.intro @lu1 (And.intro @tu1 (And.intro @du1 (And.intro @cu1 (And.intro @cug @nk))))))))))))))))); refine gCP [1100] [1100] (con_rd (lits := [.one (.lit vg), .one (.sl wr)]) [.set Eg (fun w => Own w (.sl wr) Eg vg)] cE ⟨.treeS List.mem_cons_self, .same, trivial⟩ rfl rfl) ?_; clear F)
  rintro r pm ⟨rfl, rfl⟩
  simp only [setA, retA, zipM, List.cons_append, List.nil_append]
  (have F := And.intro @okc0 (And.intro @len0 (And.intro @tk0 (And.intro @dr0 (And.intro @okc1 (And.intro @len1 (And.intro @tk1 (And.intro @dr1 (And.intro @drop0 (And.intro @lu0 (And.intro @tu0 (And.intro @du0 (And.intro @cu0 (And.intro @lu1 (And.intro @tu1 (And.intro @du1 (And.intro @cu1 (And.intro @cug (And.intro @nk @beq_self_eq_true.{0})))))))))))))))))); refine gR ?_; clear F)
  (have F := And.intro @okc0 (And.intro @len0 (And.intro @tk0 (And.intro @dr0 (And.intro @okc1 (And.intro @len1 (And.intro @tk1 (And.intro @dr1 (And.intro @drop0 (And.intro @lu0 (And.intro @tu0 (And.intro @du0 (And.intro @cu0 (And.intro @lu1 (And.intro @tu1 (And.intro @du1 (And.intro @cu1 (And.intro @cug (And.intro @nk @beq_self_eq_true.{0})))))))))))))))))); refine gG ?_; clear F)
  refine gB ?_
  (have F := And.intro @okc0 (And.intro @len0 (And.intro @tk0 (And.intro @dr0 (And.intro @okc1 (And.intro @len1 (And.intro @tk1 (And.intro @dr1 (And.intro @drop0 (And.intro @lu0 (And.intro @tu0 (And.intro @du0 (And.intro @cu0 (And.intro @lu1 (And.intro @tu1 (And.intro @du1 (And.intro @cu1 (And.intro @cug @nk))))))))))))))))); refine gCP [1100] [1100] (markTermS_all hokw 1 Eg vg (by omega) (by omega)) ?_; clear F)
  rintro r pm ⟨Fg, rfl, rfl⟩
  simp only [setA, retA, zipM, List.cons_append, List.nil_append]
  (have F := And.intro @okc0 (And.intro @len0 (And.intro @tk0 (And.intro @dr0 (And.intro @okc1 (And.intro @len1 (And.intro @tk1 (And.intro @dr1 (And.intro @drop0 (And.intro @lu0 (And.intro @tu0 (And.intro @du0 (And.intro @cu0 (And.intro @lu1 (And.intro @tu1 (And.intro @du1 (And.intro @cu1 (And.intro @cug @nk))))))))))))))))); refine gR ?_; clear F)
  (have F := And.intro @okc0 (And.intro @len0 (And.intro @tk0 (And.intro @dr0 (And.intro @okc1 (And.intro @len1 (And.intro @tk1 (And.intro @dr1 (And.intro @drop0 (And.intro @lu0 (And.intro @tu0 (And.intro @du0 (And.intro @cu0 (And.intro @lu1 (And.intro @tu1 (And.intro @du1 (And.intro @cu1 (And.intro @cug @nk))))))))))))))))); refine gG ?_; clear F)
  have nm : (1 + (cntRows wr : Int) < 0) = False := eq_false (by omega)
  have cH := heldTermS_all hokw (by omega) 1 (by omega) (by omega)
  refine gB ?_
  (have F := And.intro @okc0 (And.intro @len0 (And.intro @tk0 (And.intro @dr0 (And.intro @okc1 (And.intro @len1 (And.intro @tk1 (And.intro @dr1 (And.intro @drop0 (And.intro @lu0 (And.intro @tu0 (And.intro @du0 (And.intro @cu0 (And.intro @lu1 (And.intro @tu1 (And.intro @du1 (And.intro @cu1 (And.intro @cug (And.intro @nk @nm)))))))))))))))))); refine gCP [1100] [1100] (con_rd (lits := [.one (.lit vg), .one (.lit (.int .i64 1))]) [.set Fg (fun w => Own w (.sl (mkRows 1 wr)) Fg vg)] cH ⟨.treeS List.mem_cons_self, .same, trivial⟩ rfl rfl) ?_; clear F)
  rintro r pm ⟨rfl, rfl⟩
  simp only [setA, retA, zipM, List.cons_append, List.nil_append]
  (have F := And.intro @okc0 (And.intro @len0 (And.intro @tk0 (And.intro @dr0 (And.intro @okc1 (And.intro @len1 (And.intro @tk1 (And.intro @dr1 (And.intro @drop0 (And.intro @lu0 (And.intro @tu0 (And.intro @du0 (And.intro @cu0 (And.intro @lu1 (And.intro @tu1 (And.intro @du1 (And.intro @cu1 (And.intro @cug (And.intro @nk @nm)))))))))))))))))); refine gR ?_; clear F)
  (have F := And.intro @okc0 (And.intro @len0 (And.intro @tk0 (And.intro @dr0 (And.intro @okc1 (And.intro @len1 (And.intro @tk1 (And.intro @dr1 (And.intro @drop0 (And.intro @lu0 (And.intro @tu0 (And.intro @du0 (And.intro @cu0 (And.intro @lu1 (And.intro @tu1 (And.intro @du1 (And.intro @cu1 (And.intro @cug (And.intro @nk (And.intro @nm @beq_self_eq_true.{0}))))))))))))))))))); refine gG ?_; clear F)
  refine gB ?_
  (have F := And.intro @okc0 (And.intro @len0 (And.intro @tk0 (And.intro @dr0 (And.intro @okc1 (And.intro @len1 (And.intro @tk1 (And.intro @dr1 @drop0))))))); refine gC (cT0) ?_; clear F)
  (have F := And.intro @okc0 (And.intro @len0 (And.intro @tk0 (And.intro @dr0 (And.intro @okc1 (And.intro @len1 (And.intro @tk1 (And.intro @dr1 @drop0))))))); refine gC (cT1) ?_; clear F)
  (have F := And.intro @okc0 (And.intro @len0 (And.intro @tk0 (And.intro @dr0 (And.intro @okc1 (And.intro @len1 (And.intro @tk1 (And.intro @dr1 (And.intro @drop0 (And.intro @lu0 (And.intro @tu0 (And.intro @du0 (And.intro @cu0 (And.intro @lu1 (And.intro @tu1 (And.intro @du1 (And.intro @cu1 (And.intro @cug (And.intro @nk @nm)))))))))))))))))); refine gCP [] [1200] (him) ?_; clear F)
  rintro r pm ⟨vh, Eh, rfl, cuh, rfl⟩
  simp only [setA, retA, zipM, List.cons_append, List.nil_append]
  (have F := And.intro @okc0 (And.intro @len0 (And.intro @tk0 (And.intro @dr0 (And.intro @okc1 (And.intro @len1 (And.intro @tk1 (And.intro @dr1 (And.intro @drop0 (And.intro @lu0 (And.intro @tu0 (And.intro @du0 (And.intro @cu0 (And.intro @lu1 (And.intro @tu1 (And.intro @du1 (And.intro @cu1 (And.intro @cug (And.intro @nk (And.intro @nm @cuh))))))))))))))))))); refine gR ?_; clear F)
  (have F := And.intro @okc0 (And.intro @len0 (And.intro @tk0 (And.intro @dr0 (And.intro @okc1 (And.intro @len1 (And.intro @tk1 (And.intro @dr1 (And.intro @drop0 (And.intro @lu0 (And.intro @tu0 (And.intro @du0 (And.intro @cu0 (And.intro @lu1 (And.intro @tu1 (And.intro @du1 (And.intro @cu1 (And.intro @cug (And.intro @nk (And.intro @nm @cuh))))))))))))))))))); refine gG ?_; clear F)
  refine gB ?_
  (have F := And.intro @okc0 (And.intro @len0 (And.intro @tk0 (And.intro @dr0 (And.intro @okc1 (And.intro @len1 (And.intro @tk1 (And.intro @dr1 (And.intro @drop0 (And.intro @lu0 (And.intro @tu0 (And.intro @du0 (And.intro @cu0 (And.intro @lu1 (And.intro @tu1 (And.intro @du1 (And.intro @cu1 (And.intro @cug (And.intro @nk (And.intro @nm @cuh))))))))))))))))))); refine gCP [1200] [1200] (con_rd (lits := [.one (.lit vh), .one (.sl wr)]) [.set Eh (fun w => Own w (.sl wr) Eh vh)] cE ⟨.treeS List.mem_cons_self, .same, trivial⟩ rfl rfl) ?_; clear F)
  rintro r pm ⟨rfl, rfl⟩
  simp only [setA, retA, zipM, List.cons_append, List.nil_append]
  (have F := And.intro @okc0 (And.intro @len0 (And.intro @tk0 (And.intro @dr0 (And.intro @okc1 (And.intro @len1 (And.intro @tk1 (And.intro @dr1 (And.intro @drop0 (And.intro @lu0 (And.intro @tu0 (And.intro @du0 (And.intro @cu0 (And.intro @lu1 (And.intro @tu1 (And.intro @du1 (And.intro @cu1 (And.intro @cug (And.intro @nk (And.intro @nm (And.intro @cuh @beq_self_eq_true.{0})))))))))))))))))))); refine gR ?_; clear F)
  (have F := And.intro @okc0 (And.intro @len0 (And.intro @tk0 (And.intro @dr0 (And.intro @okc1 (And.intro @len1 (And.intro @tk1 (And.intro @dr1 (And.intro @drop0 (And.intro @lu0 (And.intro @tu0 (And.intro @du0 (And.intro @cu0 (And.intro @lu1 (And.intro @tu1 (And.intro @du1 (And.intro @cu1 (And.intro @cug (And.intro @nk (And.intro @nm (And.intro @cuh @beq_self_eq_true.{0})))))))))))))))))))); refine gG ?_; clear F)
  refine gB ?_
  (have F := And.intro @okc0 (And.intro @len0 (And.intro @tk0 (And.intro @dr0 (And.intro @okc1 (And.intro @len1 (And.intro @tk1 (And.intro @dr1 (And.intro @drop0 (And.intro @lu0 (And.intro @tu0 (And.intro @du0 (And.intro @cu0 (And.intro @lu1 (And.intro @tu1 (And.intro @du1 (And.intro @cu1 (And.intro @cug (And.intro @nk @nm)))))))))))))))))); refine gCP [1100] [1100] (con_rd (lits := [.one (.lit vg), .one (.lit (.int .i64 1))]) [.set Fg (fun w => Own w (.sl (mkRows 1 wr)) Fg vg)] cH ⟨.treeS List.mem_cons_self, .same, trivial⟩ rfl rfl) ?_; clear F)
  rintro r pm ⟨rfl, rfl⟩
  simp only [setA, retA, zipM, List.cons_append, List.nil_append]
  (have F := And.intro @okc0 (And.intro @len0 (And.intro @tk0 (And.intro @dr0 (And.intro @okc1 (And.intro @len1 (And.intro @tk1 (And.intro @dr1 (And.intro @drop0 (And.intro @lu0 (And.intro @tu0 (And.intro @du0 (And.intro @cu0 (And.intro @lu1 (And.intro @tu1 (And.intro @du1 (And.intro @cu1 (And.intro @cug (And.intro @nk @nm)))))))))))))))))); refine gR ?_; clear F)
  (have F := And.intro @okc0 (And.intro @len0 (And.intro @tk0 (And.intro @dr0 (And.intro @okc1 (And.intro @len1 (And.intro @tk1 (And.intro @dr1 (And.intro @drop0 (And.intro @lu0 (And.intro @tu0 (And.intro @du0 (And.intro @cu0 (And.intro @lu1 (And.intro @tu1 (And.intro @du1 (And.intro @cu1 (And.intro @cug (And.intro @nk (And.intro @nm (And.intro @cuh @beq_self_eq_true.{0})))))))))))))))))))); refine gG ?_; exact gT)
theorem lawExactCandidateTerms (w : World) (row0 : List C) (S0 : Nat → Prop) (us0 : List Value) (hok0 : okRow (sigF) row0) (hv0 : RepVals w S0 row0 us0) (row1 : List C) (S1 : Nat → Prop) (us1 : List Value) (hok1 : okRow (fieldsOf .term) row1) (hv1 : RepVals w S1 row1 us1) :
    Calls Tryz.prog 8 #[(.agg us0.toArray : Value), (.agg us1.toArray : Value)] w fun e w' => e = .returned (.bool true) ∧ Below w.heap.size w w' := by
  obtain ⟨g, rfl, k0⟩ := decSgn hok0
  obtain ⟨t, rfl, k1⟩ := decTm hok1
  have hc := (con_lawCandidateTerms hok0 hok1 (okRows_enc _ (candT_ok k1)) (fun b0 b1 bt => candT_big) (fun b0 b1 bt => con_specCand k0 k1 b1) (fun b0 b1 bt => conP_implCand k0 k1 b1)).2 w (fun b => b < w.heap.size) [(.agg us0.toArray : Value), (.agg us1.toArray : Value)] (fun b hb => ⟨hb, id⟩) (fun b hb => hb.elim) trivial
    ⟨⟨us0, rfl, hv0.inside'⟩, ⟨us1, rfl, hv1.inside'⟩, trivial⟩
  refine hc.mono fun e w' ⟨v, h1, h2, _, h4⟩ => ⟨?_, h2.below⟩
  have h4 : v = .bool true := by simpa [retA, ARel, DRel, Rep] using h4
  rw [h1, h4]
end Go.Proofs.YtofklmbljbkdaaaGreat
namespace Go.Proofs.YtofklmbljbkdaaaGreat
open Go.ChangeShapes Go.WideShapes Go.ChangeAt Go.RowKit Go.Deep
set_option maxRecDepth 100000 in
theorem candidateTerms_holds_lifted (os : Os) (started : os.Started) (H : Type) (enc : TypeId × Value → H) :
    ReturnsInHanded {} Tryz.checked os 8 .any (Rows.fnExactCandidateTermsSpec.pre6 enc Tryz.prog Tryz.f8 Rows.fnExactCandidateTermsRow.domain false) (Rows.fnExactCandidateTermsSpec.post enc Tryz.prog Tryz.f8 false true false false) := by
  refine returnsInHanded_of_change (C := Tryz.checked) own started (by kernel_rfl) Tryz.func8
    (ChangeSpec.witness6 (enc := enc) (C := Tryz.checked) false ⟨#[], #[.agg #[.slice none 0 0, .slice none 0 0, .slice none 0 0], .agg #[.int .i64 0, .string .empty, .int .i64 0, .slice none 0 0]], []⟩ 8 (by kernel_rfl) (by kernel_rfl) (by kernel_rfl) (by kernel_rfl)) ?_
  intro W base args ds gs before hval0 hW _ _
  have hval : ∀ (j : Nat) t v, Tryz.f8.params[j]? = some t → args[j]? = some v → Value.okWide Tryz.prog W .any base t v := hval0
  have hW' := hW
  obtain ⟨p, q, hA0, hV, rfl, _, _⟩ := hW
  have hA : DataW.TrodAll enc Tryz.prog W 0 (fun _ => true) true Tryz.f8.params.toList args.toList ds p := hA0
  rw [Tryz.params8] at hA hval
  obtain ⟨v0, vs0, d0, ds0, p0, q0, hargs0, hd0, hp0, h0, r0⟩ := trodAll_cons hA
  obtain ⟨v1, vs1, d1, ds1, p1, q1, hargs1, hd1, hp1, h1, r1⟩ := trodAll_cons r0
  obtain ⟨e2, e2d, _⟩ := trodAll_nil r1
  rw [e2] at hargs1
  rw [hargs1] at hargs0
  obtain rfl : args = #[v0, v1] := by cases args; simp_all
  rw [e2d] at hd1
  rw [hd1] at hd0
  subst hd0
  obtain ⟨rfl, rfl⟩ := trodVars_none hV
  obtain ⟨cs0, rfl, _⟩ := okWide_struct Tryz.underlying28 (hval 0 28 v0 rfl rfl)
  obtain ⟨fuel0, hf0⟩ := h0
  obtain ⟨row0, hok0, hrep0⟩ := open_row seatTR fuel0 _ _ _ _ ty_Signature hf0
  have e0c : (Value.agg cs0).cells.toList.toArray = cs0 := by simp [Value.cells]
  obtain ⟨cs1, rfl, _⟩ := okWide_struct Tryz.underlying64 (hval 1 64 v1 rfl rfl)
  obtain ⟨fuel1, hf1⟩ := h1
  obtain ⟨row1, hok1, hrep1⟩ := open_row seatTR fuel1 _ _ _ _ ty_Term hf1
  have e1c : (Value.agg cs1).cells.toList.toArray = cs1 := by simp [Value.cells]
  have hlaw := lawExactCandidateTerms W row0 _ _ hok0 hrep0 row1 _ _ hok1 hrep1
  rw [e0c, e1c] at hlaw
  refine hlaw.mono fun e W' ⟨he, hb⟩ => ?_
  subst he
  exact ⟨_, rfl, law_post laidOut rfl rfl Tryz.underlying4 (by rw [Tryz.params8]; decide +kernel) hW' rfl hb⟩
set_option maxHeartbeats 400000000 in
set_option maxRecDepth 100000 in
theorem candidateTerms_holds_closed : joinedFacts Tryz.checked.prog 8 Tryz.f8 Rows.fnExactCandidateTermsSpec Rows.fnExactCandidateTermsRow = true := by
  unfold joinedFacts
  simp only [Bool.and_eq_true]
  and_intros
  all_goals as_aux_lemma => kernel_rfl
theorem candidateTerms_holds_named : Tryz.checked.prog.funcNamed Rows.fnExactCandidateTermsRow.func = some 8 := by kernel_rfl
theorem candidateTerms_holds : Rows.FnExactCandidateTermsSaid :=
  OpenClaim.holds_of_wide 8 Tryz.f8 rfl rfl rfl rfl rfl rfl rfl ⟨rfl, rfl, rfl, rfl, rfl⟩ rfl rfl rfl rfl rfl candidateTerms_holds_named Tryz.func8 candidateTerms_holds_closed
    (of_decide_eq_true (by kernel_rfl)) (by unfold Func.isWrapper; rw [if_neg (of_decide_eq_false (by kernel_rfl))]; exact ⟨rfl, rfl⟩)
    (fun os started H enc _ => candidateTerms_holds_lifted os started H enc)
#print axioms candidateTerms_holds
end Go.Proofs.YtofklmbljbkdaaaGreat
