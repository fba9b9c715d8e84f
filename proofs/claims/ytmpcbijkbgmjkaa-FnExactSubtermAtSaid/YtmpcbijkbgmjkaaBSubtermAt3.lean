/-
  FnExactSubtermAt returns true for every term and path, and turns nothing: proved without conditions.
-/
import Derived.Test.YtmpcbijkbgmjkaaBSubtermAt0
import Derived.Test.YtmpcbijkbgmjkaaBSubtermAt1
import Derived.Test.YtmpcbijkbgmjkaaBSubtermAt2
set_option linter.unusedSimpArgs false
set_option linter.unusedVariables false
namespace Go.Proofs.Ytmpcbijkbgmjkaa
open Go.RowKit

/-- A slice marked from k on; it lies where it lay. -/
def MarkS (f : FuncId) (rows : List (List C)) : Prop := ∀ (k : Int) (E : Nat → Prop) (v : Value), 0 ≤ k → k + cntRows rows ≤ 1000000000 → ConP e0 f [.one (.lit v), .one (.lit (.int .i64 k))] [.set E (fun w => Own w (.sl rows) E v)] (fun r pm => ∃ E', r = [.one (.lit (.int .i64 (k + cntRows rows)))] ∧ pm = [.set E' (fun w => Own w (.sl (mkRows k rows)) E' v)])
theorem okRows.rowsLen {fs : List F} {rows : List (List C)} (h : okRows fs rows) : rowsLen fs.length rows := fun r hr => by
  obtain ⟨i, hi⟩ := List.getElem?_of_mem hr
  exact ⟨(h.get hi).len, (h.get hi).cells⟩
theorem mkRows_nil (k : Int) : mkRows k [] = [] := by simp only [mkRows]
theorem cnt_nil : cntRows [] = 0 := by simp only [cntRows]
theorem set_get {α : Type} {l : List α} {i : Nat} (h : i < l.length) (x : α) : (l.set i x)[i]? = some x := by simp [h]
theorem set_len {α : Type} (l : List α) (i : Nat) (x : α) : (l.set i x).length = l.length := List.length_set
theorem set_set' {α : Type} (l : List α) (i : Nat) (x y : α) : (l.set i x).set i y = l.set i y := List.set_set ..
theorem set_take {α : Type} {l : List α} {i : Nat} {x : α} (h : i < l.length) : (l.set i x).take (i + 1) = l.take i ++ [x] := by
  rw [tk_snoc (x := x) (by simp [h]), List.take_set_of_le (Nat.le_refl _)]
theorem set_drop {α : Type} (l : List α) (i : Nat) (x : α) : (l.set i x).drop (i + 1) = l.drop (i + 1) := List.drop_set_of_lt (by omega)
set_option maxHeartbeats 8000000 in
set_option maxRecDepth 100000 in
theorem mark_TermS (rows : List (List C)) (hok : okRows (fieldsOf .term) rows) (h : ∀ r ∈ rows, ∀ i0 t1 i2 r3, r = [.lit (.int .i64 i0), .lit (.string t1), .lit (.int .i64 i2), .sl r3] → MarkS 40 r3) : MarkS 40 rows := by
  intro k E v hk hb
  refine gIP (ts := [.slot 4]) [1000] 563 Try.func40 ?_
  (have F := @e0P; refine gG ?_; clear F)
  by_cases hne : rows = []
  · subst hne
    refine pEx [1000] [1000] fd_nil ?_
    rintro ⟨a, cap⟩ rfl
    (have F := @hk; refine gL (ι := Unit) [1, 5, 9] [] (fun x => [(5, .d (.one (.lit (.int .i64 0)))), (1, .d (.one (.lit (.int .i64 k))))]) (fun x => []) (fun x => True) (fun x => 0) (()) (trivial) (fun x hx => ?_); clear F)
    have q1 : ((0 : Int) < 0) = False := eq_false (by decide)
    have q2 : ((0 : Int) < ((0 : Nat) : Int)) = False := eq_false (by decide)
    (have F := And.intro @q1 @q2; refine gG ?_; clear F)
    have F := hk
    refine gTP (R := fun r pm => ∃ E', r = [.one (.lit (.int .i64 (k + (cntRows [] : Nat))))] ∧ pm = [.set E' (fun w => Own w (.sl (mkRows k [])) E' (.slice a 0 cap))]) [1000] ⟨E, by simp only [cntRows, Int.natCast_zero, Int.add_zero]; rfl, by simp only [mkRows]; rfl⟩
  · have hrl : rowsLen 4 rows := okRows.rowsLen hok
    refine pEx [1000] [1000, 1001] (fd_open hne hrl) ?_
    rintro ⟨a, cap, ety, uss, E1⟩ ⟨rfl, hl, hmx⟩
    simp only at hl ⊢
    unfold maxLen at hmx
    refine pE [] [1002] re_none ?_
    (have F := And.intro @mkRows_nil (And.intro @cnt_nil (And.intro @Int.add_zero @Int.natCast_zero)); refine gL (ι := Nat × List (List Value) × (Nat → Prop) × (Nat → Prop)) [1, 5, 9] [1000, 1001, 1002] (fun x => [(5, .d (.one (.lit (.int .i64 (x.1 : Int))))), (1, .d (.one (.lit (.int .i64 (k + (cntRows (rows.take x.1) : Nat))))))]) (fun x => [(1000, .buf (some (a, cap)) ety 4 (x.2.1.map litRow)), (1001, .set x.2.2.1 (fun w => OwnVs w (rows.drop x.1) x.2.2.1 (x.2.1.drop x.1))), (1002, .set x.2.2.2 (fun w => OwnVs w (mkRows k (rows.take x.1)) x.2.2.2 (x.2.1.take x.1)))]) (fun x => x.1 ≤ rows.length ∧ x.2.1.length = rows.length) (fun x => rows.length - x.1) ((0, uss, E1, fun _ => False)) (⟨Nat.zero_le _, hl⟩) (fun x hx => ?_); clear F)
    obtain ⟨i, us, E2, E3⟩ := x
    obtain ⟨hi, hn⟩ := hx
    simp only at hi hn
    dsimp only
    by_cases hlt : i < rows.length
    · obtain ⟨r, hr⟩ : ∃ r, rows[i]? = some r := ⟨_, List.getElem?_eq_getElem hlt⟩
      obtain ⟨u, hu⟩ : ∃ u, us[i]? = some u := ⟨_, List.getElem?_eq_getElem (by omega)⟩
      obtain ⟨i0, t1, i2, r3, rfl, _, _, _, g3⟩ := okRow_Term (hok.get hr)
      have hm := h _ (List.mem_of_getElem? hr) i0 t1 i2 r3 rfl
      have hc1 : cntRows (rows.take (i + 1)) = cntRows (rows.take i) + (3 + cntRows r3) := by
        rw [tk_snoc hr, cnt_snoc]; simp only [cntRow, cntC]; omega
      have hc2 := cnt_take_le rows (i + 1)
      rw [drop_get hr, drop_get hu]
      refine pEx [1001] [1001] (fd_lits rfl) ?_
      rintro ⟨⟩ hlit
      obtain ⟨u3, rfl⟩ : ∃ u3, u = [.int .i64 i0, .string t1, .int .i64 i2, u3] := by
        match u, hlit with
        | [_, _, _, u3], ⟨rfl, rfl, rfl, _⟩ => exact ⟨u3, rfl⟩
      refine pEx (f := fun (x : (Nat → Prop) × (Nat → Nat → Prop)) => [.set x.1 (fun w => OwnVs w (rows.drop (i + 1)) x.1 (us.drop (i + 1))), .set (x.2 0) (fun w => Own w (.sl r3) (x.2 0) u3)]) [1001] [1001, 1003] (fd_row rfl) ?_
      rintro ⟨E4, Es⟩ -
      dsimp only
      generalize hkk : k + (cntRows (rows.take i) : Int) = kk
      have q1 : ((i : Int) < (rows.length : Int)) = True := eq_true (by omega)
      have q2 : i < rows.length := hlt
      have hs : ∀ X : List C, ((us.map litRow).set i X)[i]? = some X := fun X => set_get (by rw [len_lits, hn]; omega) X
      have w1 : IntKind.i64.wrap (kk + 1) = kk + 1 := IntWalk.i64_in _ (by omega)
      have w2 : IntKind.i64.wrap (kk + 1 + 1) = kk + 1 + 1 := IntWalk.i64_in _ (by omega)
      have w3 : IntKind.i64.wrap (kk + 1 + 1 + 1) = kk + 1 + 1 + 1 := IntWalk.i64_in _ (by omega)
      have w4 : IntKind.i64.wrap ((i : Int) + 1) = (i : Int) + 1 := IntWalk.i64_in _ (by omega)
      (have F := And.intro @q1 (And.intro @hl (And.intro @hn (And.intro @hu (And.intro @litRow4 (And.intro @len_lits (And.intro @set_len (And.intro @hs (And.intro @w1 (And.intro @w2 (And.intro @w3 (And.intro @q2 @set_set'))))))))))); refine gG ?_; clear F)
      refine gB ?_
      (have F := @q1; refine gC (con_markText (kk + 1) (by omega) (by omega)) ?_; clear F)
      (have F := And.intro @hl (And.intro @hn (And.intro @hu (And.intro @litRow4 (And.intro @len_lits (And.intro @set_len (And.intro @hs (And.intro @q2 @set_set'))))))); refine gR ?_; clear F)
      (have F := And.intro @q1 (And.intro @hl (And.intro @hn (And.intro @hu (And.intro @litRow4 (And.intro @len_lits (And.intro @set_len (And.intro @hs (And.intro @w1 (And.intro @w2 (And.intro @w3 (And.intro @q2 @set_set'))))))))))); refine gG ?_; clear F)
      refine gB ?_
      (have F := And.intro @q1 (And.intro @hl (And.intro @hn (And.intro @hu (And.intro @litRow4 (And.intro @len_lits (And.intro @set_len (And.intro @hs (And.intro @w1 (And.intro @w2 (And.intro @w3 (And.intro @q2 @set_set'))))))))))); refine gCP [1003] [1003] (hm (kk + 1 + 1 + 1) (Es 0) u3 (by omega) (by omega)) ?_; clear F)
      rintro r pm ⟨E5, rfl, rfl⟩
      simp only [setA, retA, zipM, List.cons_append, List.nil_append]
      (have F := @q1; refine gR ?_; clear F)
      obtain ⟨E6, hre⟩ : ∃ E6, Retold [.set E3 (fun w => OwnVs w (mkRows k (rows.take i)) E3 (us.take i)), .set E5 (fun w => Own w (.sl (mkRows (kk + 1 + 1 + 1) r3)) E5 u3)] [.set E6 (fun w => OwnVs w (mkRows k (rows.take (i + 1))) E6 ((us.set i [.int .i64 kk, .string (txt (kk + 1)), .int .i64 (kk + 1 + 1), u3]).take (i + 1)))] := by
        have hz := re_row (E := E3) (done := mkRows k (rows.take i)) (ud := us.take i) (cs := [.lit (.int .i64 kk), .lit (.string (txt (kk + 1))), .lit (.int .i64 (kk + 1 + 1)), .sl (mkRows (kk + 1 + 1 + 1) r3)]) (us := [.int .i64 kk, .string (txt (kk + 1)), .int .i64 (kk + 1 + 1), u3]) (Es := fun _ => E5) rfl ⟨rfl, rfl, rfl, trivial⟩
        rw [tk_snoc hr, mkRows_snoc, hkk, set_take (by omega)]
        simp only [mkRow, mkC, mkV, cntC, Int.natCast_one]
        exact ⟨_, hz⟩
      refine pE [1002, 1003] [1002] hre ?_
      have e1 : ((us.set i [.int .i64 kk, .string (txt (kk + 1)), .int .i64 (kk + 1 + 1), u3]).map litRow) = (us.map litRow).set i [.lit (.int .i64 kk), .lit (.string (txt (kk + 1))), .lit (.int .i64 (kk + 1 + 1)), .lit u3] := by rw [List.map_set, litRow4]
      have e2 := set_drop us i [.int .i64 kk, .string (txt (kk + 1)), .int .i64 (kk + 1 + 1), u3]
      have e5 : k + (cntRows (rows.take (i + 1)) : Int) = kk + 1 + 1 + 1 + (cntRows r3 : Int) := by rw [hc1]; omega
      have hn2 : (us.set i [.int .i64 kk, .string (txt (kk + 1)), .int .i64 (kk + 1 + 1), u3]).length = rows.length := by rw [set_len, hn]
      generalize us.set i [.int .i64 kk, .string (txt (kk + 1)), .int .i64 (kk + 1 + 1), u3] = us2 at e1 e2 hn2 ⊢
      rw [← e1, ← e2]
      (have F := And.intro @w4 (And.intro @e5 @hl); refine gG ?_; exact ⟨(i + 1, us2, E4, E6), ⟨hlt, hn2⟩, gw, gw, by omega⟩)
    · obtain rfl : i = rows.length := by omega
      have q1 : ((rows.length : Int) < (rows.length : Int)) = False := eq_false (by omega)
      rw [List.take_length, List.take_of_length_le (Nat.le_of_eq hn)]
      (have F := And.intro @q1 (And.intro @hl @hn); refine gG ?_; clear F)
      obtain ⟨E6, hre⟩ : ∃ E6, Retold [.buf (some (a, cap)) ety 4 (us.map litRow), .set E3 (fun w => OwnVs w (mkRows k rows) E3 us)] [.set E6 (fun w => Own w (.sl (mkRows k rows)) E6 (.slice a uss.length cap))] := by
        rw [hl, ← hn]
        exact ⟨_, re_close (fun w h => h) (Own.stable _ _ _)⟩
      refine pE [1000, 1002] [1000] hre ?_
      have F := hk
      exact gTP (R := fun r pm => ∃ E', r = [.one (.lit (.int .i64 (k + (cntRows rows : Nat))))] ∧ pm = [.set E' (fun w => Own w (.sl (mkRows k rows)) E' (.slice a uss.length cap))]) [1000] ⟨E6, rfl, rfl⟩
theorem markTermS_n (n : Nat) : ∀ rows, nodesRows rows < n → okRows (fieldsOf .term) rows → MarkS 40 rows := by
  induction n with
  | zero => exact fun _ h => by omega
  | succ n ih =>
    intro rows hn hok
    refine mark_TermS rows hok fun r hr i0 t1 i2 r3 he => ?_
    subst he
    obtain ⟨i, hi⟩ := List.getElem?_of_mem hr
    have h1 := nodes_get hi
    obtain ⟨_, _, _, _, he, _, _, _, g3⟩ := okRow_Term (hok.get hi)
    injection he with _ he; injection he with _ he; injection he with _ he; injection he with he _; injection he with he; subst he
    simp only [nodesRow, nodesC] at h1
    exact ih _ (by omega) g3
theorem markTermS_all {rows : List (List C)} (hok : okRows (fieldsOf .term) rows) : MarkS 40 rows := markTermS_n _ rows (Nat.lt_succ_self _) hok
/-- What a struct's slices become: its other cells stay. -/
def mkTop : Int → List C → List C
  | _, [] => []
  | k, .sl rows :: cs => .sl (mkRows k rows) :: mkTop (k + cntRows rows) cs
  | k, c :: cs => c :: mkTop k cs
def cntTop : List C → Nat
  | [] => 0
  | .sl rows :: cs => cntRows rows + cntTop cs
  | _ :: cs => cntTop cs
def MarkV (f : FuncId) (row : List C) : Prop := ∀ (k : Int) (E : Nat → Prop) (us : List Value), us.length = row.length → (litRow us).all okCell = true → 0 ≤ k → k + cntTop row ≤ 1000000000 → ConP e0 f [.agg (litRow us), .one (.lit (.int .i64 k))] [.set E (fun w => OwnVals w row E us)] (fun r pm => ∃ E', r = [.one (.lit (.int .i64 (k + cntTop row)))] ∧ pm = [.set E' (fun w => OwnVals w (mkTop k row) E' us)])
theorem fd_vals {E : Nat → Prop} {r : List C} {us : List Value} (hp : r.all plainC = true) : Found (ι := Unit) [.set E (fun w => OwnVals w r E us)] (fun _ => litsOk r us) (fun _ => [.set E (fun w => OwnVals w r E us)]) := fun w S h ha => by
  obtain ⟨h1, h2, h3⟩ : (∀ b, E b → b < w.heap.size ∧ ¬ S b) ∧ OwnVals w r E us ∧ _ := h (.set E (fun w => OwnVals w r E us)) (by simp)
  obtain ⟨Es, hl, _⟩ := cells_of (S := S) hp h2 h1
  exact ⟨(), hl, h, ha, fun _ h => h⟩
theorem fd_cells {E : Nat → Prop} {r : List C} {us : List Value} (hp : r.all plainC = true) : Found (ι := Nat → Nat → Prop) [.set E (fun w => OwnVals w r E us)] (fun _ => True) (fun i => cellSets r us i) := fun w S h ha => by
  obtain ⟨h1, h2, h3⟩ : (∀ b, E b → b < w.heap.size ∧ ¬ S b) ∧ OwnVals w r E us ∧ _ := h (.set E (fun w => OwnVals w r E us)) (by simp)
  obtain ⟨Es, hl, q1, q2, q3⟩ := cells_of (S := S) hp h2 h1
  exact ⟨Es, trivial, q1, q2, fun g hg => ⟨_, List.mem_cons_self, q3 g hg⟩⟩
theorem re_cells {cs : List C} {us : List Value} {Es : Nat → Nat → Prop} (hp : cs.all plainC = true) (hl : litsOk cs us) : Retold (cellSets cs us Es) [.set (pblks (cellSets cs us Es)) (fun w => OwnVals w cs (pblks (cellSets cs us Es)) us)] := fun w S h ha => by
  have hv := OwnVals.of_cells (w := w) (S := S) hp hl h ha
  refine ⟨fun x hx => ?_, apart_1 _, fun g ⟨x, hx, hg⟩ => ?_⟩
  · simp only [List.mem_cons, List.not_mem_nil, or_false] at hx
    subst hx
    refine ⟨fun b ⟨y, hy, hg⟩ => ?_, hv, OwnVals.stable _ _ _⟩
    obtain ⟨E', G', rfl⟩ := cellSets_set y hy
    exact (h _ hy).1 b hg
  · simp only [List.mem_cons, List.not_mem_nil, or_false] at hx
    subst hx
    exact hg
set_option maxHeartbeats 8000000 in
theorem markTerm_all {row : List C} (hok : okRow (fieldsOf .term) row) : MarkV 14 row := by
  obtain ⟨i0, t1, i2, r3, rfl, _, _, _, g3⟩ := okRow_Term hok
  intro k E us hl hc hk hb
  obtain ⟨u0, u1, u2, u3, rfl⟩ := len4 hl
  obtain ⟨k0, k1, k2, k3⟩ := okc4 hc
  simp only [cntTop, Nat.add_zero] at hb ⊢
  rw [litRow4]
  refine gIP (ts := [.slot 4]) [1000] 23 Try.func14 ?_
  refine pEx [1000] [1000] (fd_vals rfl) ?_
  rintro ⟨⟩ ⟨rfl, rfl, rfl, _⟩
  refine pEx (f := fun (x : Nat → Nat → Prop) => [.set (x 0) (fun w => Own w (.sl r3) (x 0) u3)]) [1000] [1000] (fd_cells rfl) ?_
  rintro Es -
  (have F := And.intro @k0 (And.intro @k1 (And.intro @k2 @k3)); refine gG ?_; clear F)
  refine gB ?_
  (have F := And.intro @k0 (And.intro @k1 (And.intro @k2 @k3)); refine gCP [1000] [1000] (markTermS_all g3 k (Es 0) u3 hk hb) ?_; clear F)
  rintro r pm ⟨E5, rfl, rfl⟩
  simp only [setA, retA, zipM, List.cons_append, List.nil_append]
  (have F := And.intro @k0 (And.intro @k1 (And.intro @k2 @k3)); refine gR ?_; clear F)
  (have F := And.intro @k0 (And.intro @k1 (And.intro @k2 @k3)); refine gG ?_; clear F)
  obtain ⟨E6, hre⟩ : ∃ E6, Retold [.set E5 (fun w => Own w (.sl (mkRows k r3)) E5 u3)] [.set E6 (fun w => OwnVals w [.lit (.int .i64 i0), .lit (.string t1), .lit (.int .i64 i2), .sl (mkRows k r3)] E6 [.int .i64 i0, .string t1, .int .i64 i2, u3])] :=
    ⟨_, re_cells (cs := [.lit (.int .i64 i0), .lit (.string t1), .lit (.int .i64 i2), .sl (mkRows k r3)]) (us := [.int .i64 i0, .string t1, .int .i64 i2, u3]) (Es := fun _ => E5) rfl ⟨rfl, rfl, rfl, trivial⟩⟩
  refine pE [1000] [1000] hre ?_
  have F := hk
  exact gTP (R := fun r pm => ∃ E', r = [.one (.lit (.int .i64 (k + (cntRows r3 : Nat))))] ∧ pm = [.set E' (fun w => OwnVals w (mkTop k [.lit (.int .i64 i0), .lit (.string t1), .lit (.int .i64 i2), .sl r3]) E' [.int .i64 i0, .string t1, .int .i64 i2, u3])]) [1000] ⟨E6, rfl, by simp only [mkTop]; rfl⟩
end Go.Proofs.Ytmpcbijkbgmjkaa

namespace Go.Proofs.Ytmpcbijkbgmjkaa
open Go.RowKit

def HeldS (f : FuncId) (rows : List (List C)) : Prop := ∀ (k : Int), 0 ≤ k → k + cntRows rows ≤ 1000000000 → Con e0 f [.one (.sl (mkRows k rows)), .one (.lit (.int .i64 k))] [.one (.lit (.int .i64 (k + cntRows rows)))]
theorem mkRows_get : ∀ {rows : List (List C)} {i : Nat} {r : List C} (k : Int), rows[i]? = some r → (mkRows k rows)[i]? = some (mkRow (k + cntRows (rows.take i)) r)
  | q :: rows, 0, r, k, h => by simp at h; subst h; simp [mkRows, cntRows]
  | q :: rows, i + 1, r, k, h => by
    simp only [List.getElem?_cons_succ] at h
    simp only [mkRows, List.getElem?_cons_succ, List.take_succ_cons, cntRows]
    rw [mkRows_get _ h]
    congr 2
    omega
  | [], _, _, _, h => by simp at h
theorem mkV_ok {v : Value} {k : Int} (h : okCell (.lit v) = true) : okCell (.lit (mkV k v)) = true := by
  cases v <;> first | rfl | exact h
theorem mkRow_cells : ∀ (cs : List C) (k : Int), cs.all okCell = true → (mkRow k cs).all okCell = true
  | [], _, _ => by simp [mkRow]
  | c :: cs, k, h => by
    simp only [List.all_cons, Bool.and_eq_true] at h
    simp only [mkRow, List.all_cons, Bool.and_eq_true]
    refine ⟨?_, mkRow_cells cs _ h.2⟩
    cases c with
    | lit v => simp only [mkC]; exact mkV_ok h.1
    | _ => simp [mkC, okCell]
theorem rb_mk {n : Nat} : ∀ {rows : List (List C)} (k : Int), rowsLen n rows → rowsB n (mkRows k rows) = true
  | [], k, _ => by simp [mkRows, rowsB]
  | r :: rows, k, h => by
    have h1 := h r List.mem_cons_self
    have h2 := rb_mk (k + cntRow r) (fun x hx => h x (List.mem_cons_of_mem _ hx) : rowsLen n rows)
    unfold rowsB at h2 ⊢
    simp only [mkRows, List.all_cons, Bool.and_eq_true]
    exact ⟨⟨by rw [mkRow_len, h1.1]; exact beq_self_eq_true n, mkRow_cells _ _ h1.2⟩, h2⟩
set_option maxHeartbeats 8000000 in
set_option maxRecDepth 100000 in
theorem held_TermS (rows : List (List C)) (hok : okRows (fieldsOf .term) rows) (hmx : rows.length ≤ 1048576) (h : ∀ r ∈ rows, ∀ i0 t1 i2 r3, r = [.lit (.int .i64 i0), .lit (.string t1), .lit (.int .i64 i2), .sl r3] → HeldS 41 r3) : HeldS 41 rows := by
  intro k hk hb
  have hrb : rowsB 4 (mkRows k rows) = true := rb_mk k hok.rowsLen
  have hml := mkRows_len k rows
  refine gI (ts := [.slot 4]) 281612684362291 Try.func41 ?_
  (have F := @e0P; refine gG ?_; clear F)
  (have F := And.intro @mkRows_nil (And.intro @cnt_nil (And.intro @Int.add_zero @Int.natCast_zero)); refine gL (ι := Nat) [1, 4, 5, 9, 18, 28, 37, 48] [] (fun x => [(5, .d (.one (.lit (.int .i64 (x : Int))))), (1, .d (.one (.lit (.int .i64 (k + (cntRows (rows.take x) : Nat))))))]) (fun x => []) (fun x => x ≤ rows.length) (fun x => rows.length - x) (0) (Nat.zero_le _) (fun x hx => ?_); clear F)
  by_cases hlt : x < rows.length
  · obtain ⟨r, hr⟩ : ∃ r, rows[x]? = some r := ⟨_, List.getElem?_eq_getElem hlt⟩
    obtain ⟨i0, t1, i2, r3, rfl, _, _, _, g3⟩ := okRow_Term (hok.get hr)
    have hm := h _ (List.mem_of_getElem? hr) i0 t1 i2 r3 rfl
    have hc1 : cntRows (rows.take (x + 1)) = cntRows (rows.take x) + (3 + cntRows r3) := by
      rw [tk_snoc hr, cnt_snoc]; simp only [cntRow, cntC]; omega
    have hc2 := cnt_take_le rows (x + 1)
    have hg := mkRows_get k hr
    simp only [mkRow, mkC, mkV, cntC, Int.natCast_one] at hg
    have e5 : k + (cntRows (rows.take (x + 1)) : Int) = k + (cntRows (rows.take x) : Int) + 1 + 1 + 1 + (cntRows r3 : Int) := by rw [hc1]; omega
    have b1 : k + (cntRows (rows.take x) : Int) + 3 + cntRows r3 ≤ 1000000000 := by omega
    have b0 : 0 ≤ k + (cntRows (rows.take x) : Int) := by omega
    generalize k + (cntRows (rows.take x) : Int) = kk at hg e5 b1 b0 ⊢
    have q1 : ((x : Int) < (rows.length : Int)) = True := eq_true (by omega)
    have w1 : IntKind.i64.wrap (kk + 1) = kk + 1 := IntWalk.i64_in _ (by omega)
    have w2 : IntKind.i64.wrap (kk + 1 + 1) = kk + 1 + 1 := IntWalk.i64_in _ (by omega)
    have w3 : IntKind.i64.wrap (kk + 1 + 1 + 1) = kk + 1 + 1 + 1 := IntWalk.i64_in _ (by omega)
    have w4 : IntKind.i64.wrap ((x : Int) + 1) = (x : Int) + 1 := IntWalk.i64_in _ (by omega)
    (have F := And.intro @q1 (And.intro @hml (And.intro @hrb (And.intro @hg (And.intro @beq_self_eq_true.{0} @w1)))); refine gG ?_; clear F)
    refine gB ?_
    (have F := And.intro @q1 (And.intro @hml (And.intro @hrb @hg)); refine gC (con_markText (kk + 1) (by omega) (by omega)) ?_; clear F)
    (have F := And.intro @q1 (And.intro @hml (And.intro @hrb (And.intro @hg @beq_self_eq_true.{0}))); refine gR ?_; clear F)
    (have F := And.intro @q1 (And.intro @hml (And.intro @hrb (And.intro @hg (And.intro @beq_self_eq_true.{0} (And.intro @w1 (And.intro @w2 @w3)))))); refine gG ?_; clear F)
    refine gB ?_
    (have F := And.intro @q1 (And.intro @hml (And.intro @hrb @hg)); refine gC (hm (kk + 1 + 1 + 1) (by omega) (by omega)) ?_; clear F)
    (have F := @q1; refine gR ?_; clear F)
    have q5 : (kk + 1 + 1 + 1 + (cntRows r3 : Int) < 0) = False := eq_false (by omega)
    (have F := And.intro @q5 (And.intro @w4 @e5); refine gG ?_; exact ⟨x + 1, hlt, gw, gw, by omega⟩)
  · obtain rfl : x = rows.length := by omega
    have q1 : ((rows.length : Int) < (rows.length : Int)) = False := eq_false (by omega)
    rw [List.take_length]
    (have F := And.intro @q1 @hml; refine gG ?_; exact gTd)
theorem heldTermS_n (n : Nat) : ∀ rows, nodesRows rows < n → okRows (fieldsOf .term) rows → rows.length + bulkRows rows ≤ 1048576 → HeldS 41 rows := by
  induction n with
  | zero => exact fun _ h => by omega
  | succ n ih =>
    intro rows hn hok hB
    refine held_TermS rows hok (by omega) fun r hr i0 t1 i2 r3 he => ?_
    subst he
    obtain ⟨i, hi⟩ := List.getElem?_of_mem hr
    have h1 := nodes_get hi
    have h2 := bulk_get hi
    obtain ⟨_, _, _, _, he, _, _, _, g3⟩ := okRow_Term (hok.get hi)
    injection he with _ he; injection he with _ he; injection he with _ he; injection he with he _; injection he with he; subst he
    simp only [nodesRow, nodesC] at h1
    simp only [bulkRow, bulkC] at h2
    exact ih _ (by omega) g3 (by omega)
theorem heldTermS_all {rows : List (List C)} (hok : okRows (fieldsOf .term) rows) (hB : rows.length + bulkRows rows ≤ 1048576) : HeldS 41 rows := heldTermS_n _ rows (Nat.lt_succ_self _) hok hB
theorem heldTerm_all {row : List C} (hok : okRow (fieldsOf .term) row) (hB : bulkRow row ≤ 1048576) (k : Int) (hk : 0 ≤ k) (hb : k + cntTop row ≤ 1000000000) : Con e0 16 [.agg (mkTop k row), .one (.lit (.int .i64 k))] [.one (.lit (.int .i64 (k + cntTop row)))] := by
  obtain ⟨i0, t1, i2, r3, rfl, _, _, _, g3⟩ := okRow_Term hok
  simp only [cntTop, Nat.add_zero] at hb ⊢
  simp only [bulkRow, bulkC] at hB
  simp only [mkTop]
  have q5 : (k + (cntRows r3 : Int) < 0) = False := eq_false (by omega)
  refine gI (ts := [.slot 4]) 1047 Try.func16 ?_
  (have F := @e0P; refine gG ?_; clear F)
  refine gB ?_
  (have F := @q5; refine gC (heldTermS_all g3 (by omega) k hk hb) ?_; clear F)
  (have F := @q5; refine gR ?_; clear F)
  (have F := @q5; refine gG ?_; exact gTd)
end Go.Proofs.Ytmpcbijkbgmjkaa

namespace Go.Proofs.Ytmpcbijkbgmjkaa
open Go.RowKit

theorem litRow1 (u0 : Value) : litRow [u0] = [.lit u0] := rfl
set_option maxHeartbeats 8000000 in
set_option maxRecDepth 100000 in
theorem mark_IntS {rows : List (List C)} (hok : okRows (fieldsOf .int) rows) : MarkS 15 rows := by
  intro k E v hk hb
  refine gIP (ts := [.slot 4]) [1000] 563 Try.func15 ?_
  (have F := @e0P; refine gG ?_; clear F)
  by_cases hne : rows = []
  · subst hne
    refine pEx [1000] [1000] fd_nil ?_
    rintro ⟨a, cap⟩ rfl
    (have F := @hk; refine gL (ι := Unit) [1, 5, 9] [] (fun x => [(5, .d (.one (.lit (.int .i64 0)))), (1, .d (.one (.lit (.int .i64 k))))]) (fun x => []) (fun x => True) (fun x => 0) (()) (trivial) (fun x hx => ?_); clear F)
    have q1 : ((0 : Int) < 0) = False := eq_false (by decide)
    have q2 : ((0 : Int) < ((0 : Nat) : Int)) = False := eq_false (by decide)
    (have F := And.intro @q1 @q2; refine gG ?_; clear F)
    have F := hk
    refine gTP (R := fun r pm => ∃ E', r = [.one (.lit (.int .i64 (k + (cntRows [] : Nat))))] ∧ pm = [.set E' (fun w => Own w (.sl (mkRows k [])) E' (.slice a 0 cap))]) [1000] ⟨E, by simp only [cntRows, Int.natCast_zero, Int.add_zero]; rfl, by simp only [mkRows]; rfl⟩
  · have hrl : rowsLen 1 rows := okRows.rowsLen hok
    refine pEx [1000] [1000, 1001] (fd_open hne hrl) ?_
    rintro ⟨a, cap, ety, uss, E1⟩ ⟨rfl, hl, hmx⟩
    simp only at hl ⊢
    unfold maxLen at hmx
    refine pE [] [1002] re_none ?_
    (have F := And.intro @mkRows_nil (And.intro @cnt_nil (And.intro @Int.add_zero @Int.natCast_zero)); refine gL (ι := Nat × List (List Value) × (Nat → Prop) × (Nat → Prop)) [1, 5, 9] [1000, 1001, 1002] (fun x => [(5, .d (.one (.lit (.int .i64 (x.1 : Int))))), (1, .d (.one (.lit (.int .i64 (k + (cntRows (rows.take x.1) : Nat))))))]) (fun x => [(1000, .buf (some (a, cap)) ety 1 (x.2.1.map litRow)), (1001, .set x.2.2.1 (fun w => OwnVs w (rows.drop x.1) x.2.2.1 (x.2.1.drop x.1))), (1002, .set x.2.2.2 (fun w => OwnVs w (mkRows k (rows.take x.1)) x.2.2.2 (x.2.1.take x.1)))]) (fun x => x.1 ≤ rows.length ∧ x.2.1.length = rows.length) (fun x => rows.length - x.1) ((0, uss, E1, fun _ => False)) (⟨Nat.zero_le _, hl⟩) (fun x hx => ?_); clear F)
    obtain ⟨i, us, E2, E3⟩ := x
    obtain ⟨hi, hn⟩ := hx
    simp only at hi hn
    dsimp only
    by_cases hlt : i < rows.length
    · obtain ⟨r, hr⟩ : ∃ r, rows[i]? = some r := ⟨_, List.getElem?_eq_getElem hlt⟩
      obtain ⟨u, hu⟩ : ∃ u, us[i]? = some u := ⟨_, List.getElem?_eq_getElem (by omega)⟩
      obtain ⟨i0, rfl, _⟩ := okRow_Int (hok.get hr)
      have hc1 : cntRows (rows.take (i + 1)) = cntRows (rows.take i) + 1 := by
        rw [tk_snoc hr, cnt_snoc]; simp only [cntRow, cntC]
      have hc2 := cnt_take_le rows (i + 1)
      rw [drop_get hr, drop_get hu]
      refine pEx [1001] [1001] (fd_lits rfl) ?_
      rintro ⟨⟩ hlit
      obtain rfl : u = [.int .i64 i0] := by
        match u, hlit with
        | [_], ⟨rfl, _⟩ => rfl
      refine pEx (f := fun (x : (Nat → Prop) × (Nat → Nat → Prop)) => [.set x.1 (fun w => OwnVs w (rows.drop (i + 1)) x.1 (us.drop (i + 1)))]) [1001] [1001] (fd_row rfl) ?_
      rintro ⟨E4, Es⟩ -
      dsimp only
      generalize hkk : k + (cntRows (rows.take i) : Int) = kk
      have q1 : ((i : Int) < (rows.length : Int)) = True := eq_true (by omega)
      have q2 : i < rows.length := hlt
      have w1 : IntKind.i64.wrap (kk + 1) = kk + 1 := IntWalk.i64_in _ (by omega)
      have w4 : IntKind.i64.wrap ((i : Int) + 1) = (i : Int) + 1 := IntWalk.i64_in _ (by omega)
      (have F := And.intro @q1 (And.intro @hl (And.intro @hn (And.intro @hu (And.intro @litRow1 (And.intro @len_lits (And.intro @set_len (And.intro @w1 @q2))))))); have NN : StopAt 3 := trivial; refine gGn ?_; clear F NN)
      obtain ⟨E6, hre⟩ : ∃ E6, Retold [.set E3 (fun w => OwnVs w (mkRows k (rows.take i)) E3 (us.take i))] [.set E6 (fun w => OwnVs w (mkRows k (rows.take (i + 1))) E6 ((us.set i [.int .i64 kk]).take (i + 1)))] := by
        have hz := re_row (E := E3) (done := mkRows k (rows.take i)) (ud := us.take i) (cs := [.lit (.int .i64 kk)]) (us := [.int .i64 kk]) (Es := fun _ _ => False) rfl ⟨rfl, trivial⟩
        rw [tk_snoc hr, mkRows_snoc, hkk, set_take (by omega)]
        simp only [mkRow, mkC, mkV]
        exact ⟨_, hz⟩
      refine pE [1002] [1002] hre ?_
      have e1 : ((us.set i [.int .i64 kk]).map litRow) = (us.map litRow).set i [.lit (.int .i64 kk)] := by rw [List.map_set, litRow1]
      have e2 := set_drop us i [.int .i64 kk]
      have e5 : k + (cntRows (rows.take (i + 1)) : Int) = kk + 1 := by rw [hc1]; omega
      have hn2 : (us.set i [.int .i64 kk]).length = rows.length := by rw [set_len, hn]
      generalize us.set i [.int .i64 kk] = us2 at e1 e2 hn2 ⊢
      rw [← e1, ← e2]
      (have F := And.intro @w4 (And.intro @e5 @hl); refine gG ?_; exact ⟨(i + 1, us2, E4, E6), ⟨hlt, hn2⟩, gw, gw, by omega⟩)
    · obtain rfl : i = rows.length := by omega
      have q1 : ((rows.length : Int) < (rows.length : Int)) = False := eq_false (by omega)
      rw [List.take_length, List.take_of_length_le (Nat.le_of_eq hn)]
      (have F := And.intro @q1 (And.intro @hl @hn); refine gG ?_; clear F)
      obtain ⟨E6, hre⟩ : ∃ E6, Retold [.buf (some (a, cap)) ety 1 (us.map litRow), .set E3 (fun w => OwnVs w (mkRows k rows) E3 us)] [.set E6 (fun w => Own w (.sl (mkRows k rows)) E6 (.slice a uss.length cap))] := by
        rw [hl, ← hn]
        exact ⟨_, re_close (fun w h => h) (Own.stable _ _ _)⟩
      refine pE [1000, 1002] [1000] hre ?_
      have F := hk
      exact gTP (R := fun r pm => ∃ E', r = [.one (.lit (.int .i64 (k + (cntRows rows : Nat))))] ∧ pm = [.set E' (fun w => Own w (.sl (mkRows k rows)) E' (.slice a uss.length cap))]) [1000] ⟨E6, rfl, rfl⟩
theorem markIntS_all {rows : List (List C)} (hok : okRows (fieldsOf .int) rows) : MarkS 15 rows := mark_IntS hok
end Go.Proofs.Ytmpcbijkbgmjkaa

namespace Go.Proofs.Ytmpcbijkbgmjkaa
open Go.RowKit

theorem fields_le (t : TN) : (fieldsOf t).length ≤ 16 := by cases t <;> decide
mutual
theorem cnt_okC : ∀ (f : F) (c : C), okC f c → cntC c ≤ 1 + 16 * bulkC c
  | f, .lit v, _ => by simp only [cntC]; omega
  | .sl t, .sl rows, h => by
    have := cnt_okRows (fieldsOf t) rows (fields_le t) (by simpa [okC] using h)
    simp only [cntC, bulkC]
    omega
  | .int, .sl _, h => by simp [okC] at h
  | .str, .sl _, h => by simp [okC] at h
  | .bool, .sl _, h => by simp [okC] at h
  | f, .ptr _, _ => by simp [cntC]
  | f, .fn _ _, _ => by simp [cntC]
theorem cnt_okRows : ∀ (fs : List F) (rows : List (List C)), fs.length ≤ 16 → okRows fs rows → cntRows rows ≤ 16 * (rows.length + bulkRows rows)
  | fs, [], _, _ => by simp [cntRows]
  | fs, r :: rs, hl, h => by
    simp only [okRows] at h
    have h1 := cnt_okRow fs r h.1
    have h2 := cnt_okRows fs rs hl h.2
    simp only [cntRows, bulkRows, List.length_cons]
    omega
theorem cnt_okRow : ∀ (fs : List F) (cs : List C), okRow fs cs → cntRow cs ≤ fs.length + 16 * bulkRow cs
  | [], [], _ => by simp [cntRow]
  | f :: fs, c :: cs, h => by
    simp only [okRow] at h
    have h1 := cnt_okC f c h.1
    have h2 := cnt_okRow fs cs h.2
    simp only [cntRow, bulkRow, List.length_cons]
    omega
  | [], _ :: _, h => by simp [okRow] at h
  | _ :: _, [], h => by simp [okRow] at h
end
theorem cntTop_ok : ∀ (fs : List F) (cs : List C), okRow fs cs → cntTop cs ≤ 16 * bulkRow cs
  | [], [], _ => by simp [cntTop]
  | f :: fs, c :: cs, h => by
    simp only [okRow] at h
    have h2 := cntTop_ok fs cs h.2
    cases c with
    | lit v => simp only [cntTop, bulkRow]; omega
    | sl rows =>
      cases f with
      | sl t =>
        have := cnt_okRows (fieldsOf t) rows (fields_le t) (by simpa [okC] using h.1)
        simp only [cntTop, bulkRow, bulkC]
        omega
      | _ => simp [okC] at h
    | ptr _ => simp only [cntTop, bulkRow]; omega
    | fn _ _ => simp only [cntTop, bulkRow]; omega
  | [], _ :: _, h => by simp [okRow] at h
  | _ :: _, [], h => by simp [okRow] at h
/-- Facts of a row of values. -/
theorem lits_len {us : List Value} {n : Nat} (h : us.length = n) : (litRow us).length = n ∧ (litRow us).take n = litRow us ∧ (litRow us).drop n = [] := by
  have hl : (litRow us).length = n := by unfold litRow; rw [List.length_map]; exact h
  exact ⟨hl, List.take_of_length_le (Nat.le_of_eq hl), List.drop_of_length_le (Nat.le_of_eq hl)⟩
theorem tmod3 {k : Int} (h : 0 ≤ k) : decide (k.tmod 3 = 0) = (k % 3 == 0) := by
  rw [Int.tmod_eq_emod_of_nonneg h]
  by_cases q : k % 3 = 0
  · rw [q]; rfl
  · rw [decide_eq_false q]
    exact (beq_eq_false_iff_ne.2 q).symm
end Go.Proofs.Ytmpcbijkbgmjkaa

namespace Go.Proofs.Ytmpcbijkbgmjkaa
open Go.RowKit

theorem conP_toTerm {row : List C} (hok : okRow (fieldsOf .term) row) (hb : bulkRow row ≤ 1048576) : ConP e0 9 [.agg row] [] (RTree row) :=
  conP_tree (by kernel_rfl) hok.cells fun w S vs h => by
    match vs, h with
    | [v], h =>
      obtain ⟨⟨us, rfl, hu⟩, _⟩ := h
      exact toTerm_any row S us w hok hu hb
theorem conP_toIntS {rows : List (List C)} (hok : okRows (fieldsOf .int) rows) (hb : rows.length + bulkRows rows ≤ 1048576) : ConP e0 10 [.one (.sl rows)] [] (RTreeS rows) :=
  conP_treeS (by kernel_rfl) fun w S vs h => by
    match vs, h with
    | [v], h =>
      obtain ⟨hv, _⟩ := h
      exact toIntS_any rows S v w hok hv hb
end Go.Proofs.Ytmpcbijkbgmjkaa

namespace Go.Proofs.Ytmpcbijkbgmjkaa
open Go.RowKit

theorem con_szTerm {row : List C} (hok : okRow (fieldsOf .term) row) {left : Int} (h0 : 0 ≤ left) (h1 : left ≤ 1048576) : Con e0 7 [.agg row, .one (.lit (.int .i64 left))] [.one (.lit (.int .i64 (sub left (bulkRow row))))] := by
  refine con_below e0_ok (by kernel_rfl) fun w S vs h => ?_
  match vs, h with
  | [v, u], h =>
    obtain ⟨⟨us, rfl, hu⟩, h2, _⟩ := h
    have h2 : u = .int .i64 left := by simpa [DRel, Rep] using h2
    subst h2
    exact (szTerm_any row S us left w hok hu h0 h1).mono fun e w' ⟨h1, h2⟩ => ⟨_, h1, h2, by simp [retA, ARel, DRel, Rep]⟩
theorem con_toTerm {row : List C} (hok : okRow (fieldsOf .term) row) (hb : bulkRow row ≤ 1048576) : Con e0 9 [.agg row] [.agg row] := by
  refine con_below e0_ok (by kernel_rfl) fun w S vs h => ?_
  match vs, h with
  | [v], h =>
    obtain ⟨⟨us, rfl, hu⟩, _⟩ := h
    exact (toTerm_any row S us w hok hu hb).mono fun e w' ⟨us', h1, h2, h3⟩ => ⟨_, h1, h3, us', rfl, OwnVals.rep row _ _ us' (fun x hx => .inr hx) h2⟩
theorem con_eqTerm {row : List C} (hok : okRow (fieldsOf .term) row) : Con e0 12 [.agg row, .agg row] [.one (.lit (.bool true))] := by
  refine con_below e0_ok (by kernel_rfl) fun w S vs h => ?_
  match vs, h with
  | [v, u], h =>
    obtain ⟨⟨us, rfl, hu⟩, ⟨us', rfl, hu'⟩, _⟩ := h
    exact (eqTerm_any row S S us us' w hok hu hu').mono fun e w' ⟨h1, h2⟩ => ⟨_, h1, h2, by simp [retA, ARel, DRel, Rep]⟩
end Go.Proofs.Ytmpcbijkbgmjkaa

namespace Go.Proofs.Ytmpcbijkbgmjkaa
open Go.RowKit

theorem con_szIntS {rows : List (List C)} (hok : okRows (fieldsOf .int) rows) {left : Int} (h0 : 0 ≤ left) (h1 : left ≤ 1048576) : Con e0 75 [.one (.sl rows), .one (.lit (.int .i64 left))] [.one (.lit (.int .i64 (sub left (rows.length + bulkRows rows))))] := by
  refine con_below e0_ok (by kernel_rfl) fun w S vs h => ?_
  match vs, h with
  | [v, u], h =>
    obtain ⟨hv, h2, _⟩ := h
    have h2 : u = .int .i64 left := by simpa [DRel, Rep] using h2
    subst h2
    exact (szIntS_any rows S v left w hok hv h0 h1).mono fun e w' ⟨h1, h2⟩ => ⟨_, h1, h2, by simp [retA, ARel, DRel, Rep]⟩
theorem con_eqIntS {rows : List (List C)} (hok : okRows (fieldsOf .int) rows) : Con e0 13 [.one (.sl rows), .one (.sl rows)] [.one (.lit (.bool true))] := by
  refine con_below e0_ok (by kernel_rfl) fun w S vs h => ?_
  match vs, h with
  | [v, u], h =>
    obtain ⟨hv, hu, _⟩ := h
    exact (eqIntS_any rows S S v u w hok hv hu).mono fun e w' ⟨h1, h2⟩ => ⟨_, h1, h2, by simp [retA, ARel, DRel, Rep]⟩
theorem con_toIntS {rows : List (List C)} (hok : okRows (fieldsOf .int) rows) (hb : rows.length + bulkRows rows ≤ 1048576) : Con e0 10 [.one (.sl rows)] [.one (.sl rows)] := by
  refine con_below e0_ok (by kernel_rfl) fun w S vs h => ?_
  match vs, h with
  | [v], h =>
    obtain ⟨hv, _⟩ := h
    exact (toIntS_any rows S v w hok hv hb).mono fun e w' ⟨v', h1, h2, h3⟩ => ⟨_, h1, h3, (Own.rep _ _ v' h2).mono fun b hb => .inr hb⟩
end Go.Proofs.Ytmpcbijkbgmjkaa

namespace Go.Proofs.Ytmpcbijkbgmjkaa
open Go.RowKit
set_option maxHeartbeats 40000000 in
set_option maxRecDepth 100000 in
theorem con_lawSubtermAt {row0 : List C} (hok0 : okRow (fieldsOf .term) row0) {rows1 : List (List C)} (hok1 : okRows (fieldsOf .int) rows1) {wr : List C} (hokw : okRow (fieldsOf .term) wr) {R1 : Bool} (hBw0 : bulkRow row0 ≤ 1048576 → rows1.length + bulkRows rows1 ≤ 1048576 → bulkRow wr ≤ 1048576) (hsp0 : bulkRow row0 ≤ 1048576 → rows1.length + bulkRows rows1 ≤ 1048576 → Con e0 8 [.agg row0, .one (.sl rows1)] [.agg wr, .one (.lit (.bool R1))]) (him0 : bulkRow row0 ≤ 1048576 → rows1.length + bulkRows rows1 ≤ 1048576 → ConP e0 11 [.agg row0, .one (.sl rows1)] [] (RTreeF wr R1)) : Con e0 3 [.agg row0, .one (.sl rows1)] [.one (.lit (.bool true))] := by
  have okc0 := hok0.cells
  obtain ⟨len0, tk0, dr0⟩ := hok0.take (n := 4) rfl
  have okcw := hokw.cells
  obtain ⟨lenw, tkw, drw⟩ := hokw.take (n := 4) rfl
  refine gI 93785864793859340632204740727013367 Try.func3 ?_
  by_cases hb1 : (rows1.length : Int) ≤ 1048576
  rotate_left
  · have n1 : ((rows1.length : Int) > 1048576) = True := eq_true (by omega)
    (have F := And.intro @okc0 (And.intro @len0 (And.intro @tk0 (And.intro @dr0 (And.intro @drop0 (And.intro @okcw (And.intro @lenw (And.intro @tkw (And.intro @drw @n1)))))))); refine gG ?_; exact gT)
  have n1 : ((rows1.length : Int) > 1048576) = False := eq_false (by omega)
  (have F := And.intro @okc0 (And.intro @len0 (And.intro @tk0 (And.intro @dr0 (And.intro @drop0 (And.intro @okcw (And.intro @lenw (And.intro @tkw (And.intro @drw @n1)))))))); refine gG ?_; clear F)
  clear n1
  have hB1 : rows1.length + bulkRows rows1 ≤ 1048576 := by have := ints_bulk hok1; omega
  have hL0_0 : (0 : Int) ≤ 1048576 := by omega
  have hL0_1 : (1048576 : Int) ≤ 1048576 := by omega
  refine gB ?_
  (have F := And.intro @okc0 (And.intro @len0 (And.intro @tk0 (And.intro @dr0 (And.intro @drop0 (And.intro @okcw (And.intro @lenw (And.intro @tkw @drw))))))); refine gC (con_szTerm hok0 hL0_0 hL0_1) ?_; clear F)
  (have F := And.intro @okc0 (And.intro @len0 (And.intro @tk0 (And.intro @dr0 (And.intro @drop0 (And.intro @okcw (And.intro @lenw (And.intro @tkw @drw))))))); refine gR ?_; clear F)
  by_cases hb0 : ((bulkRow row0 : Nat) : Int) ≤ 1048576
  rotate_left
  · have n1 : sub 1048576 (bulkRow row0 : Nat) = -1 := sub_neg (by omega)
    have n2 : (-1 : Int) < 0 := by omega
    (have F := And.intro @n1 @n2; refine gG ?_; exact gT)
  have nq : sub 1048576 (bulkRow row0 : Nat) = 1048576 - ((bulkRow row0 : Nat) : Nat) := sub_pos (by omega)
  rw [nq]
  clear nq
  have hB0 : bulkRow row0 ≤ 1048576 := by omega
  have hL1_0 : (0 : Int) ≤ 1048576 - ((bulkRow row0 : Nat) : Nat) := by omega
  have hL1_1 : (1048576 : Int) - ((bulkRow row0 : Nat) : Nat) ≤ 1048576 := by omega
  generalize hgl0 : (1048576 : Int) - ((bulkRow row0 : Nat) : Nat) = L1 at *
  have n2 : ¬ (L1 < 0) := by omega
  (have F := And.intro @n2 (And.intro @okc0 (And.intro @len0 (And.intro @tk0 (And.intro @dr0 (And.intro @drop0 (And.intro @okcw (And.intro @lenw (And.intro @tkw @drw)))))))); refine gG ?_; clear F)
  clear n2 hb0
  have hsp := hsp0 hB0 hB1
  have him := him0 hB0 hB1
  have hBw := hBw0 hB0 hB1
  have hcw : cntTop wr ≤ 16 * bulkRow wr := cntTop_ok _ _ hokw
  have cE := con_eqTerm hokw
  have cT0 := con_toTerm hok0 hB0
  have cP0 := conP_toTerm hok0 hB0
  have cQ0 := con_eqTerm hok0
  have hc0 : cntTop row0 ≤ 16 * bulkRow row0 := cntTop_ok _ _ hok0
  have cT1 := con_toIntS hok1 hB1
  have cP1 := conP_toIntS hok1 hB1
  have cQ1 := con_eqIntS hok1
  have hc1 : cntRows rows1 ≤ 16 * (rows1.length + bulkRows rows1) := cnt_okRows _ _ (fields_le _) hok1
  refine gB ?_
  (have F := And.intro @okc0 (And.intro @len0 (And.intro @tk0 (And.intro @dr0 (And.intro @drop0 (And.intro @okcw (And.intro @lenw (And.intro @tkw @drw))))))); refine gC (cT0) ?_; clear F)
  (have F := And.intro @okc0 (And.intro @len0 (And.intro @tk0 (And.intro @dr0 (And.intro @drop0 (And.intro @okcw (And.intro @lenw (And.intro @tkw @drw))))))); refine gC (cT1) ?_; clear F)
  (have F := And.intro @okc0 (And.intro @len0 (And.intro @tk0 (And.intro @dr0 (And.intro @drop0 (And.intro @okcw (And.intro @lenw (And.intro @tkw @drw))))))); refine gC (hsp) ?_; clear F)
  (have F := And.intro @okc0 (And.intro @len0 (And.intro @tk0 (And.intro @dr0 (And.intro @drop0 (And.intro @okcw (And.intro @lenw (And.intro @tkw @drw))))))); refine gR ?_; clear F)
  (have F := And.intro @okc0 (And.intro @len0 (And.intro @tk0 (And.intro @dr0 (And.intro @drop0 (And.intro @okcw (And.intro @lenw (And.intro @tkw @drw))))))); refine gG ?_; clear F)
  refine gB ?_
  (have F := And.intro @okc0 (And.intro @len0 (And.intro @tk0 (And.intro @dr0 (And.intro @drop0 (And.intro @okcw (And.intro @lenw (And.intro @tkw @drw))))))); refine gCP [] [1000] (cP0) ?_; clear F)
  rintro r pm ⟨us0, E0, rfl, hu0, cu0, rfl⟩
  rw [len0] at hu0
  obtain ⟨lu0, tu0, du0⟩ := lits_len hu0
  simp only [setA, retA, zipM, List.cons_append, List.nil_append]
  (have F := And.intro @okc0 (And.intro @len0 (And.intro @tk0 (And.intro @dr0 (And.intro @drop0 (And.intro @okcw (And.intro @lenw (And.intro @tkw (And.intro @drw (And.intro @lu0 (And.intro @tu0 (And.intro @du0 @cu0))))))))))); refine gR ?_; clear F)
  (have F := And.intro @okc0 (And.intro @len0 (And.intro @tk0 (And.intro @dr0 (And.intro @drop0 (And.intro @okcw (And.intro @lenw (And.intro @tkw (And.intro @drw (And.intro @lu0 (And.intro @tu0 (And.intro @du0 @cu0))))))))))); refine gG ?_; clear F)
  refine gB ?_
  (have F := And.intro @okc0 (And.intro @len0 (And.intro @tk0 (And.intro @dr0 (And.intro @drop0 (And.intro @okcw (And.intro @lenw (And.intro @tkw (And.intro @drw (And.intro @lu0 (And.intro @tu0 (And.intro @du0 @cu0))))))))))); refine gCP [] [1001] (cP1) ?_; clear F)
  rintro r pm ⟨v1, E1, rfl, cu1, rfl⟩
  simp only [setA, retA, zipM, List.cons_append, List.nil_append]
  (have F := And.intro @okc0 (And.intro @len0 (And.intro @tk0 (And.intro @dr0 (And.intro @drop0 (And.intro @okcw (And.intro @lenw (And.intro @tkw (And.intro @drw (And.intro @lu0 (And.intro @tu0 (And.intro @du0 (And.intro @cu0 @cu1)))))))))))); refine gR ?_; clear F)
  (have F := And.intro @okc0 (And.intro @len0 (And.intro @tk0 (And.intro @dr0 (And.intro @drop0 (And.intro @okcw (And.intro @lenw (And.intro @tkw (And.intro @drw (And.intro @lu0 (And.intro @tu0 (And.intro @du0 (And.intro @cu0 @cu1)))))))))))); refine gG ?_; clear F)
  refine gB ?_
  (have F := And.intro @okc0 (And.intro @len0 (And.intro @tk0 (And.intro @dr0 (And.intro @drop0 (And.intro @okcw (And.intro @lenw (And.intro @tkw (And.intro @drw (And.intro @lu0 (And.intro @tu0 (And.intro @du0 (And.intro @cu0 @cu1)))))))))))); refine gCP [1000, 1001] [1100, 1000, 1001] (conP_rd (lits := [.agg (litRow us0), .one (.lit v1)]) [.set E0 (fun w => OwnVals w row0 E0 us0), .set E1 (fun w => Own w (.sl rows1) E1 v1)] him ⟨.tree List.mem_cons_self, .treeS (List.mem_cons_of_mem _ List.mem_cons_self), trivial⟩ rfl (fun _ _ h => RTreeF.lits h)) ?_; clear F)
  rintro r pm ⟨q1, ⟨usg, Eg, rfl, hug, cug, rfl⟩, rfl⟩
  rw [lenw] at hug
  obtain ⟨lug, tug, dug⟩ := lits_len hug
  simp only [setA, retA, zipM, List.cons_append, List.nil_append]
  (have F := And.intro @okc0 (And.intro @len0 (And.intro @tk0 (And.intro @dr0 (And.intro @drop0 (And.intro @okcw (And.intro @lenw (And.intro @tkw (And.intro @drw (And.intro @lu0 (And.intro @tu0 (And.intro @du0 (And.intro @cu0 (And.intro @cu1 (And.intro @lug (And.intro @tug (And.intro @dug @cug)))))))))))))))); refine gR ?_; clear F)
  (have F := And.intro @okc0 (And.intro @len0 (And.intro @tk0 (And.intro @dr0 (And.intro @drop0 (And.intro @okcw (And.intro @lenw (And.intro @tkw (And.intro @drw (And.intro @lu0 (And.intro @tu0 (And.intro @du0 (And.intro @cu0 (And.intro @cu1 (And.intro @lug (And.intro @tug (And.intro @dug @cug)))))))))))))))); refine gG ?_; clear F)
  refine gB ?_
  (have F := And.intro @okc0 (And.intro @len0 (And.intro @tk0 (And.intro @dr0 (And.intro @drop0 (And.intro @okcw (And.intro @lenw (And.intro @tkw (And.intro @drw (And.intro @lu0 (And.intro @tu0 (And.intro @du0 (And.intro @cu0 (And.intro @cu1 (And.intro @lug (And.intro @tug (And.intro @dug @cug)))))))))))))))); refine gCP [1100] [1100] (con_rd (lits := [.agg (litRow usg), .agg wr]) [.set Eg (fun w => OwnVals w wr Eg usg)] cE ⟨.tree List.mem_cons_self, .same, trivial⟩ rfl rfl) ?_; clear F)
  rintro r pm ⟨rfl, rfl⟩
  simp only [setA, retA, zipM, List.cons_append, List.nil_append]
  (have F := And.intro @okc0 (And.intro @len0 (And.intro @tk0 (And.intro @dr0 (And.intro @drop0 (And.intro @okcw (And.intro @lenw (And.intro @tkw (And.intro @drw (And.intro @lu0 (And.intro @tu0 (And.intro @du0 (And.intro @cu0 (And.intro @cu1 (And.intro @lug (And.intro @tug (And.intro @dug (And.intro @cug @beq_self_eq_true.{0}))))))))))))))))); refine gR ?_; clear F)
  (have F := And.intro @okc0 (And.intro @len0 (And.intro @tk0 (And.intro @dr0 (And.intro @drop0 (And.intro @okcw (And.intro @lenw (And.intro @tkw (And.intro @drw (And.intro @lu0 (And.intro @tu0 (And.intro @du0 (And.intro @cu0 (And.intro @cu1 (And.intro @lug (And.intro @tug (And.intro @dug (And.intro @cug @beq_self_eq_true.{0}))))))))))))))))); refine gG ?_; clear F)
  refine gB ?_
  (have F := And.intro @okc0 (And.intro @len0 (And.intro @tk0 (And.intro @dr0 (And.intro @drop0 (And.intro @okcw (And.intro @lenw (And.intro @tkw (And.intro @drw (And.intro @lu0 (And.intro @tu0 (And.intro @du0 (And.intro @cu0 (And.intro @cu1 (And.intro @lug (And.intro @tug (And.intro @dug @cug)))))))))))))))); refine gC (cT0) ?_; clear F)
  (have F := And.intro @okc0 (And.intro @len0 (And.intro @tk0 (And.intro @dr0 (And.intro @drop0 (And.intro @okcw (And.intro @lenw (And.intro @tkw (And.intro @drw (And.intro @lu0 (And.intro @tu0 (And.intro @du0 (And.intro @cu0 (And.intro @cu1 (And.intro @lug (And.intro @tug (And.intro @dug @cug)))))))))))))))); refine gCP [1000] [1000] (con_rd (lits := [.agg (litRow us0), .agg row0]) [.set E0 (fun w => OwnVals w row0 E0 us0)] cQ0 ⟨.tree List.mem_cons_self, .same, trivial⟩ rfl rfl) ?_; clear F)
  rintro r pm ⟨rfl, rfl⟩
  simp only [setA, retA, zipM, List.cons_append, List.nil_append]
  (have F := And.intro @okc0 (And.intro @len0 (And.intro @tk0 (And.intro @dr0 (And.intro @drop0 (And.intro @okcw (And.intro @lenw (And.intro @tkw (And.intro @drw (And.intro @lu0 (And.intro @tu0 (And.intro @du0 (And.intro @cu0 (And.intro @cu1 (And.intro @lug (And.intro @tug (And.intro @dug @cug)))))))))))))))); refine gR ?_; clear F)
  (have F := And.intro @okc0 (And.intro @len0 (And.intro @tk0 (And.intro @dr0 (And.intro @drop0 (And.intro @okcw (And.intro @lenw (And.intro @tkw (And.intro @drw (And.intro @lu0 (And.intro @tu0 (And.intro @du0 (And.intro @cu0 (And.intro @cu1 (And.intro @lug (And.intro @tug (And.intro @dug @cug)))))))))))))))); refine gG ?_; clear F)
  refine gB ?_
  (have F := And.intro @okc0 (And.intro @len0 (And.intro @tk0 (And.intro @dr0 (And.intro @drop0 (And.intro @okcw (And.intro @lenw (And.intro @tkw (And.intro @drw (And.intro @lu0 (And.intro @tu0 (And.intro @du0 (And.intro @cu0 (And.intro @cu1 (And.intro @lug (And.intro @tug (And.intro @dug @cug)))))))))))))))); refine gC (cT1) ?_; clear F)
  (have F := And.intro @okc0 (And.intro @len0 (And.intro @tk0 (And.intro @dr0 (And.intro @drop0 (And.intro @okcw (And.intro @lenw (And.intro @tkw (And.intro @drw (And.intro @lu0 (And.intro @tu0 (And.intro @du0 (And.intro @cu0 (And.intro @cu1 (And.intro @lug (And.intro @tug (And.intro @dug @cug)))))))))))))))); refine gCP [1001] [1001] (con_rd (lits := [.one (.lit v1), .one (.sl rows1)]) [.set E1 (fun w => Own w (.sl rows1) E1 v1)] cQ1 ⟨.treeS List.mem_cons_self, .same, trivial⟩ rfl rfl) ?_; clear F)
  rintro r pm ⟨rfl, rfl⟩
  simp only [setA, retA, zipM, List.cons_append, List.nil_append]
  (have F := And.intro @okc0 (And.intro @len0 (And.intro @tk0 (And.intro @dr0 (And.intro @drop0 (And.intro @okcw (And.intro @lenw (And.intro @tkw (And.intro @drw (And.intro @lu0 (And.intro @tu0 (And.intro @du0 (And.intro @cu0 (And.intro @cu1 (And.intro @lug (And.intro @tug (And.intro @dug @cug)))))))))))))))); refine gR ?_; clear F)
  (have F := And.intro @okc0 (And.intro @len0 (And.intro @tk0 (And.intro @dr0 (And.intro @drop0 (And.intro @okcw (And.intro @lenw (And.intro @tkw (And.intro @drw (And.intro @lu0 (And.intro @tu0 (And.intro @du0 (And.intro @cu0 (And.intro @cu1 (And.intro @lug (And.intro @tug (And.intro @dug @cug)))))))))))))))); refine gG ?_; clear F)
  refine gB ?_
  (have F := And.intro @okc0 (And.intro @len0 (And.intro @tk0 (And.intro @dr0 (And.intro @drop0 (And.intro @okcw (And.intro @lenw (And.intro @tkw (And.intro @drw (And.intro @lu0 (And.intro @tu0 (And.intro @du0 (And.intro @cu0 (And.intro @cu1 (And.intro @lug (And.intro @tug (And.intro @dug @cug)))))))))))))))); refine gCP [1000] [1000] (markTerm_all hok0 (1) E0 us0 (by omega) cu0 (by omega) (by omega)) ?_; clear F)
  rintro r pm ⟨F0, rfl, rfl⟩
  simp only [setA, retA, zipM, List.cons_append, List.nil_append]
  (have F := And.intro @okc0 (And.intro @len0 (And.intro @tk0 (And.intro @dr0 (And.intro @drop0 (And.intro @okcw (And.intro @lenw (And.intro @tkw (And.intro @drw (And.intro @lu0 (And.intro @tu0 (And.intro @du0 (And.intro @cu0 (And.intro @cu1 (And.intro @lug (And.intro @tug (And.intro @dug @cug)))))))))))))))); refine gR ?_; clear F)
  (have F := And.intro @okc0 (And.intro @len0 (And.intro @tk0 (And.intro @dr0 (And.intro @drop0 (And.intro @okcw (And.intro @lenw (And.intro @tkw (And.intro @drw (And.intro @lu0 (And.intro @tu0 (And.intro @du0 (And.intro @cu0 (And.intro @cu1 (And.intro @lug (And.intro @tug (And.intro @dug @cug)))))))))))))))); refine gG ?_; clear F)
  refine gB ?_
  (have F := And.intro @okc0 (And.intro @len0 (And.intro @tk0 (And.intro @dr0 (And.intro @drop0 (And.intro @okcw (And.intro @lenw (And.intro @tkw (And.intro @drw (And.intro @lu0 (And.intro @tu0 (And.intro @du0 (And.intro @cu0 (And.intro @cu1 (And.intro @lug (And.intro @tug (And.intro @dug @cug)))))))))))))))); refine gCP [1001] [1001] (markIntS_all hok1 (1 + (cntTop row0 : Int)) E1 v1 (by omega) (by omega)) ?_; clear F)
  rintro r pm ⟨F1, rfl, rfl⟩
  simp only [setA, retA, zipM, List.cons_append, List.nil_append]
  (have F := And.intro @okc0 (And.intro @len0 (And.intro @tk0 (And.intro @dr0 (And.intro @drop0 (And.intro @okcw (And.intro @lenw (And.intro @tkw (And.intro @drw (And.intro @lu0 (And.intro @tu0 (And.intro @du0 (And.intro @cu0 (And.intro @cu1 (And.intro @lug (And.intro @tug (And.intro @dug @cug)))))))))))))))); refine gR ?_; clear F)
  (have F := And.intro @okc0 (And.intro @len0 (And.intro @tk0 (And.intro @dr0 (And.intro @drop0 (And.intro @okcw (And.intro @lenw (And.intro @tkw (And.intro @drw (And.intro @lu0 (And.intro @tu0 (And.intro @du0 (And.intro @cu0 (And.intro @cu1 (And.intro @lug (And.intro @tug (And.intro @dug @cug)))))))))))))))); refine gG ?_; clear F)
  have nk : (1 + (cntTop row0 : Int) + (cntRows rows1 : Int) < 0) = False := eq_false (by omega)
  refine gB ?_
  (have F := And.intro @okc0 (And.intro @len0 (And.intro @tk0 (And.intro @dr0 (And.intro @drop0 (And.intro @okcw (And.intro @lenw (And.intro @tkw (And.intro @drw (And.intro @lu0 (And.intro @tu0 (And.intro @du0 (And.intro @cu0 (And.intro @cu1 (And.intro @lug (And.intro @tug (And.intro @dug (And.intro @cug @nk))))))))))))))))); refine gCP [1100] [1100] (con_rd (lits := [.agg (litRow usg), .agg wr]) [.set Eg (fun w => OwnVals w wr Eg usg)] cE ⟨.tree List.mem_cons_self, .same, trivial⟩ rfl rfl) ?_; clear F)
  rintro r pm ⟨rfl, rfl⟩
  simp only [setA, retA, zipM, List.cons_append, List.nil_append]
  (have F := And.intro @okc0 (And.intro @len0 (And.intro @tk0 (And.intro @dr0 (And.intro @drop0 (And.intro @okcw (And.intro @lenw (And.intro @tkw (And.intro @drw (And.intro @lu0 (And.intro @tu0 (And.intro @du0 (And.intro @cu0 (And.intro @cu1 (And.intro @lug (And.intro @tug (And.intro @dug (And.intro @cug (And.intro @nk @beq_self_eq_true.{0})))))))))))))))))); refine gR ?_; clear F)
  (have F := And.intro @okc0 (And.intro @len0 (And.intro @tk0 (And.intro @dr0 (And.intro @drop0 (And.intro @okcw (And.intro @lenw (And.intro @tkw (And.intro @drw (And.intro @lu0 (And.intro @tu0 (And.intro @du0 (And.intro @cu0 (And.intro @cu1 (And.intro @lug (And.intro @tug (And.intro @dug (And.intro @cug (And.intro @nk @beq_self_eq_true.{0})))))))))))))))))); refine gG ?_; clear F)
  refine gB ?_
  (have F := And.intro @okc0 (And.intro @len0 (And.intro @tk0 (And.intro @dr0 (And.intro @drop0 (And.intro @okcw (And.intro @lenw (And.intro @tkw (And.intro @drw (And.intro @lu0 (And.intro @tu0 (And.intro @du0 (And.intro @cu0 (And.intro @cu1 (And.intro @lug (And.intro @tug (And.intro @dug (And.intro @cug @nk))))))))))))))))); refine gCP [1100] [1100] (markTerm_all hokw 1 Eg usg (by omega) cug (by omega) (by omega)) ?_; clear F)
  rintro r pm ⟨Fg, rfl, rfl⟩
  simp only [setA, retA, zipM, List.cons_append, List.nil_append]
  (have F := And.intro @okc0 (And.intro @len0 (And.intro @tk0 (And.intro @dr0 (And.intro @drop0 (And.intro @okcw (And.intro @lenw (And.intro @tkw (And.intro @drw (And.intro @lu0 (And.intro @tu0 (And.intro @du0 (And.intro @cu0 (And.intro @cu1 (And.intro @lug (And.intro @tug (And.intro @dug (And.intro @cug @nk))))))))))))))))); refine gR ?_; clear F)
  (have F := And.intro @okc0 (And.intro @len0 (And.intro @tk0 (And.intro @dr0 (And.intro @drop0 (And.intro @okcw (And.intro @lenw (And.intro @tkw (And.intro @drw (And.intro @lu0 (And.intro @tu0 (And.intro @du0 (And.intro @cu0 (And.intro @cu1 (And.intro @lug (And.intro @tug (And.intro @dug (And.intro @cug @nk))))))))))))))))); refine gG ?_; clear F)
  have nm : (1 + (cntTop wr : Int) < 0) = False := eq_false (by omega)
  have cH := heldTerm_all hokw (by omega) 1 (by omega) (by omega)
  refine gB ?_
  (have F := And.intro @okc0 (And.intro @len0 (And.intro @tk0 (And.intro @dr0 (And.intro @drop0 (And.intro @okcw (And.intro @lenw (And.intro @tkw (And.intro @drw (And.intro @lu0 (And.intro @tu0 (And.intro @du0 (And.intro @cu0 (And.intro @cu1 (And.intro @lug (And.intro @tug (And.intro @dug (And.intro @cug (And.intro @nk @nm)))))))))))))))))); refine gCP [1100] [1100] (con_rd (lits := [.agg (litRow usg), .one (.lit (.int .i64 1))]) [.set Fg (fun w => OwnVals w (mkTop 1 wr) Fg usg)] cH ⟨.tree List.mem_cons_self, .same, trivial⟩ rfl rfl) ?_; clear F)
  rintro r pm ⟨rfl, rfl⟩
  simp only [setA, retA, zipM, List.cons_append, List.nil_append]
  (have F := And.intro @okc0 (And.intro @len0 (And.intro @tk0 (And.intro @dr0 (And.intro @drop0 (And.intro @okcw (And.intro @lenw (And.intro @tkw (And.intro @drw (And.intro @lu0 (And.intro @tu0 (And.intro @du0 (And.intro @cu0 (And.intro @cu1 (And.intro @lug (And.intro @tug (And.intro @dug (And.intro @cug (And.intro @nk @nm)))))))))))))))))); refine gR ?_; clear F)
  (have F := And.intro @okc0 (And.intro @len0 (And.intro @tk0 (And.intro @dr0 (And.intro @drop0 (And.intro @okcw (And.intro @lenw (And.intro @tkw (And.intro @drw (And.intro @lu0 (And.intro @tu0 (And.intro @du0 (And.intro @cu0 (And.intro @cu1 (And.intro @lug (And.intro @tug (And.intro @dug (And.intro @cug (And.intro @nk (And.intro @nm @beq_self_eq_true.{0}))))))))))))))))))); refine gG ?_; clear F)
  refine gB ?_
  (have F := And.intro @okc0 (And.intro @len0 (And.intro @tk0 (And.intro @dr0 (And.intro @drop0 (And.intro @okcw (And.intro @lenw (And.intro @tkw @drw))))))); refine gC (cT0) ?_; clear F)
  (have F := And.intro @okc0 (And.intro @len0 (And.intro @tk0 (And.intro @dr0 (And.intro @drop0 (And.intro @okcw (And.intro @lenw (And.intro @tkw @drw))))))); refine gC (cT1) ?_; clear F)
  (have F := And.intro @okc0 (And.intro @len0 (And.intro @tk0 (And.intro @dr0 (And.intro @drop0 (And.intro @okcw (And.intro @lenw (And.intro @tkw (And.intro @drw (And.intro @lu0 (And.intro @tu0 (And.intro @du0 (And.intro @cu0 (And.intro @cu1 (And.intro @lug (And.intro @tug (And.intro @dug (And.intro @cug (And.intro @nk @nm)))))))))))))))))); refine gCP [] [1200] (him) ?_; clear F)
  rintro r pm ⟨ush, Eh, rfl, huh, cuh, rfl⟩
  rw [lenw] at huh
  obtain ⟨luh, tuh, duh⟩ := lits_len huh
  simp only [setA, retA, zipM, List.cons_append, List.nil_append]
  (have F := And.intro @okc0 (And.intro @len0 (And.intro @tk0 (And.intro @dr0 (And.intro @drop0 (And.intro @okcw (And.intro @lenw (And.intro @tkw (And.intro @drw (And.intro @lu0 (And.intro @tu0 (And.intro @du0 (And.intro @cu0 (And.intro @cu1 (And.intro @lug (And.intro @tug (And.intro @dug (And.intro @cug (And.intro @nk (And.intro @nm (And.intro @luh (And.intro @tuh (And.intro @duh @cuh)))))))))))))))))))))); refine gR ?_; clear F)
  (have F := And.intro @okc0 (And.intro @len0 (And.intro @tk0 (And.intro @dr0 (And.intro @drop0 (And.intro @okcw (And.intro @lenw (And.intro @tkw (And.intro @drw (And.intro @lu0 (And.intro @tu0 (And.intro @du0 (And.intro @cu0 (And.intro @cu1 (And.intro @lug (And.intro @tug (And.intro @dug (And.intro @cug (And.intro @nk (And.intro @nm (And.intro @luh (And.intro @tuh (And.intro @duh @cuh)))))))))))))))))))))); refine gG ?_; clear F)
  refine gB ?_
  (have F := And.intro @okc0 (And.intro @len0 (And.intro @tk0 (And.intro @dr0 (And.intro @drop0 (And.intro @okcw (And.intro @lenw (And.intro @tkw (And.intro @drw (And.intro @lu0 (And.intro @tu0 (And.intro @du0 (And.intro @cu0 (And.intro @cu1 (And.intro @lug (And.intro @tug (And.intro @dug (And.intro @cug (And.intro @nk (And.intro @nm (And.intro @luh (And.intro @tuh (And.intro @duh @cuh)))))))))))))))))))))); refine gCP [1200] [1200] (con_rd (lits := [.agg (litRow ush), .agg wr]) [.set Eh (fun w => OwnVals w wr Eh ush)] cE ⟨.tree List.mem_cons_self, .same, trivial⟩ rfl rfl) ?_; clear F)
  rintro r pm ⟨rfl, rfl⟩
  simp only [setA, retA, zipM, List.cons_append, List.nil_append]
  (have F := And.intro @okc0 (And.intro @len0 (And.intro @tk0 (And.intro @dr0 (And.intro @drop0 (And.intro @okcw (And.intro @lenw (And.intro @tkw (And.intro @drw (And.intro @lu0 (And.intro @tu0 (And.intro @du0 (And.intro @cu0 (And.intro @cu1 (And.intro @lug (And.intro @tug (And.intro @dug (And.intro @cug (And.intro @nk (And.intro @nm (And.intro @luh (And.intro @tuh (And.intro @duh (And.intro @cuh @beq_self_eq_true.{0}))))))))))))))))))))))); refine gR ?_; clear F)
  (have F := And.intro @okc0 (And.intro @len0 (And.intro @tk0 (And.intro @dr0 (And.intro @drop0 (And.intro @okcw (And.intro @lenw (And.intro @tkw (And.intro @drw (And.intro @lu0 (And.intro @tu0 (And.intro @du0 (And.intro @cu0 (And.intro @cu1 (And.intro @lug (And.intro @tug (And.intro @dug (And.intro @cug (And.intro @nk (And.intro @nm (And.intro @luh (And.intro @tuh (And.intro @duh (And.intro @cuh @beq_self_eq_true.{0}))))))))))))))))))))))); refine gG ?_; clear F)
  refine gB ?_
  (have F := And.intro @okc0 (And.intro @len0 (And.intro @tk0 (And.intro @dr0 (And.intro @drop0 (And.intro @okcw (And.intro @lenw (And.intro @tkw (And.intro @drw (And.intro @lu0 (And.intro @tu0 (And.intro @du0 (And.intro @cu0 (And.intro @cu1 (And.intro @lug (And.intro @tug (And.intro @dug (And.intro @cug (And.intro @nk @nm)))))))))))))))))); refine gCP [1100] [1100] (con_rd (lits := [.agg (litRow usg), .one (.lit (.int .i64 1))]) [.set Fg (fun w => OwnVals w (mkTop 1 wr) Fg usg)] cH ⟨.tree List.mem_cons_self, .same, trivial⟩ rfl rfl) ?_; clear F)
  rintro r pm ⟨rfl, rfl⟩
  simp only [setA, retA, zipM, List.cons_append, List.nil_append]
  (have F := And.intro @okc0 (And.intro @len0 (And.intro @tk0 (And.intro @dr0 (And.intro @drop0 (And.intro @okcw (And.intro @lenw (And.intro @tkw (And.intro @drw (And.intro @lu0 (And.intro @tu0 (And.intro @du0 (And.intro @cu0 (And.intro @cu1 (And.intro @lug (And.intro @tug (And.intro @dug (And.intro @cug (And.intro @nk @nm)))))))))))))))))); refine gR ?_; clear F)
  (have F := And.intro @okc0 (And.intro @len0 (And.intro @tk0 (And.intro @dr0 (And.intro @drop0 (And.intro @okcw (And.intro @lenw (And.intro @tkw (And.intro @drw (And.intro @lu0 (And.intro @tu0 (And.intro @du0 (And.intro @cu0 (And.intro @cu1 (And.intro @lug (And.intro @tug (And.intro @dug (And.intro @cug (And.intro @nk (And.intro @nm (And.intro @luh (And.intro @tuh (And.intro @duh (And.intro @cuh @beq_self_eq_true.{0}))))))))))))))))))))))); refine gG ?_; exact gT)
theorem lawExactSubtermAt (w : World) (row0 : List C) (S0 : Nat → Prop) (us0 : List Value) (hok0 : okRow (fieldsOf .term) row0) (hv0 : RepVals w S0 row0 us0) (rows1 : List (List C)) (S1 : Nat → Prop) (u1 : Value) (hok1 : okRows (fieldsOf .int) rows1) (hv1 : Rep w S1 (.sl rows1) u1) :
    Calls Try.prog 3 #[(.agg us0.toArray : Value), u1] w fun e w' => e = .returned (.bool true) ∧ Below w.heap.size w w' := by
  obtain ⟨t, rfl, k0⟩ := decTm hok0
  obtain ⟨ps, rfl, k1⟩ := decL decInt hok1
  have hc := (con_lawSubtermAt hok0 hok1 (okRow_subAt k0 k1) (fun b0 b1 => big_subAt b0) (fun b0 b1 => con_specSub b0 b1) (fun b0 b1 => conP_implSub b0 b1)).2 w (fun b => b < w.heap.size) [(.agg us0.toArray : Value), u1] (fun b hb => ⟨hb, id⟩) (fun b hb => hb.elim) trivial
    ⟨⟨us0, rfl, hv0.inside'⟩, (Rep.inside _ _ hv1).mono (fun b hb => hb.2), trivial⟩
  refine hc.mono fun e w' ⟨v, h1, h2, _, h4⟩ => ⟨?_, h2.below⟩
  have h4 : v = .bool true := by simpa [retA, ARel, DRel, Rep] using h4
  rw [h1, h4]
end Go.Proofs.Ytmpcbijkbgmjkaa

namespace Go.Proofs.Ytmpcbijkbgmjkaa
open Go.ChangeShapes Go.WideShapes Go.ChangeAt Go.RowKit Go.Deep

set_option maxRecDepth 100000 in
theorem subtermAt_holds_lifted (os : Os) (started : os.Started) (H : Type) (enc : TypeId × Value → H) :
    ReturnsInHanded {} Try.checked os 3 .any (Rows.fnExactSubtermAtSpec.pre6 enc Try.prog Try.f3 Rows.fnExactSubtermAtRow.domain false) (Rows.fnExactSubtermAtSpec.post enc Try.prog Try.f3 false true false false) := by
  refine returnsInHanded_of_change (C := Try.checked) own started (by kernel_rfl) Try.func3
    (ChangeSpec.witness6 (enc := enc) (C := Try.checked) false ⟨#[], #[.agg #[.int .i64 0, .string .empty, .int .i64 0, .slice none 0 0], .slice none 0 0], []⟩ 8 (by kernel_rfl) (by kernel_rfl) (by kernel_rfl) (by kernel_rfl)) ?_
  intro W base args ds gs before hval0 hW _ _
  have hval : ∀ (j : Nat) t v, Try.f3.params[j]? = some t → args[j]? = some v → Value.okWide Try.prog W .any base t v := hval0
  have hW' := hW
  obtain ⟨p, q, hA0, hV, rfl, _, _⟩ := hW
  have hA : DataW.TrodAll enc Try.prog W 0 (fun _ => true) true Try.f3.params.toList args.toList ds p := hA0
  rw [Try.params3] at hA hval
  obtain ⟨v0, vs0, d0, ds0, p0, q0, hargs0, hd0, hp0, h0, r0⟩ := trodAll_cons hA
  obtain ⟨v1, vs1, d1, ds1, p1, q1, hargs1, hd1, hp1, h1, r1⟩ := trodAll_cons r0
  obtain ⟨e2, e2d, _⟩ := trodAll_nil r1
  rw [e2] at hargs1
  rw [hargs1] at hargs0
  obtain rfl : args = #[v0, v1] := by cases args; simp_all
  rw [e2d] at hd1
  rw [hd1] at hd0
  subst hd0
  obtain ⟨rfl, rfl⟩ := trodVars_none hV
  obtain ⟨cs0, rfl, _⟩ := okWide_struct Try.underlying24 (hval 0 24 v0 rfl rfl)
  obtain ⟨fuel0, hf0⟩ := h0
  obtain ⟨row0, hok0, hrep0⟩ := open_row seatTR fuel0 _ _ _ _ ty_Term hf0
  have e0c : (Value.agg cs0).cells.toList.toArray = cs0 := by simp [Value.cells]
  obtain ⟨fuel1, hf1⟩ := h1
  have hone1 := okWide_one Try.underlying25 (hval 1 25 v1 rfl rfl)
  rw [hone1] at hf1
  obtain ⟨row1, hok1, hrep1⟩ := open_row seatTR fuel1 _ _ _ _ ty_s_int hf1
  obtain ⟨rows1, hok1', hrep1'⟩ := open_sl hok1 hrep1
  have hlaw := lawExactSubtermAt W row0 _ _ hok0 hrep0 rows1 _ _ hok1' hrep1'
  rw [e0c] at hlaw
  refine hlaw.mono fun e W' ⟨he, hb⟩ => ?_
  subst he
  exact ⟨_, rfl, law_post laidOut rfl rfl Try.underlying4 (by rw [Try.params3]; decide +kernel) hW' rfl hb⟩

theorem subtermAt_holds : Rows.FnExactSubtermAtSaid :=
  OpenClaim.holds_of_wide 3 Try.f3 rfl rfl rfl rfl rfl rfl rfl ⟨rfl, rfl, rfl, rfl, rfl⟩ rfl rfl rfl rfl rfl (by kernel_rfl) Try.func3 (by kernel_rfl)
    (of_decide_eq_true (by kernel_rfl)) (by unfold Func.isWrapper; rw [if_neg (of_decide_eq_false (by kernel_rfl))]; exact ⟨rfl, rfl⟩)
    (fun os started H enc _ => subtermAt_holds_lifted os started H enc)
#print axioms subtermAt_holds
end Go.Proofs.Ytmpcbijkbgmjkaa

