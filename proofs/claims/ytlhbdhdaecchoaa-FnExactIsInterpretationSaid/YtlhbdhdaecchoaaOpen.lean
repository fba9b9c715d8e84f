/-
  From the readings of a law's arguments to trees of data, and from a law's contract to its row.
-/
import Derived.Test.YtlhbdhdaecchoaaRows
import Derived.Test.YtlhbdhdaecchoaaBase
import Derived.ChangeSame
import Derived.JoinedOf
import Derived.JoinedAt
import Derived.RowKit
import Derived.RowKit2
import Derived.OpenShut
import Derived.ProofKit
import Derived.Deep.Slices
import Derived.Carry
set_option linter.unusedSimpArgs false
set_option linter.unusedVariables false
namespace Go.Proofs.Ytlhbdhdaecchoaa
open Go.ChangeShapes Go.WideShapes Go.ChangeAt Go.RowKit Go.Deep

/-- The type t of the program lies in memory as the cells fs; T gives the element types. -/
inductive TyOk (P : Program) (T : TN → TypeId) (R : TN → Prop) : TypeId → List F → Prop where
  | int {t : TypeId} : P.underlying t = some (.int .i64) → TyOk P T R t [.int]
  | str {t : TypeId} : P.underlying t = some .string → TyOk P T R t [.str]
  | bool {t : TypeId} : P.underlying t = some .bool → TyOk P T R t [.bool]
  | sl {t : TypeId} {tn : TN} : P.underlying t = some (.slice (T tn)) → P.cellsOf (T tn) = (fieldsOf tn).length → R tn → TyOk P T R t [.sl tn]
  | st {t : TypeId} {flds : Array Field} {fss : List (List F)} : P.underlying t = some (.struct flds) → flds.size = fss.length → P.cellsOf t = fss.flatten.length →
      (∀ (j : Nat) (f : Field) (fs : List F), flds[j]? = some f → fss[j]? = some fs → f.offset = (fss.take j).flatten.length ∧ P.cellsOf f.type = fs.length) →
      (∀ (j : Nat) (f : Field) (fs : List F), flds[j]? = some f → fss[j]? = some fs → TyOk P T R f.type fs) → TyOk P T R t fss.flatten

section
variable {H : Type} {enc : TypeId × Value → H} {P : Program} {w : World} {base : Nat} {spare : Nat → Bool} {held : Bool}

theorem RepVals.cat {S : Nat → Prop} : ∀ {cs ds : List C} {us vs : List Value}, RepVals w S cs us → RepVals w S ds vs → RepVals w S (cs ++ ds) (us ++ vs)
  | [], _, [], _, _, h2 => by simpa using h2
  | c :: cs, ds, u :: us, vs, h1, h2 => by
    simp only [RepVals, List.cons_append] at h1 ⊢
    exact ⟨h1.1, RepVals.cat h1.2 h2⟩
  | [], _, _ :: _, _, h, _ => by simp [RepVals] at h
  | _ :: _, _, [], _, h, _ => by simp [RepVals] at h
theorem okRow.cat : ∀ {fs gs : List F} {cs ds : List C}, okRow fs cs → okRow gs ds → okRow (fs ++ gs) (cs ++ ds)
  | [], _, [], _, _, h2 => by simpa using h2
  | f :: fs, gs, c :: cs, ds, h1, h2 => by
    simp only [okRow, List.cons_append] at h1 ⊢
    exact ⟨h1.1, okRow.cat h1.2 h2⟩
  | [], _, _ :: _, _, h, _ => by simp [okRow] at h
  | _ :: _, _, [], _, h, _ => by simp [okRow] at h

theorem cat_parts (S : Nat → Prop) : ∀ (fss : List (List F)) (cs : List Value) (off : Nat), cs.length = off + fss.flatten.length →
    (∀ (j : Nat) (fs : List F), fss[j]? = some fs → ∃ row, okRow fs row ∧ RepVals w S row ((cs.drop (off + (fss.take j).flatten.length)).take fs.length)) →
    ∃ row, okRow fss.flatten row ∧ RepVals w S row (cs.drop off)
  | [], cs, off, hl, _ => ⟨[], by simp [okRow], by
      have : cs.drop off = [] := by simp at hl ⊢; omega
      rw [this]; simp [RepVals]⟩
  | fs :: fss, cs, off, hl, h => by
    simp only [List.flatten_cons, List.length_append] at hl
    obtain ⟨row0, h0, r0⟩ := h 0 fs rfl
    obtain ⟨row1, h1, r1⟩ := cat_parts S fss cs (off + fs.length) (by omega) (fun j gs hj => by
      obtain ⟨row, ha, hb⟩ := h (j + 1) gs (by simpa using hj)
      refine ⟨row, ha, ?_⟩
      simp only [List.take_succ_cons, List.flatten_cons, List.length_append] at hb
      rw [Nat.add_assoc]
      exact hb)
    simp only [List.take_zero, List.flatten_nil, List.length_nil, Nat.add_zero] at r0
    refine ⟨row0 ++ row1, okRow.cat h0 h1, ?_⟩
    have e : cs.drop off = (cs.drop off).take fs.length ++ cs.drop (off + fs.length) := by
      rw [← List.drop_drop, List.take_append_drop]
    rw [e]
    exact RepVals.cat r0 r1

theorem RepRow.of_cells {S : Nat → Prop} {b : Nat} : ∀ (row : List C) (us : List Value) (off : Nat), RepVals w S row us → (∀ j, j < us.length → w.cell? ⟨b, off + j, none⟩ = us[j]?) → RepRow w S b off row
  | [], _, _, _, _ => by simp [RepRow]
  | c :: cs, u :: us, off, h, hc => by
    simp only [RepRow, RepVals] at h ⊢
    refine ⟨⟨u, by have := hc 0 (by simp); simpa using this, h.1⟩, RepRow.of_cells cs us (off + 1) h.2 (fun j hj => ?_)⟩
    have := hc (j + 1) (by simpa using hj)
    simp only [List.getElem?_cons_succ] at this
    rw [← this]
    congr 2
    omega
  | _ :: _, [], _, h, _ => by simp [RepVals] at h
theorem RepRows.of_range {S : Nat → Prop} {b k : Nat} (f : Nat → List C) : ∀ (n i off : Nat), (∀ j, j < n → (f (i + j)).length = k ∧ RepRow w S b (off + j * k) (f (i + j))) → RepRows w S b off ((List.range' i n).map f)
  | 0, _, _, _ => by simp [RepRows]
  | n + 1, i, off, h => by
    simp only [List.range'_succ, List.map_cons, RepRows]
    have h0 := h 0 (by omega)
    simp only [Nat.add_zero, Nat.zero_mul] at h0
    refine ⟨h0.2, ?_⟩
    rw [h0.1]
    refine RepRows.of_range (k := k) f n (i + 1) (off + k) (fun j hj => ?_)
    have := h (j + 1) (by omega)
    have e1 : i + (j + 1) = i + 1 + j := by omega
    have e2 : off + (j + 1) * k = off + k + j * k := by rw [Nat.add_mul]; omega
    rw [e1, e2] at this
    exact this
theorem okRows.of_range {fs : List F} (f : Nat → List C) : ∀ (n i : Nat), (∀ j, j < n → okRow fs (f (i + j))) → okRows fs ((List.range' i n).map f)
  | 0, _, _ => by simp [okRows]
  | n + 1, i, h => by
    simp only [List.range'_succ, List.map_cons, okRows]
    refine ⟨by simpa using h 0 (by omega), okRows.of_range f n (i + 1) (fun j hj => ?_)⟩
    have := h (j + 1) (by omega)
    have e1 : i + (j + 1) = i + 1 + j := by omega
    rw [e1] at this
    exact this
theorem fieldsOf_pos (tn : TN) : 0 < (fieldsOf tn).length := by cases tn <;> simp [fieldsOf, termF, occF]
theorem add_form (a : Addr) (n : Nat) (h : ∃ v, w.cell? (a.add n) = some v) (h0 : ∃ v, w.cell? (a.add 0) = some v) : a = ⟨a.block, a.off, none⟩ := by
  obtain ⟨v, hv⟩ := h0
  obtain ⟨b, o, s⟩ := a
  simp only [Addr.add, if_true] at hv
  cases s with
  | none => rfl
  | some s =>
    simp only [World.cell?] at hv
    split at hv <;> simp at hv

theorem open_slice_at {t e : TypeId} {fuel : Nat} {cs : List Value} {x : DataW H × List MemPlace} (ht : P.underlying t = some (.slice e)) (h : DataW.trod enc P w base spare held (fuel + 1) t cs = some x) :
    (cs = [.slice none 0 0] ∧ True) ∨ ∃ (a : Addr) (len cap : Nat), cs = [.slice (some a) len cap] ∧ len ≤ cap ∧ cap ≤ maxLen ∧
      ∀ i, i < len → ∃ cs' y, w.cells? base (a.add (i * P.cellsOf e)) (P.cellsOf e) = some cs' ∧ DataW.trod enc P w base spare held fuel e cs' = some y := by
  rcases DataW.trod_slice ht h with ⟨h0, _⟩ | ⟨a, len, cap, elems, rest, n, hn, rfl, _, hb, hl, hm, hlen, hel, _, _⟩
  · exact .inl ⟨h0, trivial⟩
  · obtain rfl : fuel = n := by omega
    refine .inr ⟨a, len, cap, rfl, hl, hm, fun i hi => ?_⟩
    have hx := hel i hi
    rw [List.getElem?_eq_getElem (by omega)] at hx
    obtain ⟨cs', h1, h2⟩ := Option.bind_eq_some_iff.1 hx
    exact ⟨cs', _, h1, h2⟩
theorem add_plain {a : Addr} (h : a = ⟨a.block, a.off, none⟩) (n : Nat) : a.add n = ⟨a.block, a.off + n, none⟩ := by
  obtain ⟨b, o, s⟩ := a
  simp only [Addr.mk.injEq, true_and] at h
  subst h
  unfold Addr.add
  split
  · rename_i h0
    subst h0
    rfl
  · rfl
/-- What can be read at such a type stands for a row of data. -/
theorem open_row {T : TN → TypeId} {R : TN → Prop} (hT : ∀ tn, R tn → TyOk P T R (T tn) (fieldsOf tn)) : ∀ (fuel : Nat) (t : TypeId) (fs : List F) (cs : List Value) (x : DataW H × List MemPlace),
    TyOk P T R t fs → DataW.trod enc P w base spare held fuel t cs = some x → ∃ row, okRow fs row ∧ RepVals w (fun _ => True) row cs := by
  intro fuel
  induction fuel with
  | zero => intro t fs cs x _ h; simp [DataW.trod] at h
  | succ fuel ih =>
    intro t fs cs x hty h
    cases hty with
    | int hu =>
      obtain ⟨n, rfl, _, hwf⟩ := DataW.trod_int hu h
      refine ⟨[.lit (.int .i64 n)], ?_, by simp [RepVals, Rep]⟩
      simp only [okRow, and_true]
      refine mk_int ?_
      simp [Lit.wf, IntKind.min, IntKind.max, IntKind.signed, IntKind.bits] at hwf
      exact ⟨by omega, by omega⟩
    | str hu =>
      obtain ⟨s, rfl, _, hs⟩ := DataW.trod_string hu h
      exact ⟨[.lit (.string s)], by simp only [okRow, and_true]; exact mk_str hs, by simp [RepVals, Rep]⟩
    | bool hu =>
      obtain ⟨b, rfl, _⟩ := DataW.trod_bool hu h
      exact ⟨[.lit (.bool b)], by simp only [okRow, and_true]; exact mk_bool, by simp [RepVals, Rep]⟩
    | @sl _ tn hu hc hR =>
      rcases open_slice_at hu h with ⟨rfl, _⟩ | ⟨a, len, cap, rfl, hl, hm, hel⟩
      · refine ⟨[.sl []], by simp only [okRow, and_true]; exact mk_sl (by simp [okRows]), ?_⟩
        simp only [RepVals, Rep, and_true]
        exact ⟨none, 0, 0, rfl, rfl, Nat.le_refl _, by simp [maxLen], fun h => absurd h (by omega)⟩
      · rw [hc] at hel
        have hpos := fieldsOf_pos tn
        have hex : ∀ i, i < len → ∃ row, okRow (fieldsOf tn) row ∧ ∃ us : List Value, RepVals w (fun _ => True) row us ∧ us.length = (fieldsOf tn).length ∧ ∀ j, j < us.length → w.cell? ((a.add (i * (fieldsOf tn).length)).add j) = us[j]? := by
          intro i hi
          obtain ⟨cs', y, h1, h2⟩ := hel i hi
          obtain ⟨_, h3, h4⟩ := World.cells?_some h1
          obtain ⟨row, ho, hr⟩ := ih _ _ _ _ (hT tn hR) h2
          exact ⟨row, ho, cs', hr, h3, fun j hj => h4 j (by omega)⟩
        have hch := fun (i : Fin len) => hex i.1 i.2
        let f : Nat → List C := fun i => if h : i < len then Classical.choose (hex i h) else []
        have hf : ∀ i (hi : i < len), okRow (fieldsOf tn) (f i) ∧ ∃ us : List Value, RepVals w (fun _ => True) (f i) us ∧ us.length = (fieldsOf tn).length ∧ ∀ j, j < us.length → w.cell? ((a.add (i * (fieldsOf tn).length)).add j) = us[j]? := by
          intro i hi
          have := Classical.choose_spec (hex i hi)
          simp only [f, hi, dif_pos]
          exact this
        refine ⟨[.sl ((List.range' 0 len).map f)], ?_, ?_⟩
        · simp only [okRow, and_true]
          exact mk_sl (okRows.of_range f len 0 (fun j hj => by simpa using (hf j hj).1))
        · simp only [RepVals, Rep, and_true]
          refine ⟨some a, len, cap, rfl, by simp, hl, hm, fun h0 => ?_⟩
          have hcell : ∀ i, i < len → ∀ j, j < (fieldsOf tn).length → ∃ v, w.cell? ((a.add (i * (fieldsOf tn).length)).add j) = some v := by
            intro i hi j hj
            obtain ⟨_, us, _, hul, hus⟩ := hf i hi
            exact ⟨_, (hus j (by omega)).trans (List.getElem?_eq_getElem (by omega))⟩
          have h00 := hcell 0 h0 0 hpos
          simp only [Nat.zero_mul] at h00
          have ha0 : a.add 0 = a := by simp [Addr.add]
          rw [ha0] at h00
          have hform := add_form (w := w) a 0 h00 h00
          obtain ⟨v00, hv00⟩ := h00
          have hblk : a.block < w.heap.size := by
            rw [ha0] at hv00
            exact World.block_lt_of_cell? w a hv00
          refine ⟨a.block, a.off, by rw [← hform], trivial, hblk, ?_⟩
          refine RepRows.of_range (k := (fieldsOf tn).length) f len 0 a.off (fun j hj => ?_)
          simp only [Nat.zero_add]
          obtain ⟨ho, us, hr, hul, hus⟩ := hf j hj
          refine ⟨ho.len, RepRow.of_cells (f j) us _ hr (fun q hq => ?_)⟩
          rw [← hus q hq]
          congr 1
          rw [add_plain hform, add_plain (a := ⟨a.block, a.off + j * (fieldsOf tn).length, none⟩) rfl]
    | @st _ flds fss hu hsz hcl hfl htys =>
      obtain ⟨xs, n, hn, _, hlen, hxl, hg⟩ := DataW.trod_struct hu h
      obtain rfl : fuel = n := by omega
      have := cat_parts (w := w) (fun _ => True) fss cs 0 (by omega) (fun j gs hj => by
        have hjl : j < fss.length := (List.getElem?_eq_some_iff.1 hj).1
        have hf : flds[j]? = some (flds[j]'(by omega)) := Array.getElem?_eq_getElem (by omega)
        obtain ⟨ho, hk⟩ := hfl j _ gs hf hj
        have hty := htys j _ gs hf hj
        have ht := hg j _ hf
        have hx : xs[j]? = some (xs[j]'(by omega)) := List.getElem?_eq_getElem (by omega)
        rw [hx, ho, hk] at ht
        simpa using ih _ _ _ _ hty ht)
      simpa using this

theorem trodAll_stays (hl : laidOutB P = true) {W W' : World} {sp : Nat → Bool} : ∀ {ts : List TypeId} {vs : List Value} {ds : List (DataW H)} {ps : List MemPlace}, (∀ t ∈ ts, P.readableRec t = true ∧ t < P.types.size) →
    DataW.TrodAll enc P W 0 (fun _ => true) true ts vs ds ps → (∀ p ∈ ps, W.sameAt W' p) → (∀ p ∈ ps, sp p.block = true) → DataW.TrodAll enc P W' 0 sp true ts vs ds ps
  | [], [], [], ps, _, h, _, _ => h
  | t :: ts, v :: vs, d :: ds, ps, ht, h, hs, hp => by
    simp only [DataW.TrodAll] at h ⊢
    obtain ⟨p, q, h1, h2, rfl⟩ := h
    exact ⟨p, q, WideElems.Trod_stays hl (ht t (by simp)).1 (ht t (by simp)).2 h1 (fun x hx => hs x (by simp [hx])) (fun x hx => hp x (by simp [hx])),
      trodAll_stays hl (fun t' ht' => ht t' (by simp [ht'])) h2 (fun x hx => hs x (by simp [hx])) (fun x hx => hp x (by simp [hx])), rfl⟩
  | [], _ :: _, _, _, _, h, _, _ => by simp [DataW.TrodAll] at h
  | [], [], _ :: _, _, _, h, _, _ => by simp [DataW.TrodAll] at h
  | _ :: _, [], _, _, _, h, _, _ => by simp [DataW.TrodAll] at h
  | _ :: _, _ :: _, [], _, _, h, _, _ => by simp [DataW.TrodAll] at h

/-- A law that returned true and turned nothing that was there: its row's post. -/
theorem law_post {f : Func} {s : ChangeSpec} {W W' : World} {args : Array Value} {ds : List (DataW H)} {before : List MemPlace} {tb : TypeId} (hl : laidOutB P = true) (hvars : s.vars = [])
    (hres : f.resultTypes = #[tb]) (hb : P.underlying tb = some .bool) (hps : ∀ t ∈ f.params.toList, P.readableRec t = true ∧ t < P.types.size)
    (hW : DataW.Whole enc P f.params.toList s.vars false W args.toList ds [] before) (hfn : s.fn H (ds ++ []) = { results := [.lit (.bool true)], args := ds }) (hbel : Below W.heap.size W W') :
    s.post enc P f false true false false W args (.bool true) W' := by
  have hlt : ∀ p ∈ before, p.block < W.heap.size := fun p hp => hW.lt p hp
  obtain ⟨p, q, hA, hV, rfl, hfz, hnd⟩ := id hW
  rw [hvars] at hV
  obtain ⟨_, rfl⟩ := trodVars_none hV
  simp only [List.append_nil] at hlt
  refine ⟨ds, [], p ++ [], [], p, [], hW, ?_, ?_, ?_, World.keptBut_mono (fun x hx => ⟨hx, .inr (.inl (by simpa using hx))⟩) (hbel.frame (· ∈ p ++ [])), fun h => by cases h⟩
  · rw [hfn, hres]
    exact trodAll_cons_mk (shut_bool hb _) trodAll_mk0
  · rw [hfn]
    exact trodAll_stays hl hps hA (fun x hx => hbel.same (hlt x hx)) (fun x hx => by simpa using hlt x hx)
  · rw [hfn, hvars]
    rfl
end
def TyAll (P : Program) (T : TN → TypeId) (R : TN → Prop) : List Field → List (List F) → Prop
  | [], [] => True
  | f :: fl, fs :: fss => TyOk P T R f.type fs ∧ TyAll P T R fl fss
  | _, _ => False
def offsOk (P : Program) : List Field → List (List F) → Nat → Bool
  | [], [], _ => true
  | f :: fl, fs :: fss, o => f.offset == o && P.cellsOf f.type == fs.length && offsOk P fl fss (o + fs.length)
  | _, _, _ => false
theorem TyAll.len {P : Program} {T : TN → TypeId} {R : TN → Prop} : ∀ {fl : List Field} {fss : List (List F)}, TyAll P T R fl fss → fl.length = fss.length
  | [], [], _ => rfl
  | f :: fl, fs :: fss, h => by simp only [TyAll] at h; simp [TyAll.len h.2]
  | [], _ :: _, h => by simp [TyAll] at h
  | _ :: _, [], h => by simp [TyAll] at h
theorem TyAll.get {P : Program} {T : TN → TypeId} {R : TN → Prop} : ∀ {fl : List Field} {fss : List (List F)} {j : Nat} {f : Field} {fs : List F}, TyAll P T R fl fss → fl[j]? = some f → fss[j]? = some fs → TyOk P T R f.type fs
  | [], _, _, _, _, _, h, _ => by simp at h
  | f :: fl, fs :: fss, 0, g, gs, h, h1, h2 => by
    simp at h1 h2
    subst h1 h2
    exact h.1
  | f :: fl, fs :: fss, j + 1, g, gs, h, h1, h2 => TyAll.get (fl := fl) (fss := fss) (j := j) h.2 (by simpa using h1) (by simpa using h2)
  | _ :: _, [], _, _, _, _, _, h => by simp at h
theorem offsOk.get {P : Program} : ∀ {fl : List Field} {fss : List (List F)} {o j : Nat} {f : Field} {fs : List F}, offsOk P fl fss o = true → fl[j]? = some f → fss[j]? = some fs → f.offset = o + (fss.take j).flatten.length ∧ P.cellsOf f.type = fs.length
  | [], _, _, _, _, _, _, h, _ => by simp at h
  | f :: fl, fs :: fss, o, 0, g, gs, h, h1, h2 => by
    simp at h1 h2
    subst h1 h2
    simp only [offsOk, Bool.and_eq_true, beq_iff_eq] at h
    simpa using h.1
  | f :: fl, fs :: fss, o, j + 1, g, gs, h, h1, h2 => by
    simp only [offsOk, Bool.and_eq_true, beq_iff_eq] at h
    have := offsOk.get (fl := fl) (fss := fss) (o := o + fs.length) (j := j) h.2 (by simpa using h1) (by simpa using h2)
    simp only [List.take_succ_cons, List.flatten_cons, List.length_append]
    exact ⟨by omega, this.2⟩
  | _ :: _, [], _, _, _, _, _, _, h => by simp at h
theorem TyOk.st_of {P : Program} {T : TN → TypeId} {R : TN → Prop} {t : TypeId} {fl : List Field} (fss : List (List F)) (hu : P.underlying t = some (.struct fl.toArray)) (ho : offsOk P fl fss 0 = true) (hc : P.cellsOf t = fss.flatten.length) (h : TyAll P T R fl fss) : TyOk P T R t fss.flatten := by
  refine .st hu (by simpa using h.len) hc (fun j f fs h1 h2 => ?_) (fun j f fs h1 h2 => h.get (by simpa using h1) h2)
  have := ho
  have := offsOk.get ho (by simpa using h1) h2
  simpa using this
theorem own : ownKnob Try.prog.godebug = none := by kernel_rfl
theorem laidOut : laidOutB Try.prog = true := by kernel_rfl
end Go.Proofs.Ytlhbdhdaecchoaa
