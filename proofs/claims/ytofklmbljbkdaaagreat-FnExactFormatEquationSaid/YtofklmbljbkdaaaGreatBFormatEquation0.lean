/-
  Part of a proof: By, Bs, QcSignature, QcEquation.
-/
import Derived.Test.YtofklmbljbkdaaaGreatBBase0
import Derived.Test.YtofklmbljbkdaaaGreatBBase1
import Derived.Test.YtofklmbljbkdaaaGreatBBase2
import Derived.Test.YtofklmbljbkdaaaGreatBBase3
import Derived.Test.YtofklmbljbkdaaaGreatBBase4
import Derived.Lib.AppendStr
import Derived.Laws.BytesString
set_option linter.unusedSimpArgs false
set_option linter.unusedVariables false
namespace Go.Proofs.YtofklmbljbkdaaaGreat
open Go.RowKit
def bytesTy (P : Program) (s d : TypeId) : Bool := match P.underlying s, P.underlying d with
  | some (.slice e), some .string => match P.underlying e with
    | some (.int .u8) => true
    | _ => false
  | _, _ => false
section
variable {e : Env} {σ : St} {o : Oper} {K : St → Prop}
end
end Go.Proofs.YtofklmbljbkdaaaGreat
namespace Go.Proofs.YtofklmbljbkdaaaGreat
open Go.RowKit
section
variable {P : Program} {w : World}
theorem app_growS (ts : Array TypeId) (t ty e : TypeId) (i : TypeInfo) (z : Value) (h0 : ts[0]? = some t) {t2 : TypeId} (h1 : ts[1]? = some t2) (ht2 : P.underlying t2 = some .string) (ht : P.underlying t = some (.slice e)) (hi : P.info? e = some i) (hz : i.zero = some z) (b : Option Addr) (sLen sCap : Nat) (olds : List Value) (x : Value) (n : Nat) (news : List Value)
    (hln : (Builtin.lenOf x).run P w = .ok n w) (hfo : (Builtin.firstCells i.size sLen (.slice b sLen sCap)).run P w.drew = .ok olds.toArray w.drew) (hf : (Builtin.firstCells i.size n x).run P w.drew = .ok news.toArray w.drew) (hg : sCap < sLen + n) (h63 : ((sLen + n : Nat) : Int) ≤ 9223372036854775807) (hfit : Builtin.nextslicecap (sLen + n) sCap * i.bytes ≤ 281474976710656) :
    (Builtin.append_ ts ty #[.slice b sLen sCap, x]).run P w = .ok (.slice (some ⟨w.heap.size, 0, none⟩) (sLen + n) (grownCap w (sLen + n) sCap e)) (w.drew.alloc (.cells (olds.toArray ++ news.toArray ++ Builtin.zeroCells z.cells (grownCap w (sLen + n) sCap e - (sLen + n))) e)) := by
  have hn : ¬ (sLen + n ≤ sCap) := by omega
  have h63' : ¬ (9223372036854775807 < ((sLen : Int) + (n : Int))) := by omega
  have h48' : ¬ (281474976710656 < Builtin.nextslicecap (sLen + n) sCap * i.bytes) := by omega
  have e1 : olds.toArray ++ (news.toArray ++ Builtin.zeroCells z.cells (grownCap w (sLen + n) sCap e - (sLen + n))) = (olds ++ news).toArray ++ Builtin.zeroCells z.cells (grownCap w (sLen + n) sCap e - (sLen + n)) := by
    apply Array.toList_inj.1; simp
  unfold grownCap at e1
  simp [Builtin.append_, h0, h1, run_underlying ht, run_underlying ht2, sizeOf, typeInfo, zeroValue, hi, hz, hln, hn, h63', h48', Question.forced, hf, hfo, newRow, grownCap, e1]
theorem app_roomS (ts : Array TypeId) (t ty e : TypeId) (i : TypeInfo) (h0 : ts[0]? = some t) {t2 : TypeId} (h1 : ts[1]? = some t2) (ht2 : P.underlying t2 = some .string) (ht : P.underlying t = some (.slice e)) (hi : P.info? e = some i) (g sLen sCap : Nat) (cur : Array Value) (hg : w.heap[g]? = some (.cells cur e (0, 0))) (x : Value) (n : Nat) (news : List Value)
    (hln : (Builtin.lenOf x).run P w = .ok n w) (hf : (Builtin.firstCells i.size n x).run P w = .ok news.toArray w) (hone : ∀ u ∈ news, u.oneCell' = true) (hroom : sLen + n ≤ sCap) (hfit : sLen * i.size + news.length ≤ cur.size) :
    (Builtin.append_ ts ty #[.slice (some ⟨g, 0, none⟩) sLen sCap, x]).run P w = .ok (.slice (some ⟨g, 0, none⟩) (sLen + n) sCap) (w.setRow g (cur.toList.take (sLen * i.size) ++ news ++ cur.toList.drop (sLen * i.size + news.length)).toArray) := by
  have hst := run_storeCells_at P g (sLen * i.size) e news 0 cur w hg (by simpa using hfit) hone
  simp only [Nat.add_zero] at hst
  simp [Builtin.append_, h0, h1, run_underlying ht, run_underlying ht2, sizeOf, typeInfo, hi, hln, hroom, hf, Addr.add_lit, hst]
theorem app_noneS (ts : Array TypeId) (t ty e : TypeId) (i : TypeInfo) (h0 : ts[0]? = some t) {t2 : TypeId} (h1 : ts[1]? = some t2) (ht2 : P.underlying t2 = some .string) (ht : P.underlying t = some (.slice e)) (hi : P.info? e = some i) (b : Option Addr) (x : Value)
    (hln : (Builtin.lenOf x).run P w = .ok 0 w) (hf : (Builtin.firstCells i.size 0 x).run P w = .ok #[] w) :
    (Builtin.append_ ts ty #[.slice b 0 0, x]).run P w = .ok (.slice b 0 0) w := by
  cases b <;> simp [Builtin.append_, h0, h1, run_underlying ht, run_underlying ht2, sizeOf, typeInfo, hi, hln, hf, storeCells]
end
section
variable {e : Env} {U : Nat → Prop} {w0 : World} {S0 : Nat → Prop} {nt : Nat} {σ : St} {a : Act} {w : World} {S : Nat → Prop} {L : Lay} {o : Oper}
theorem append_ownS (he : e.Ok) (hC : Cls e U w0.heap.size S0 σ.m w S L) {ts : Array TypeId} {t ty : TypeId} {ety sz by' : Nat} (h0 : ts[0]? = some t) {t2 : TypeId} (h1 : ts[1]? = some t2) (ht2 : e.P.underlying t2 = some .string) (hb : bytesT e.P t = some (ety, sz, by')) {rows ys : List (List C)} {v u : Value}
    (hv : BufRel w S ety sz rows v ∨ (DRel w S (.clip rows) v ∧ (rows = [] ∨ ys ≠ []))) (hrl : rowsLen sz rows) (hyl : rowsLen sz ys) (hle : rows.length + ys.length ≤ maxApp)
    (hy : ∃ (news : List Value), (∀ w', (Builtin.lenOf u).run e.P w' = .ok ys.length w') ∧ RepVals w S ys.flatten news ∧ ∀ (P : Program) (w' : World), (∀ p, w'.cell? p = w.cell? p) → (Builtin.firstCells sz ys.length u).run P w' = .ok news.toArray w') :
    ∃ v' w', (Builtin.append_ ts ty #[v, u]).run e.P w = .ok v' w' ∧ BufRel w' S ety sz (rows ++ ys) v' ∧ ∃ τ : Option Nat, Kept e.D (fun b => τ = some b) w.heap.size w w' ∧ (∀ g, τ = some g → vblk v = some g ∧ BufRel w S ety sz rows v) ∧ (∀ g, vblk v' = some g → τ = some g ∨ w.heap.size ≤ g) := by
  obtain ⟨i, z, hu, hi, hz, hsz, hby, hzs, hs0, hb4⟩ := bytesT_spec hb
  obtain ⟨news, hln, hnews, hf⟩ := hy
  have hnl : news.length = ys.length * sz := by rw [hnews.len, flat_len hyl]
  have hone := okCell_all (flat_ok hyl) hnews
  have hm30 : rows.length + ys.length ≤ 1073741824 := hle
  have hbytes : (rows.length + ys.length) * i.bytes ≤ 140737488355328 := by
    have h2 : (rows.length + ys.length) * i.bytes ≤ 1073741824 * 4096 := Nat.mul_le_mul hm30 (by omega)
    omega
  have hrl2 : rowsLen sz (rows ++ ys) := hrl.append hyl
  have grow : ∀ (b : Option Addr) (cap : Nat) (olds : List Value), v = .slice b rows.length cap → cap < rows.length + ys.length → RepVals w S rows.flatten olds → (∀ (P : Program) (w' : World), (∀ p, w'.cell? p = w.cell? p) → (Builtin.firstCells sz rows.length v).run P w' = .ok olds.toArray w') →
      ∃ v' w', (Builtin.append_ ts ty #[v, u]).run e.P w = .ok v' w' ∧ BufRel w' S ety sz (rows ++ ys) v' ∧ ∃ τ : Option Nat, Kept e.D (fun b => τ = some b) w.heap.size w w' ∧ (∀ g, τ = some g → vblk v = some g ∧ BufRel w S ety sz rows v) ∧ (∀ g, vblk v' = some g → τ = some g ∨ w.heap.size ≤ g) := by
    intro b cap olds hv hlt hol hfo
    have h63 : rows.length + ys.length ≤ maxLen := by unfold maxLen; omega
    have hrun := app_growS ts t ty ety i z h0 h1 ht2 hu hi hz b rows.length cap olds u ys.length news (hln w) (by rw [hsz, ← hv]; exact hfo _ _ (drew_cell w)) (by rw [hsz]; exact hf _ _ (drew_cell w)) hlt (by omega) (growslice_fits (by omega) hbytes)
    rw [← hv] at hrun
    have hge := grownCap_ge w (rows.length + ys.length) cap ety
    have hcm := grownCap_le_maxLen w (rows.length + ys.length) cap ety h63
    generalize hcap : grownCap w (rows.length + ys.length) cap ety = nc at hrun hge hcm
    have hcl : olds.length = rows.length * sz := by rw [hol.len, flat_len hrl]
    have hk : Kept e.D (fun b => (none : Option Nat) = some b) w.heap.size w (w.drew.alloc (.cells (olds.toArray ++ news.toArray ++ Builtin.zeroCells z.cells (nc - (rows.length + ys.length))) ety)) :=
      ⟨rfl, rfl, rfl, fun _ => Nat.le_succ _, by simp, fun k hk _ => heap_alloc_old w.drew _ hk⟩
    have hheap := heap_alloc_new w.drew (.cells (olds.toArray ++ news.toArray ++ Builtin.zeroCells z.cells (nc - (rows.length + ys.length))) ety)
    have hsW : (w.drew.alloc (.cells (olds.toArray ++ news.toArray ++ Builtin.zeroCells z.cells (nc - (rows.length + ys.length))) ety)).heap.size = w.heap.size + 1 := by simp
    have e1 : olds.toArray ++ news.toArray ++ Builtin.zeroCells z.cells (nc - (rows.length + ys.length)) = ((olds ++ news) ++ (Builtin.zeroCells z.cells (nc - (rows.length + ys.length))).toList).toArray := by
      apply Array.toList_inj.1; simp
    rw [e1] at hrun hk hheap hsW
    generalize w.drew.alloc (.cells ((olds ++ news) ++ (Builtin.zeroCells z.cells (nc - (rows.length + ys.length))).toList).toArray ety) = W at hrun hk hheap hsW
    refine ⟨_, _, hrun, ?_, none, hk, by simp, fun g hg => ?_⟩
    · have hlen : rows.length + ys.length = (rows ++ ys).length := by simp
      rw [hlen]
      refine grown_own (w := w) (cells := olds ++ news) (rest := (Builtin.zeroCells z.cells (nc - (rows.length + ys.length))).toList) (n := 0) hs0 hrl2 hk.size (fun b o hs => cell_of_heap (hk.block b (hC.sin b hs).1 (by simp)) o) ?_ (by simp; omega) hcm (by omega) (g := w.heap.size) (by omega) (fun hs => by have := (hC.sin _ hs).1; omega) ?_ ?_
      · rw [List.flatten_append]; exact RepVals.app hol hnews
      · exact hheap
      · simp only [List.length_append, Array.length_toList, size_zeroCells, hzs, hcl, hnl, ← Nat.add_mul]
        congr 1
        omega
    · simp only [vblk] at hg
      split at hg
      · cases hg
      · injection hg with hg; exact .inr (by omega)
  have stay : ∀ (b : Option Addr), rows = [] → ys = [] → v = .slice b 0 0 → ∃ v' w', (Builtin.append_ ts ty #[v, u]).run e.P w = .ok v' w' ∧ BufRel w' S ety sz (rows ++ ys) v' ∧ ∃ τ : Option Nat, Kept e.D (fun b => τ = some b) w.heap.size w w' ∧ (∀ g, τ = some g → vblk v = some g ∧ BufRel w S ety sz rows v) ∧ (∀ g, vblk v' = some g → τ = some g ∨ w.heap.size ≤ g) := by
    intro b hr hy hvb
    subst hr hy
    have hn0 : news = [] := List.eq_nil_of_length_eq_zero (by simpa using hnl)
    have hrun := app_noneS (P := e.P) (w := w) ts t ty ety i h0 h1 ht2 hu hi b u (hln w) (by rw [hsz]; have := hf e.P w (fun _ => rfl); rw [hn0] at this; simpa using this)
    rw [hvb]
    refine ⟨_, _, hrun, ⟨hs0, by simpa using rowsLen.nil, .inl ⟨by simp, b, rfl⟩⟩, none, Kept.refl _ _ _ _, by simp, fun g hg => ?_⟩
    cases b <;> simp [vblk] at hg
  rcases hv with hv | ⟨hv, hne⟩
  · have hv0 := hv
    obtain ⟨_, _, h3⟩ := hv
    rcases h3 with ⟨hr, b, hvb⟩ | ⟨g, cap, cur, hvb, hc, hg, hs, hh, hlc, hm, hcs, hr⟩
    · by_cases hy0 : ys = []
      · exact stay b hr hy0 hvb
      · have hyl0 : 0 < ys.length := List.length_pos_iff.2 hy0
        subst hr
        refine grow b 0 [] hvb (by simpa using hyl0) (by simp [RepVals]) (fun P w' _ => ?_)
        rw [hvb]
        cases b <;> simp [Builtin.firstCells, loadCells, loadCellsFrom]
    · by_cases hroom : rows.length + ys.length ≤ cap
      · have hfit : rows.length * i.size + news.length ≤ cur.size := by rw [hnl, hsz, hcs, ← Nat.add_mul]; exact Nat.mul_le_mul_right _ hroom
        have hrun := app_roomS (P := e.P) (w := w) ts t ty ety i h0 h1 ht2 hu hi g rows.length cap cur hh u ys.length news (hln w) (by rw [hsz]; exact hf _ _ (fun _ => rfl)) hone hroom hfit
        rw [← hvb] at hrun
        rw [hsz] at hrun hfit
        have hput := put_setRow w g (rows.length * sz) ety news cur hh hfit
        have hheap := setRow_heap w g cur (cur.toList.take (rows.length * sz) ++ news ++ cur.toList.drop (rows.length * sz + news.length)).toArray ety _ hh
        have hdr : (w.setRow g (cur.toList.take (rows.length * sz) ++ news ++ cur.toList.drop (rows.length * sz + news.length)).toArray).drawn = w.drawn := setRow_drawn _ _ _
        generalize hW : w.setRow g (cur.toList.take (rows.length * sz) ++ news ++ cur.toList.drop (rows.length * sz + news.length)).toArray = W at hrun hput hheap hdr
        have hszW : W.heap.size = w.heap.size := hput.size
        have hkc : ∀ b o, S b → W.cell? ⟨b, o, none⟩ = w.cell? ⟨b, o, none⟩ := fun b o hsb => cell_of_heap (hput.other b (fun e => hs (e ▸ hsb))) o
        refine ⟨_, _, hrun, ⟨hs0, hrl2, .inr ⟨g, cap, _, by simp, hc, by omega, hs, hheap, by simpa using hroom, hm, by simp; omega, ?_⟩⟩, some g, ⟨hput.os, hput.tape, hput.output, fun _ => Nat.le_of_eq hdr.symm, by omega, fun b hb hE => hput.other b (fun eq => hE (by rw [eq]))⟩, fun q hq => ?_, fun q hq => ?_⟩
        · apply RepRows.of_flat
          rw [List.flatten_append]
          have r1 := RepRow.keepAt (S' := S) (by omega) hkc (fun _ h => h) g 0 rows.flatten (fun j hj => hput.old _ (.inl (by rw [flat_len hrl] at hj; omega))) hr.flat
          refine RepRow.append _ _ 0 r1 ?_
          rw [flat_len hrl, Nat.zero_add]
          exact RepRow.of_vals _ news _ (RepVals.keep2 (by omega) hkc (fun _ h => h) hnews) hput.new
        · injection hq with hq; subst hq
          exact ⟨by rw [hvb]; simp only [vblk]; rw [if_neg (by omega)], hv0⟩
        · simp only [vblk] at hq
          rw [if_neg (by omega)] at hq
          exact .inl hq
      · obtain ⟨b', cap', olds, q1, _, _, q2, q3⟩ := buf_first hv0
        rw [hvb] at q1
        injection q1 with e1 e2 e3
        exact grow _ _ olds hvb (by omega) q2 q3
  · obtain ⟨hrep, b, n, hvb⟩ := hv
    obtain ⟨b', cap', olds, q1, q2, q3, q4, q5⟩ := rep_first hrl hrep
    rw [hvb] at q1
    injection q1 with e1 e2 e3
    by_cases hy0 : ys = []
    · have hr : rows = [] := by
        rcases hne with h | h
        · exact h
        · exact absurd hy0 h
      refine stay b hr hy0 ?_
      rw [hvb]
      have : n = 0 := by rw [e2, hr]; rfl
      rw [this]
    · have hyl0 : 0 < ys.length := List.length_pos_iff.2 hy0
      exact grow b n olds (by rw [hvb, e2]) (by omega) q4 q5
end
def byR (s : ByteArray) : List (List C) := s.data.toList.map fun b => [.lit (.int .u8 b.toNat)]
theorem byR_len (s : ByteArray) : (byR s).length = s.size := by rw [byR, List.length_map, Array.length_toList]; rfl
theorem byR_rows (s : ByteArray) : rowsLen 1 (byR s) := fun r hr => by
  obtain ⟨b, _, rfl⟩ := List.mem_map.1 hr
  exact ⟨rfl, rfl⟩
theorem byR_app (s t : ByteArray) : byR s ++ byR t = byR (s ++ t) := by
  rw [byR, byR, byR, ← List.map_append]
  congr 1
theorem byR_vals (s : ByteArray) : (byR s).flatten = (Lib.strCells s).map C.lit := by
  rw [byR, Lib.strCells, List.map_map]
  induction s.data.toList with
  | nil => rfl
  | cons b l ih => simp only [List.map_cons, List.flatten_cons, ih, List.cons_append, List.nil_append]; rfl
theorem repVals_lits {w : World} {S : Nat → Prop} : ∀ vs : List Value, RepVals w S (vs.map C.lit) vs
  | [] => by simp [RepVals]
  | v :: vs => by simp only [List.map_cons, RepVals, Rep]; exact ⟨trivial, repVals_lits vs⟩
section
variable {e : Env} {K : St → Prop} {ds : List (Option Nat)} {os : List Oper} {s : List (Nat × A)} {m : List (Nat × Bk)}
theorem step_appS {σ : St} {o : Oper} {x y : Operand} {t t2 ety by' k d : Nat} {rows : List (List C)} {oa : Option (Option Addr × Nat)} {str : ByteArray} (ho : o.op = .call ⟨.builtin .append, #[x, y], #[t, t2]⟩) (hdd : o.dst = some d) (hb : bytesT e.P t = some (ety, 1, by')) (ht2 : e.P.underlying t2 = some .string)
    (hx : evA σ.s x = .buf k) (hm : gm σ.m k = some (.buf oa ety 1 rows)) (hy : evA σ.s y = .d (.one (.lit (.string str)))) (hle : rows.length + (byR str).length ≤ maxApp) (hK : K ⟨(d, .buf d) :: killK d (killK k σ.s), (d, .buf none ety 1 (rows ++ byR str)) :: remM d (remM k σ.m)⟩) : StepOk e o σ K := by
  intro he U w0 S0 nt a w Q hd ⟨S, L, h⟩
  have hx' : a.eval x = L.v k := by have := h.eval x; rw [hx] at this; exact this
  have hy' : a.eval y = .string str := by have := h.eval y; rw [hy] at this; simpa [ARel, DRel, Rep] using this
  have ho' : BufRel w S ety 1 rows (L.v k) := (h.cls.own k _ hm).2
  obtain ⟨v', w', hrun, hbuf, τ, hk, hτ, hblk⟩ := append_ownS (ty := o.type) (ts := #[t, t2]) (v := L.v k) (u := .string str) he h.cls rfl rfl ht2 hb (.inl ho') ho'.2.1 (byR_rows str) hle
    ⟨Lib.strCells str, fun w' => by simp [Builtin.lenOf, byR_len], by rw [byR_vals]; exact repVals_lits _, fun P w' _ => by rw [byR_len]; exact Lib.run_firstCells_string w' 1 str⟩
  unfold Oper.wp
  have hr2 : (execOp a.eval o).run e.P w = .ok (.value v') w' := by
    simp [execOp, ho, resolve, invoke, builtin, hx', hy', hrun, Result.andThen]
  rw [hr2, Oper.upon_value, hdd]
  refine ⟨_, hK, h.born he (hd d hdd) (τ := τ) (b' := 0) (v' := v') (s1 := killK k σ.s) (m1 := remM k σ.m) (fun _ h => h) (fun _ h => .inl h) (fun t => ?_) (fun k' x hx => ?_) (fun g hg => ?_) (fun k' x g hkd hx hg hb' => ?_) hk ?_ (fun g hg => ?_) (by simp [ARel])⟩
  · rcases gs_killK k t σ.s with ⟨h1, _⟩ | h1
    · exact .inl h1
    · exact .inr h1
  · rw [gm_remM] at hx
    split at hx
    · cases hx
    · exact hx
  · have hg' := (hτ g hg).1
    exact ⟨(Own1.lt (k := k) (L := L) (bk := .buf none ety 1 rows) ⟨by simp, ho'⟩ hg').2, h.cls.notE hm hg', h.cls.mine k _ g hm hg'⟩
  · have hg' := (hτ g hg).1
    rw [gm_remM] at hx
    split at hx
    · cases hx
    · rename_i hne'
      exact hne' (h.cls.inj k' k x _ g hx hm hb' hg')
  · simp only [Own1, if_true]; exact ⟨by simp, hbuf⟩
  · simp only [blkOf, if_true] at hg
    exact hblk g hg
theorem fold_push : ∀ (l : List UInt8) (acc : ByteArray), (l.map fun b => (b.toNat : Int)).foldl (fun r n => r.push (UInt8.ofNat n.toNat)) acc = ⟨acc.data ++ l.toArray⟩
  | [], acc => by simp
  | b :: l, acc => by
    rw [List.map_cons, List.foldl_cons, fold_push l]
    have hb : UInt8.ofNat ((b.toNat : Int)).toNat = b := by simp
    rw [hb]
    simp [ByteArray.push]
theorem fold_str (s : ByteArray) : (s.data.toList.map fun b => (b.toNat : Int)).foldl (fun r n => r.push (UInt8.ofNat n.toNat)) ByteArray.empty = s := by
  rw [fold_push]
  show (⟨#[] ++ s.data.toList.toArray⟩ : ByteArray) = s
  simp
theorem step_bytesT {σ : St} {o : Oper} {t d : TypeId} {x : Operand} {k ety : Nat} {oa : Option (Option Addr × Nat)} {str : ByteArray} (ho : o.op = .convert t d x) (hx : evA σ.s x = .buf k) (hm : gm σ.m k = some (.buf oa ety 1 (byR str))) (ht : bytesTy e.P t d = true) (hK : K ⟨setA σ.s o.dst (.d (.one (.lit (.string str)))), σ.m⟩) : StepOk e o σ K := by
  intro he U w0 S0 nt a w Q hd ⟨S, L, h⟩
  have hx' : a.eval x = L.v k := by have := h.eval x; rw [hx] at this; exact this
  have ho' : BufRel w S ety 1 (byR str) (L.v k) := (h.cls.own k _ hm).2
  have hrun : (convert t d (L.v k)).run e.P w = .ok (.string str) w := by
    unfold bytesTy at ht
    split at ht
    · rename_i e1 h1 h2
      split at ht
      · rename_i h3
        have key : ∀ (b : Option Addr) (cap : Nat), L.v k = .slice b str.size cap → (∀ ad, b = some ad → (loadCells ad str.size).run e.P w = .ok ((str.data.toList.map fun b => (b.toNat : Int)).map (Value.int .u8)).toArray w) → (b = none → str.size = 0) → (convert t d (L.v k)).run e.P w = .ok (.string str) w := fun b cap hv hl hn => by
          rw [hv, run_convert_bytes_string w t d e1 b _ cap h1 h3 h2]
          cases b with
          | none =>
            have h0 := hn rfl
            have : str = ByteArray.empty := by
              cases str with
              | mk data => simp only [ByteArray.size] at h0; rw [Array.eq_empty_of_size_eq_zero h0]; rfl
            rw [this]
            simp [Conv.bytesToString]
          | some ad =>
            rw [run_bytesToString w ad _ cap _ (hl ad rfl), fold_str]
        rcases ho'.2.2 with ⟨hr, b, hv⟩ | ⟨g, cap, cur, hv, hc, hg, hs, hh, hlc, hmx, hcs, hr⟩
        · have h0 : str.size = 0 := by rw [← byR_len, hr]; rfl
          have hd0 : str.data.toList = [] := List.eq_nil_of_length_eq_zero (by rw [Array.length_toList]; exact h0)
          refine key b 0 (by rw [hv, h0]) (fun ad _ => ?_) (fun _ => h0)
          rw [h0, hd0]
          simp [loadCells, loadCellsFrom]
        · rw [byR_len] at hv
          refine key _ cap hv (fun ad had => ?_) (fun hb => by cases hb)
          injection had with had
          subst had
          have hl := run_loadCells_list (P := e.P) w ⟨g, 0, none⟩ ((str.data.toList.map fun b => (b.toNat : Int)).map (Value.int .u8)) (fun j u hj => by
            rw [List.getElem?_map, List.getElem?_map] at hj
            obtain ⟨b, hb, rfl⟩ : ∃ b, str.data.toList[j]? = some b ∧ u = .int .u8 b.toNat := by
              cases hq : str.data.toList[j]? with
              | none => rw [hq] at hj; cases hj
              | some b => rw [hq] at hj; injection hj with hj; exact ⟨b, rfl, hj.symm⟩
            have h1 := RepRows.get (byR str) 0 j [.lit (.int .u8 b.toNat)] (k := 1) (fun z hz => (byR_rows str z hz).1) hr (by rw [byR, List.getElem?_map, hb]; rfl)
            rw [Addr.add_at]
            simpa [RepRow, Rep] using h1)
          rw [List.length_map, List.length_map, Array.length_toList] at hl
          exact hl
      · cases ht
    · cases ht
  unfold Oper.wp
  have hr2 : (execOp a.eval o).run e.P w = .ok (.value (.string str)) w := by
    simp [execOp, ho, hx', hrun, Result.andThen]
  rw [hr2, Oper.upon_value]
  exact ⟨_, hK, S, L, h.put (α := .d (.one (.lit (.string str)))) (by simp [ARel, DRel, Rep]) hd⟩
theorem gSt {d t t2 ty ety by' k : Nat} {p : String} {ed : Array Edge} {x y : Operand} {rows : List (List C)} {oa : Option (Option Addr × Nat)} {str : ByteArray} {s2 : List (Nat × A)} {m2 : List (Nat × Bk)} (hle : rows.length + (byR str).length ≤ maxApp) (ht2 : e.P.underlying t2 = some .string) (hK : Runs e ds 0 os ⟨(d, .buf d) :: s2, (d, .buf none ety 1 (rows ++ byR str)) :: m2⟩ K)
    (hb : bytesT e.P t = some (ety, 1, by') := by first | (simp only [pz, ↓reduceIte, Nat.reduceEqDiff, Nat.reduceAdd, Nat.reduceSub, Nat.reduceMul, Nat.reduceLeDiff, Nat.reduceBEq, Bool.false_eq_true, decide_true, decide_false, Int.reduceLE, Int.reduceToNat, Int.reduceLT, Int.reduceEq, eq_self, Nat.reduceShiftRight, Nat.reduceAnd, Nat.reduceBneDiff, F]; done) | (simp only [pz, ↓reduceIte, Nat.reduceEqDiff, Nat.reduceAdd, Nat.reduceSub, Nat.reduceMul, Nat.reduceLeDiff, Nat.reduceBEq, Bool.false_eq_true, decide_true, decide_false, Int.reduceLE, Int.reduceToNat, Int.reduceLT, Int.reduceEq, eq_self, Nat.reduceShiftRight, Nat.reduceAnd, Nat.reduceBneDiff, F]; exact rfl)) (hx : evA s x = .buf k := by first | (simp only [pz, ↓reduceIte, Nat.reduceEqDiff, Nat.reduceAdd, Nat.reduceSub, Nat.reduceMul, Nat.reduceLeDiff, Nat.reduceBEq, Bool.false_eq_true, decide_true, decide_false, Int.reduceLE, Int.reduceToNat, Int.reduceLT, Int.reduceEq, eq_self, Nat.reduceShiftRight, Nat.reduceAnd, Nat.reduceBneDiff, F]; done) | (simp only [pz, ↓reduceIte, Nat.reduceEqDiff, Nat.reduceAdd, Nat.reduceSub, Nat.reduceMul, Nat.reduceLeDiff, Nat.reduceBEq, Bool.false_eq_true, decide_true, decide_false, Int.reduceLE, Int.reduceToNat, Int.reduceLT, Int.reduceEq, eq_self, Nat.reduceShiftRight, Nat.reduceAnd, Nat.reduceBneDiff, F]; exact rfl)) (hm : gm m k = some (.buf oa ety 1 rows) := by first | (simp only [pz, ↓reduceIte, Nat.reduceEqDiff, Nat.reduceAdd, Nat.reduceSub, Nat.reduceMul, Nat.reduceLeDiff, Nat.reduceBEq, Bool.false_eq_true, decide_true, decide_false, Int.reduceLE, Int.reduceToNat, Int.reduceLT, Int.reduceEq, eq_self, Nat.reduceShiftRight, Nat.reduceAnd, Nat.reduceBneDiff]; done) | (simp only [pz, ↓reduceIte, Nat.reduceEqDiff, Nat.reduceAdd, Nat.reduceSub, Nat.reduceMul, Nat.reduceLeDiff, Nat.reduceBEq, Bool.false_eq_true, decide_true, decide_false, Int.reduceLE, Int.reduceToNat, Int.reduceLT, Int.reduceEq, eq_self, Nat.reduceShiftRight, Nat.reduceAnd, Nat.reduceBneDiff]; exact rfl)) (hy : evA s y = .d (.one (.lit (.string str))) := by first | (simp only [pz, ↓reduceIte, Nat.reduceEqDiff, Nat.reduceAdd, Nat.reduceSub, Nat.reduceMul, Nat.reduceLeDiff, Nat.reduceBEq, Bool.false_eq_true, decide_true, decide_false, Int.reduceLE, Int.reduceToNat, Int.reduceLT, Int.reduceEq, eq_self, Nat.reduceShiftRight, Nat.reduceAnd, Nat.reduceBneDiff, F]; done) | (simp only [pz, ↓reduceIte, Nat.reduceEqDiff, Nat.reduceAdd, Nat.reduceSub, Nat.reduceMul, Nat.reduceLeDiff, Nat.reduceBEq, Bool.false_eq_true, decide_true, decide_false, Int.reduceLE, Int.reduceToNat, Int.reduceLT, Int.reduceEq, eq_self, Nat.reduceShiftRight, Nat.reduceAnd, Nat.reduceBneDiff, F]; exact rfl))
    (hs : killK d (killK k s) = s2 := by simp only [pz, ↓reduceIte, Nat.reduceEqDiff, Nat.reduceAdd, Nat.reduceSub, Nat.reduceMul, Nat.reduceLeDiff, Nat.reduceBEq, Bool.false_eq_true, decide_true, decide_false, Int.reduceLE, Int.reduceToNat, Int.reduceLT, Int.reduceEq, eq_self, Nat.reduceShiftRight, Nat.reduceAnd, Nat.reduceBneDiff]; exact rfl) (hr : remM d (remM k m) = m2 := by simp only [pz, ↓reduceIte, Nat.reduceEqDiff, Nat.reduceAdd, Nat.reduceSub, Nat.reduceMul, Nat.reduceLeDiff, Nat.reduceBEq, Bool.false_eq_true, decide_true, decide_false, Int.reduceLE, Int.reduceToNat, Int.reduceLT, Int.reduceEq, eq_self, Nat.reduceShiftRight, Nat.reduceAnd, Nat.reduceBneDiff]; exact rfl) : Runs e ds 0 (⟨some d, .call ⟨.builtin .append, #[x, y], #[t, t2]⟩, ty, p, ed, none⟩ :: os) ⟨s, m⟩ K := by
  subst hs hr
  simp only [Runs] at hK ⊢
  exact runsS_step rfl (step_appS rfl rfl hb ht2 hx hm hy hle hK)
theorem gTx {d t1 t2 ty ety k : Nat} {p : String} {ed : Array Edge} {x : Operand} {oa : Option (Option Addr × Nat)} (str : ByteArray) (ht : bytesTy e.P t1 t2 = true) (hK : Runs e ds 0 os ⟨(d, .d (.one (.lit (.string str)))) :: s, m⟩ K) (hx : evA s x = .buf k := by first | (simp only [pz, ↓reduceIte, Nat.reduceEqDiff, Nat.reduceAdd, Nat.reduceSub, Nat.reduceMul, Nat.reduceLeDiff, Nat.reduceBEq, Bool.false_eq_true, decide_true, decide_false, Int.reduceLE, Int.reduceToNat, Int.reduceLT, Int.reduceEq, eq_self, Nat.reduceShiftRight, Nat.reduceAnd, Nat.reduceBneDiff, F]; done) | (simp only [pz, ↓reduceIte, Nat.reduceEqDiff, Nat.reduceAdd, Nat.reduceSub, Nat.reduceMul, Nat.reduceLeDiff, Nat.reduceBEq, Bool.false_eq_true, decide_true, decide_false, Int.reduceLE, Int.reduceToNat, Int.reduceLT, Int.reduceEq, eq_self, Nat.reduceShiftRight, Nat.reduceAnd, Nat.reduceBneDiff, F]; exact rfl)) (hm : gm m k = some (.buf oa ety 1 (byR str)) := by first | (simp only [pz, ↓reduceIte, Nat.reduceEqDiff, Nat.reduceAdd, Nat.reduceSub, Nat.reduceMul, Nat.reduceLeDiff, Nat.reduceBEq, Bool.false_eq_true, decide_true, decide_false, Int.reduceLE, Int.reduceToNat, Int.reduceLT, Int.reduceEq, eq_self, Nat.reduceShiftRight, Nat.reduceAnd, Nat.reduceBneDiff]; done) | (simp only [pz, ↓reduceIte, Nat.reduceEqDiff, Nat.reduceAdd, Nat.reduceSub, Nat.reduceMul, Nat.reduceLeDiff, Nat.reduceBEq, Bool.false_eq_true, decide_true, decide_false, Int.reduceLE, Int.reduceToNat, Int.reduceLT, Int.reduceEq, eq_self, Nat.reduceShiftRight, Nat.reduceAnd, Nat.reduceBneDiff]; exact rfl)) : Runs e ds 0 (⟨some d, .convert t1 t2 x, ty, p, ed, none⟩ :: os) ⟨s, m⟩ K := by
  simp only [Runs] at hK ⊢
  exact runsS_step rfl (step_bytesT (o := ⟨some d, .convert t1 t2 x, ty, p, ed, none⟩) rfl hx hm ht hK)
end
end Go.Proofs.YtofklmbljbkdaaaGreat
namespace Go.Proofs.YtofklmbljbkdaaaGreat
open Go.RowKit
theorem con_szSignature {row : List C} (hok : okRow (sigF) row) {left : Int} (h0 : 0 ≤ left) (h1 : left ≤ 1048576) : Con e0 25 [.agg row, .one (.lit (.int .i64 left))] [.one (.lit (.int .i64 (sub left (bulkRow row))))] := by
  refine con_below e0_ok (by kernel_rfl) fun w S vs h => ?_
  match vs, h with
  | [v, u], h =>
    obtain ⟨⟨us, rfl, hu⟩, h2, _⟩ := h
    have h2 : u = .int .i64 left := by simpa [DRel, Rep] using h2
    subst h2
    exact (szSignature_any row S us left w hok hu h0 h1).mono fun e w' ⟨h1, h2⟩ => ⟨_, h1, h2, by simp [retA, ARel, DRel, Rep]⟩
theorem con_toSignature {row : List C} (hok : okRow (sigF) row) (hb : bulkRow row ≤ 1048576) : Con e0 28 [.agg row] [.agg row] := by
  refine con_below e0_ok (by kernel_rfl) fun w S vs h => ?_
  match vs, h with
  | [v], h =>
    obtain ⟨⟨us, rfl, hu⟩, _⟩ := h
    exact (toSignature_any row S us w hok hu hb).mono fun e w' ⟨us', h1, h2, h3⟩ => ⟨_, h1, h3, us', rfl, OwnVals.rep row _ _ us' (fun x hx => .inr hx) h2⟩
theorem con_eqSignature {row : List C} (hok : okRow (sigF) row) : Con e0 32 [.agg row, .agg row] [.one (.lit (.bool true))] := by
  refine con_below e0_ok (by kernel_rfl) fun w S vs h => ?_
  match vs, h with
  | [v, u], h =>
    obtain ⟨⟨us, rfl, hu⟩, ⟨us', rfl, hu'⟩, _⟩ := h
    exact (eqSignature_any row S S us us' w hok hu hu').mono fun e w' ⟨h1, h2⟩ => ⟨_, h1, h2, by simp [retA, ARel, DRel, Rep]⟩
end Go.Proofs.YtofklmbljbkdaaaGreat
namespace Go.Proofs.YtofklmbljbkdaaaGreat
open Go.RowKit
theorem con_szEquation {row : List C} (hok : okRow (fieldsOf .eqn) row) {left : Int} (h0 : 0 ≤ left) (h1 : left ≤ 1048576) : Con e0 39 [.agg row, .one (.lit (.int .i64 left))] [.one (.lit (.int .i64 (sub left (bulkRow row))))] := by
  refine con_below e0_ok (by kernel_rfl) fun w S vs h => ?_
  match vs, h with
  | [v, u], h =>
    obtain ⟨⟨us, rfl, hu⟩, h2, _⟩ := h
    have h2 : u = .int .i64 left := by simpa [DRel, Rep] using h2
    subst h2
    exact (szEquation_any row S us left w hok hu h0 h1).mono fun e w' ⟨h1, h2⟩ => ⟨_, h1, h2, by simp [retA, ARel, DRel, Rep]⟩
theorem con_toEquation {row : List C} (hok : okRow (fieldsOf .eqn) row) (hb : bulkRow row ≤ 1048576) : Con e0 41 [.agg row] [.agg row] := by
  refine con_below e0_ok (by kernel_rfl) fun w S vs h => ?_
  match vs, h with
  | [v], h =>
    obtain ⟨⟨us, rfl, hu⟩, _⟩ := h
    exact (toEquation_any row S us w hok hu hb).mono fun e w' ⟨us', h1, h2, h3⟩ => ⟨_, h1, h3, us', rfl, OwnVals.rep row _ _ us' (fun x hx => .inr hx) h2⟩
theorem con_eqEquation {row : List C} (hok : okRow (fieldsOf .eqn) row) : Con e0 43 [.agg row, .agg row] [.one (.lit (.bool true))] := by
  refine con_below e0_ok (by kernel_rfl) fun w S vs h => ?_
  match vs, h with
  | [v, u], h =>
    obtain ⟨⟨us, rfl, hu⟩, ⟨us', rfl, hu'⟩, _⟩ := h
    exact (eqEquation_any row S S us us' w hok hu hu').mono fun e w' ⟨h1, h2⟩ => ⟨_, h1, h2, by simp [retA, ARel, DRel, Rep]⟩
end Go.Proofs.YtofklmbljbkdaaaGreat
