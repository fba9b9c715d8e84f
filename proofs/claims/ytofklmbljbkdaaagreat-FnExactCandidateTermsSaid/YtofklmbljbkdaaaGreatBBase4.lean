/-
  Part of a proof: Sb, Cp.
-/
import Derived.Test.YtofklmbljbkdaaaGreatBBase0
import Derived.Test.YtofklmbljbkdaaaGreatBBase1
import Derived.Test.YtofklmbljbkdaaaGreatBBase2
import Derived.Test.YtofklmbljbkdaaaGreatBBase3
set_option linter.unusedSimpArgs false
set_option linter.unusedVariables false
namespace Go.Proofs.YtofklmbljbkdaaaGreat
open Go.RowKit
theorem flat_take {n : Nat} : ∀ {rows : List (List C)} (l : Nat), rowsLen n rows → (rows.take l).flatten = rows.flatten.take (l * n)
  | [], l, _ => by simp
  | r :: rs, 0, _ => by simp
  | r :: rs, l + 1, h => by
    have h1 := (h r List.mem_cons_self).1
    have h2 := flat_take (n := n) l (fun x hx => h x (List.mem_cons_of_mem _ hx) : rowsLen n rs)
    simp only [List.take_succ_cons, List.flatten_cons, h2]
    rw [show (l + 1) * n = r.length + l * n by rw [h1, Nat.succ_mul, Nat.add_comm], List.take_length_add_append]
theorem flat_drop {n : Nat} : ∀ {rows : List (List C)} (l : Nat), rowsLen n rows → (rows.drop l).flatten = rows.flatten.drop (l * n)
  | [], l, _ => by simp
  | r :: rs, 0, _ => by simp
  | r :: rs, l + 1, h => by
    have h1 := (h r List.mem_cons_self).1
    have h2 := flat_drop (n := n) l (fun x hx => h x (List.mem_cons_of_mem _ hx) : rowsLen n rs)
    simp only [List.drop_succ_cons, List.flatten_cons, h2]
    rw [show (l + 1) * n = r.length + l * n by rw [h1, Nat.succ_mul, Nat.add_comm], List.drop_length_add_append]
section
variable {e : Env} {U : Nat → Prop} {w0 : World} {S0 : Nat → Prop} {nt : Nat} {σ : St} {a : Act} {w : World} {S : Nat → Prop} {L : Lay}
theorem Sim.storeRows (h : Sim e U w0 S0 nt σ a w S L) (he : e.Ok) {o : Option (Option Addr × Nat)} {k l g ety sz : Nat} {rows news : List (List C)} {vs : List Value} (hm : gm σ.m k = some (.buf o ety sz rows)) (hg : vblk (L.v k) = some g) (hl : l + news.length ≤ rows.length) (hn : rowsLen sz news) (hu : RepVals w S news.flatten vs) :
    ∃ w', (storeCells ⟨g, l * sz, none⟩ vs).run e.P w = .ok () w' ∧ SimE e U w0 S0 nt ⟨σ.s, (k, .buf o ety sz (rows.take l ++ news ++ rows.drop (l + news.length))) :: remM k σ.m⟩ a w' := by
  obtain ⟨hb0, hs0, hrl, h3⟩ := h.cls.own k _ hm
  have hvl := hu.len
  have h1 := flat_ok hn
  rw [flat_len hn] at hvl
  rcases h3 with ⟨h3, p, h4⟩ | ⟨g', cap, cur, hv, hcp, hg1, hg2, hheap0, hlen, hcap, hcs, hrows⟩
  · rw [h4] at hg; cases p <;> simp [vblk] at hg
  · have hgg : g' = g := by rw [hv] at hg; simp only [vblk] at hg; rw [if_neg (by omega)] at hg; injection hg
    subst hgg
    have hfl := flat_len hrl
    have hin : l * sz + vs.length ≤ rows.length * sz := by
      have := Nat.mul_le_mul_right sz hl
      rw [Nat.add_mul] at this
      omega
    have hin2 : rows.length * sz ≤ cap * sz := Nat.mul_le_mul_right sz hlen
    have hst := run_storeCells_at e.P g' (l * sz) ety vs 0 cur w hheap0 (by rw [hcs]; omega) (okCell_all h1 hu)
    simp only [Nat.add_zero] at hst
    have hput := put_setRow w g' (l * sz) ety vs cur hheap0 (by rw [hcs]; omega)
    refine ⟨_, hst, ?_⟩
    have hheap := setRow_heap w g' cur (cur.toList.take (l * sz) ++ vs ++ cur.toList.drop (l * sz + vs.length)).toArray ety _ hheap0
    have hdr : (w.setRow g' (cur.toList.take (l * sz) ++ vs ++ cur.toList.drop (l * sz + vs.length)).toArray).drawn = w.drawn := setRow_drawn _ _ _
    generalize hW : w.setRow g' (cur.toList.take (l * sz) ++ vs ++ cur.toList.drop (l * sz + vs.length)).toArray = W at hput hheap hdr ⊢
    have hsz : W.heap.size = w.heap.size := hput.size
    have hkc : ∀ b o, S b → W.cell? ⟨b, o, none⟩ = w.cell? ⟨b, o, none⟩ := fun b o hs => cell_of_heap (hput.other b (fun e => hg2 (e ▸ hs))) o
    have hbk : blkOf L k (.buf o ety sz rows) g' := hg
    have hln : (rows.take l ++ news ++ rows.drop (l + news.length)).length = rows.length := by simp; omega
    have hown : Own1 W S L k (.buf o ety sz (rows.take l ++ news ++ rows.drop (l + news.length))) := by
      simp only [Own1]
      refine ⟨fun a ha => by rw [hb0 a ha, hln], hs0, fun x hx => ?_, .inr ⟨g', cap, _, by rw [hv, hln], hcp, by omega, hg2, hheap, by rw [hln]; exact hlen, hcap, by simp; omega, ?_⟩⟩
      · rcases List.mem_append.1 hx with hx | hx
        · rcases List.mem_append.1 hx with hx | hx
          · exact hrl x (List.mem_of_mem_take hx)
          · exact hn x hx
        · exact hrl x (List.mem_of_mem_drop hx)
      · apply RepRows.of_flat
        rw [List.flatten_append, List.flatten_append, flat_take l hrl, flat_drop _ hrl]
        have hz : w.heap.size ≤ W.heap.size := by omega
        have hf := hrows.flat
        have r1 := RepRow.keepAt (S' := S) hz hkc (fun _ h => h) g' 0 (rows.flatten.take (l * sz)) (fun i hi => hput.old _ (.inl (by simp at hi; omega))) (hf.take (l * sz))
        have r3 : RepRow W S g' (l * sz) news.flatten := RepRow.of_vals _ vs _ (RepVals.keep2 hz hkc (fun _ h => h) hu) hput.new
        have r5 := RepRow.keepAt (S' := S) hz hkc (fun _ h => h) g' _ (rows.flatten.drop ((l + news.length) * sz)) (fun i hi => hput.old _ (.inr (by rw [hvl]; rw [Nat.add_mul]; omega))) (hf.drop ((l + news.length) * sz))
        have l1 : (rows.flatten.take (l * sz)).length = l * sz := by rw [List.length_take, hfl]; omega
        refine RepRow.append _ _ 0 (RepRow.append _ _ 0 r1 ?_) ?_
        · rw [l1, Nat.zero_add]; exact r3
        · rw [List.length_append, l1, flat_len hn, ← Nat.add_mul]
          exact r5
    obtain ⟨t1, t2, t3⟩ := h.touch he (d := k) (bk := .buf o ety sz (rows.take l ++ news ++ rows.drop (l + news.length))) (m' := (k, .buf o ety sz (rows.take l ++ news ++ rows.drop (l + news.length))) :: remM k σ.m) (w' := W) (L' := L) (τ := some g') (fun _ h => h) (fun _ h => .inl h)
      (fun k' x hkd hx => by simp only [gm, hkd, if_false, gm_remM] at hx; exact hx) (by simp [gm]) (fun _ _ => ⟨rfl, rfl⟩)
      (fun q hq => by injection hq with hq; subst hq; exact ⟨hg2, h.cls.notE hm hbk, h.cls.mine k _ _ hm hbk⟩)
      (fun k' x q hkd hx hq hb => by
        injection hq with hq; subst hq
        simp only [gm, hkd, if_false, gm_remM] at hx
        exact hkd (h.cls.inj k' k x _ _ hx hm hb hbk))
      ⟨hput.os, hput.tape, hput.output, fun _ => Nat.le_of_eq hdr.symm, by omega, fun b hb hE => hput.other b (fun eq => hE (by rw [eq]))⟩ hown (fun q hq => .inl (by rw [← hq]; exact hg.symm))
    exact ⟨S, L, t1, fun t => t3 _ _ (fun _ => ⟨rfl, rfl⟩) (h.rel t), h.size, h.defers, t2⟩
end
section
variable {e : Env} {σ : St} {o : Oper} {K : St → Prop}
theorem step_sub {t : TypeId} {x : Operand} {lo hi : Option Operand} (ho : o.op = .slice t x lo hi none) {k cap ety sz : Nat} {a : Option Addr} {rows : List (List C)} {l h : Int} (hx : nrm σ.m (evA σ.s x) = .buf k) (hm : gm σ.m k = some (.buf (some (a, cap)) ety sz rows)) (ht : elemT e.P t = some sz)
    (hlo : loA (lo.map (evA σ.s)) = some l) (hhi : hiA rows.length (hi.map (evA σ.s)) = some h) (hb : 0 ≤ l ∧ l ≤ h ∧ h ≤ rows.length) (hK : K ⟨setA σ.s o.dst (.d (.one (.lit (sliced a l.toNat h.toNat cap sz)))), σ.m⟩) : StepOk e o σ K := by
  intro he U w0 S0 nt ac w Q hd ⟨S, L, h1⟩
  refine Oper.wp_mono (fun a' w' hs => ⟨_, hK, hs⟩) (gives_then h1 hd (givesA_pure fun w S L ρv hC hr => ?_))
  have hx' := nrm_rel hC (hr x (by simp [ho, Op.operands]))
  rw [hx] at hx'
  have hx' : ρv x = L.v k := hx'
  obtain ⟨hpl, _, _, hbuf⟩ := hC.own k _ hm
  have hv : L.v k = .slice a rows.length cap := hpl (a, cap) rfl
  have hcap : rows.length ≤ cap := by
    rcases hbuf with ⟨h4, _⟩ | ⟨g, cap', cur, h4, _, _, _, _, h5, _⟩
    · rw [h4]; exact Nat.zero_le _
    · rw [hv] at h4; injection h4 with _ _ h4; rw [h4]; exact h5
  have hel : ∃ ety i, e.P.underlying t = some (.slice ety) ∧ e.P.info? ety = some i ∧ i.size = sz := by
    unfold elemT at ht
    split at ht
    · rename_i ety hu
      simp only [Option.map_eq_some_iff] at ht
      obtain ⟨i, hi, hs⟩ := ht
      exact ⟨ety, i, hu, hi, hs⟩
    · cases ht
  obtain ⟨el, i, hu, hi', hsz⟩ := hel
  have hlo := loA_spec (w := w) (S := S) (L := L) (ρv := ρv) hlo (fun y hy => hr y (by simp [ho, Op.operands, hy]))
  have hhi := hiA_spec (w := w) (S := S) (L := L) (ρv := ρv) hhi (fun y hy => hr y (by simp [ho, Op.operands, hy]))
  refine ⟨sliced a l.toNat h.toNat cap sz, ?_, by simp [ARel, DRel, Rep]⟩
  have hbnd : (Instr.sliceBounds true rows.length cap (lo.map ρv) (hi.map ρv) none).run e.P w = .ok (l.toNat, h.toNat, cap) w := by
    have eh : (h.toNat : Int) = h := Int.toNat_of_nonneg (by omega)
    have b1 : 0 ≤ h := by omega
    have b2 : h ≤ (cap : Int) := by omega
    have b3 : 0 ≤ l := hb.1
    have b4 : l ≤ h := hb.2.1
    rcases hlo with ⟨rfl, rfl⟩ | e1 <;> rcases hhi with ⟨rfl, e2⟩ | e2
    · simp [Instr.sliceBounds, e2, Result.andThen]
    · simp [Instr.sliceBounds, e2, Result.andThen, run_sliceBound, b1, b2]
    · have b5 : l ≤ (rows.length : Int) := by omega
      simp [Instr.sliceBounds, e1, e2, Result.andThen, run_sliceBound, b3, b5]
    · simp [Instr.sliceBounds, e1, e2, Result.andThen, run_sliceBound, b1, b2, b3, b4, eh]
  simp only [execOp, ho, Sem.run_bind, hx', hv, Instr.sliceAt, Instr.slice, underlying, run_program, Result.andThen_ok, hu, Sem.run_pure, Option.map_none, hbnd, sizeOf, typeInfo, hi', hsz, sliced]
theorem gives_subAddr {U : Nat → Prop} {base : Nat} {S0 : Nat → Prop} {t : TypeId} {x i : Operand} (ho : o.op = .indexAddr t x i) {k cap ety sz l h : Nat} {a : Option Addr} {rows : List (List C)} {j : Int} (hx : evA σ.s x = .d (.one (.lit (sliced a l h cap sz)))) (hi : evA σ.s i = .d (.one (.lit (.int .i64 j)))) (hm : gm σ.m k = some (.buf (some (a, cap)) ety sz rows)) (ht : elemT e.P t = some sz)
    (hb : 0 ≤ j ∧ l + j < h ∧ h ≤ rows.length) : GivesA e U base S0 σ.m o (evA σ.s) (.row k (l + j.toNat) sz 0) := by
  refine givesA_pure fun w S L ρv hC hr => ?_
  have hx' := hr x (by simp [ho, Op.operands])
  have hi' := hr i (by simp [ho, Op.operands])
  rw [hx] at hx'
  rw [hi] at hi'
  have hx' := lit_val hx'
  have hi' := lit_val hi'
  obtain ⟨hpl, _, _, hbuf⟩ := hC.own k _ hm
  have hv : L.v k = .slice a rows.length cap := hpl (a, cap) rfl
  rcases hbuf with ⟨h4, _⟩ | ⟨g, cap', cur, h4, h6, _, _, _, h5, _⟩
  · rw [h4] at hb; simp at hb; omega
  · rw [hv] at h4
    injection h4 with h7 _ h8
    subst h7 h8
    have hlc : ¬ cap = l := by omega
    have hval : sliced (some ⟨g, 0, none⟩) l h cap sz = .slice (some ⟨g, l * sz, none⟩) (h - l) (cap - l) := by
      simp only [sliced, hlc, if_false, Option.map_some, Addr.add_at, Nat.zero_add]
    refine ⟨.pointer (some ⟨g, (l + j.toNat) * sz + 0, none⟩), ?_, g, ?_, rfl⟩
    · unfold elemT at ht
      split at ht
      · rename_i el hu
        simp only [Option.map_eq_some_iff] at ht
        obtain ⟨ii, hii, hn⟩ := ht
        have hlt : j < ((h - l : Nat) : Int) := by omega
        have hj := hb.1
        have e2 : l * sz + j.toNat * sz = (l + j.toNat) * sz + 0 := by rw [Nat.add_mul]; rfl
        simp [execOp, ho, hi', hx', hval, Instr.indexAt, asIntOf, underlying, hu, sizeOf, typeInfo, hii, hn, Addr.add_at, hj, hlt, Result.andThen, e2]
      · cases ht
    · rw [hv]; simp only [vblk]; rw [if_neg (by omega)]
theorem step_subAddr {t : TypeId} {x i : Operand} (ho : o.op = .indexAddr t x i) {k cap ety sz l h : Nat} {a : Option Addr} {rows : List (List C)} {j : Int} (hx : evA σ.s x = .d (.one (.lit (sliced a l h cap sz)))) (hi : evA σ.s i = .d (.one (.lit (.int .i64 j)))) (hm : gm σ.m k = some (.buf (some (a, cap)) ety sz rows)) (ht : elemT e.P t = some sz)
    (hb : 0 ≤ j ∧ l + j < h ∧ h ≤ rows.length) (hK : K ⟨setA σ.s o.dst (.row k (l + j.toNat) sz 0), σ.m⟩) : StepOk e o σ K := by
  intro he U w0 S0 nt ac w Q hd ⟨S, L, h1⟩
  exact Oper.wp_mono (fun a' w' hs => ⟨_, hK, hs⟩) (gives_then h1 hd (gives_subAddr ho hx hi hm ht hb))
theorem quiet_subAddr {t : TypeId} {x i : Operand} (ho : o.op = .indexAddr t x i) {k cap ety sz l h : Nat} {a : Option Addr} {rows : List (List C)} {j : Int} (hx : evA σ.s x = .d (.one (.lit (sliced a l h cap sz)))) (hi : evA σ.s i = .d (.one (.lit (.int .i64 j)))) (hm : gm σ.m k = some (.buf (some (a, cap)) ety sz rows)) (ht : elemT e.P t = some sz)
    (hb : 0 ≤ j ∧ l + j < h ∧ h ≤ rows.length) (hK : K ⟨setA σ.s o.dst (.row k (l + j.toNat) sz 0), σ.m⟩) : QuietOk e o σ K := fun he => ⟨_, hK, fun U base S0 => gives_subAddr ho hx hi hm ht hb⟩
theorem step_clear {x : Operand} {t : TypeId} (ho : o.op = .call ⟨.builtin .clear, #[x], #[t]⟩) {k cap ety sz by' l : Nat} {a : Option Addr} {rows : List (List C)} {z : List C} (hx : evA σ.s x = .d (.one (.lit (sliced a l rows.length cap sz)))) (hm : gm σ.m k = some (.buf (some (a, cap)) ety sz rows)) (ht : bytesT e.P t = some (ety, sz, by')) (hz : zeroT e.P ety = some z) (hzok : z.all okCell = true) (hl : l < rows.length)
    (hK : K ⟨setA σ.s o.dst (.tup []), (k, .buf (some (a, cap)) ety sz (rows.take l ++ List.replicate (rows.length - l) z)) :: remM k σ.m⟩) : StepOk e o σ K := by
  intro he U w0 S0 nt ac w Q hd ⟨S, L, h1⟩
  have hx' := h1.eval x
  rw [hx] at hx'
  have hx' := lit_val hx'
  obtain ⟨hpl, hs0, _, hbuf⟩ := h1.cls.own k _ hm
  have hv : L.v k = .slice a rows.length cap := hpl (a, cap) rfl
  obtain ⟨i, zv, hu, hi, hzz, hsz, hby, hzs, hs0, hb4⟩ := bytesT_spec ht
  have hzc : z = zv.cells.toList.map toC := by
    unfold zeroT at hz
    simp only [hi, Option.bind_some, hzz, Option.map_some, Option.some.injEq] at hz
    exact hz.symm
  rcases hbuf with ⟨h4, _⟩ | ⟨g, cap', cur, h4, h6, _, _, _, h5, _⟩
  · rw [h4] at hl; simp at hl
  · rw [hv] at h4
    injection h4 with h7 _ h8
    subst h7 h8
    have hlc : ¬ cap = l := by omega
    have hval : sliced (some ⟨g, 0, none⟩) l rows.length cap sz = .slice (some ⟨g, l * sz, none⟩) (rows.length - l) (cap - l) := by
      simp only [sliced, hlc, if_false, Option.map_some, Addr.add_at, Nat.zero_add]
    have hn : rowsLen sz (List.replicate (rows.length - l) z) := fun r hr => by
      rw [List.eq_of_mem_replicate hr]
      exact ⟨by rw [hzc]; simp [hzs], hzok⟩
    have hu' : RepVals w S (List.replicate (rows.length - l) z).flatten ((List.replicate (rows.length - l) zv).flatMap fun v => v.cells.toList) := by rw [hzc]; exact rep_zeros _
    obtain ⟨w', hst, hsim⟩ := h1.storeRows he (l := l) (g := g) hm (by rw [hv]; simp only [vblk]; rw [if_neg (by omega)]) (by simp; omega) hn hu'
    rw [List.length_replicate, show l + (rows.length - l) = rows.length by omega, List.drop_length, List.append_nil] at hsim
    obtain ⟨S', L', hsim⟩ := hsim
    have hzc2 : (Builtin.zeroCells zv.cells (rows.length - l)).toList = (List.replicate (rows.length - l) zv).flatMap fun v => v.cells.toList := by
      have := made_cells zv sz hs0 hzs (rows.length - l)
      rw [← this]
      simp [Builtin.zeroCells, madeCells, hzs]
    have hrun : (execOp ac.eval o).run e.P w = .ok (.value (.tuple #[])) w' := by
      have hne : ¬ (rows.length - l = 0) := by omega
      obtain ⟨q, hq⟩ : ∃ q, rows.length - l = q + 1 := ⟨rows.length - l - 1, by omega⟩
      rw [hq] at hst hzc2
      simp [execOp, ho, resolve, invoke, builtin, Builtin.clear_, hx', hval, hq, underlying, hu, zeroValue, hi, hzz, typeInfo, Result.andThen, hzc2, hst]
    unfold Oper.wp
    rw [hrun, Oper.upon_value]
    refine ⟨_, hK, S', L', hsim.put (α := .tup []) (v := .tuple #[]) ⟨[], rfl, trivial⟩ hd⟩
end
theorem re_cut {a : Option Addr} {cap ety sz : Nat} {rows : List (List C)} (m : Nat) (hm : m ≤ rows.length) : Retold [.buf (some (a, cap)) ety sz rows] [.buf (some (a, cap)) ety sz (rows.take m)] := fun w S h ha => by
  have hl : (rows.take m).length = m := by rw [List.length_take]; omega
  obtain ⟨h0, hrl, hc⟩ : BufRel w S ety sz rows (.slice a rows.length cap) := h (.buf (some (a, cap)) ety sz rows) (by simp)
  have hb : ∀ b, vblk (.slice a m cap) = some b ↔ vblk (.slice a rows.length cap) = some b := fun b => by cases a <;> simp [vblk]
  refine ⟨fun x hx => ?_, apart_1 _, fun g ⟨x, hx, hg⟩ => ?_⟩
  · simp only [List.mem_cons, List.not_mem_nil, or_false] at hx
    subst hx
    show BufRel w S ety sz (rows.take m) (.slice a (rows.take m).length cap)
    rw [hl]
    refine ⟨h0, fun r hr => hrl r (List.mem_of_mem_take hr), ?_⟩
    rcases hc with ⟨h4, p, h5⟩ | ⟨g, cap', cur, h4, h5, h6, h7, h8, h9, h10, h11, h12⟩
    · subst h4
      simp only [List.length_nil, Nat.le_zero_eq] at hm
      subst hm
      exact .inl ⟨by simp, p, by simpa using h5⟩
    · injection h4 with e1 e2 e3
      subst e1 e3
      refine .inr ⟨g, cap, cur, by rw [hl], h5, h6, h7, h8, by rw [hl]; omega, h10, h11, ?_⟩
      have := RepRows.sub hrl h12 0 m
      simpa using this
  · simp only [List.mem_cons, List.not_mem_nil, or_false] at hx
    subst hx
    refine ⟨.buf (some (a, cap)) ety sz rows, by simp, ?_⟩
    simp only [pblk, hl] at hg ⊢
    exact (hb g).1 hg
theorem gSub {e : Env} {K : St → Prop} {ds : List (Option Nat)} {os : List Oper} {d t ty cap ety sz : Nat} {p : String} {ed : Array Edge} {x : Operand} {lo hi : Option Operand} {s : List (Nat × A)} {m : List (Nat × Bk)} {a : Option Addr} {rows : List (List C)} (k l h : Nat) (hb : l ≤ h ∧ h ≤ rows.length) (hK : Runs e ds 0 os ⟨(d, .d (.one (.lit (sliced a l h cap sz)))) :: s, m⟩ K)
    (hx : nrm m (evA s x) = .buf k := by first | (simp only [pz, ↓reduceIte, Nat.reduceEqDiff, Nat.reduceAdd, Nat.reduceSub, Nat.reduceMul, Nat.reduceLeDiff, Nat.reduceBEq, Bool.false_eq_true, decide_true, decide_false, Int.reduceLE, Int.reduceToNat, Int.reduceLT, Int.reduceEq, eq_self, Nat.reduceShiftRight, Nat.reduceAnd, Nat.reduceBneDiff, F]; done) | (simp only [pz, ↓reduceIte, Nat.reduceEqDiff, Nat.reduceAdd, Nat.reduceSub, Nat.reduceMul, Nat.reduceLeDiff, Nat.reduceBEq, Bool.false_eq_true, decide_true, decide_false, Int.reduceLE, Int.reduceToNat, Int.reduceLT, Int.reduceEq, eq_self, Nat.reduceShiftRight, Nat.reduceAnd, Nat.reduceBneDiff, F]; exact rfl)) (hm : gm m k = some (.buf (some (a, cap)) ety sz rows) := by simp only [pz, ↓reduceIte, Nat.reduceEqDiff, Nat.reduceAdd, Nat.reduceSub, Nat.reduceMul, Nat.reduceLeDiff, Nat.reduceBEq, Bool.false_eq_true, decide_true, decide_false, Int.reduceLE, Int.reduceToNat, Int.reduceLT, Int.reduceEq, eq_self, Nat.reduceShiftRight, Nat.reduceAnd, Nat.reduceBneDiff]; exact rfl) (ht : elemT e.P t = some sz := by first | (simp only [pz, ↓reduceIte, Nat.reduceEqDiff, Nat.reduceAdd, Nat.reduceSub, Nat.reduceMul, Nat.reduceLeDiff, Nat.reduceBEq, Bool.false_eq_true, decide_true, decide_false, Int.reduceLE, Int.reduceToNat, Int.reduceLT, Int.reduceEq, eq_self, Nat.reduceShiftRight, Nat.reduceAnd, Nat.reduceBneDiff]; done) | (simp only [pz, ↓reduceIte, Nat.reduceEqDiff, Nat.reduceAdd, Nat.reduceSub, Nat.reduceMul, Nat.reduceLeDiff, Nat.reduceBEq, Bool.false_eq_true, decide_true, decide_false, Int.reduceLE, Int.reduceToNat, Int.reduceLT, Int.reduceEq, eq_self, Nat.reduceShiftRight, Nat.reduceAnd, Nat.reduceBneDiff]; exact rfl))
    (hlo : loA (lo.map (evA s)) = some (l : Int) := by first | (simp only [pz, ↓reduceIte, Nat.reduceEqDiff, Nat.reduceAdd, Nat.reduceSub, Nat.reduceMul, Nat.reduceLeDiff, Nat.reduceBEq, Bool.false_eq_true, decide_true, decide_false, Int.reduceLE, Int.reduceToNat, Int.reduceLT, Int.reduceEq, eq_self, Nat.reduceShiftRight, Nat.reduceAnd, Nat.reduceBneDiff, F]; done) | (simp only [pz, ↓reduceIte, Nat.reduceEqDiff, Nat.reduceAdd, Nat.reduceSub, Nat.reduceMul, Nat.reduceLeDiff, Nat.reduceBEq, Bool.false_eq_true, decide_true, decide_false, Int.reduceLE, Int.reduceToNat, Int.reduceLT, Int.reduceEq, eq_self, Nat.reduceShiftRight, Nat.reduceAnd, Nat.reduceBneDiff, F]; exact rfl)) (hhi : hiA rows.length (hi.map (evA s)) = some (h : Int) := by first | (simp only [pz, ↓reduceIte, Nat.reduceEqDiff, Nat.reduceAdd, Nat.reduceSub, Nat.reduceMul, Nat.reduceLeDiff, Nat.reduceBEq, Bool.false_eq_true, decide_true, decide_false, Int.reduceLE, Int.reduceToNat, Int.reduceLT, Int.reduceEq, eq_self, Nat.reduceShiftRight, Nat.reduceAnd, Nat.reduceBneDiff, F]; done) | (simp only [pz, ↓reduceIte, Nat.reduceEqDiff, Nat.reduceAdd, Nat.reduceSub, Nat.reduceMul, Nat.reduceLeDiff, Nat.reduceBEq, Bool.false_eq_true, decide_true, decide_false, Int.reduceLE, Int.reduceToNat, Int.reduceLT, Int.reduceEq, eq_self, Nat.reduceShiftRight, Nat.reduceAnd, Nat.reduceBneDiff, F]; exact rfl)) : Runs e ds 0 (⟨some d, .slice t x lo hi none, ty, p, ed, none⟩ :: os) ⟨s, m⟩ K := by
  simp only [Runs] at hK ⊢
  exact runsS_step rfl (step_sub (o := ⟨some d, .slice t x lo hi none, ty, p, ed, none⟩) rfl hx hm ht hlo hhi ⟨by omega, by omega, by omega⟩ (by simpa only [Int.toNat_natCast, setA] using hK))
theorem gSubA {e : Env} {K : St → Prop} {ds : List (Option Nat)} {os : List Oper} {d t ty cap ety sz l h : Nat} {p : String} {ed : Array Edge} {x i : Operand} {s : List (Nat × A)} {m : List (Nat × Bk)} {a : Option Addr} {rows : List (List C)} (k j : Nat) (hb : l + j < h ∧ h ≤ rows.length) (hK : Runs e ds 0 os ⟨(d, .row k (l + j) sz 0) :: s, m⟩ K)
    (hx : evA s x = .d (.one (.lit (sliced a l h cap sz))) := by first | (simp only [pz, ↓reduceIte, Nat.reduceEqDiff, Nat.reduceAdd, Nat.reduceSub, Nat.reduceMul, Nat.reduceLeDiff, Nat.reduceBEq, Bool.false_eq_true, decide_true, decide_false, Int.reduceLE, Int.reduceToNat, Int.reduceLT, Int.reduceEq, eq_self, Nat.reduceShiftRight, Nat.reduceAnd, Nat.reduceBneDiff]; done) | (simp only [pz, ↓reduceIte, Nat.reduceEqDiff, Nat.reduceAdd, Nat.reduceSub, Nat.reduceMul, Nat.reduceLeDiff, Nat.reduceBEq, Bool.false_eq_true, decide_true, decide_false, Int.reduceLE, Int.reduceToNat, Int.reduceLT, Int.reduceEq, eq_self, Nat.reduceShiftRight, Nat.reduceAnd, Nat.reduceBneDiff]; exact rfl)) (hi : evA s i = .d (.one (.lit (.int .i64 (j : Int)))) := by first | (simp only [pz, ↓reduceIte, Nat.reduceEqDiff, Nat.reduceAdd, Nat.reduceSub, Nat.reduceMul, Nat.reduceLeDiff, Nat.reduceBEq, Bool.false_eq_true, decide_true, decide_false, Int.reduceLE, Int.reduceToNat, Int.reduceLT, Int.reduceEq, eq_self, Nat.reduceShiftRight, Nat.reduceAnd, Nat.reduceBneDiff, F]; done) | (simp only [pz, ↓reduceIte, Nat.reduceEqDiff, Nat.reduceAdd, Nat.reduceSub, Nat.reduceMul, Nat.reduceLeDiff, Nat.reduceBEq, Bool.false_eq_true, decide_true, decide_false, Int.reduceLE, Int.reduceToNat, Int.reduceLT, Int.reduceEq, eq_self, Nat.reduceShiftRight, Nat.reduceAnd, Nat.reduceBneDiff, F]; exact rfl)) (hm : gm m k = some (.buf (some (a, cap)) ety sz rows) := by simp only [pz, ↓reduceIte, Nat.reduceEqDiff, Nat.reduceAdd, Nat.reduceSub, Nat.reduceMul, Nat.reduceLeDiff, Nat.reduceBEq, Bool.false_eq_true, decide_true, decide_false, Int.reduceLE, Int.reduceToNat, Int.reduceLT, Int.reduceEq, eq_self, Nat.reduceShiftRight, Nat.reduceAnd, Nat.reduceBneDiff]; exact rfl) (ht : elemT e.P t = some sz := by first | (simp only [pz, ↓reduceIte, Nat.reduceEqDiff, Nat.reduceAdd, Nat.reduceSub, Nat.reduceMul, Nat.reduceLeDiff, Nat.reduceBEq, Bool.false_eq_true, decide_true, decide_false, Int.reduceLE, Int.reduceToNat, Int.reduceLT, Int.reduceEq, eq_self, Nat.reduceShiftRight, Nat.reduceAnd, Nat.reduceBneDiff]; done) | (simp only [pz, ↓reduceIte, Nat.reduceEqDiff, Nat.reduceAdd, Nat.reduceSub, Nat.reduceMul, Nat.reduceLeDiff, Nat.reduceBEq, Bool.false_eq_true, decide_true, decide_false, Int.reduceLE, Int.reduceToNat, Int.reduceLT, Int.reduceEq, eq_self, Nat.reduceShiftRight, Nat.reduceAnd, Nat.reduceBneDiff]; exact rfl)) : Runs e ds 0 (⟨some d, .indexAddr t x i, ty, p, ed, none⟩ :: os) ⟨s, m⟩ K := by
  simp only [Runs] at hK ⊢
  exact runsS_step rfl (step_subAddr (o := ⟨some d, .indexAddr t x i, ty, p, ed, none⟩) rfl hx hi hm ht ⟨by omega, by omega, by omega⟩ (by simpa only [Int.toNat_natCast, setA] using hK))
theorem runs_quiet {e : Env} {ds : List (Option Nat)} {K : St → Prop} {n : Nat} {os : List Oper} {o : Oper} {σ : St} (hg : o.guard = none) (hal : isAl o = false) (h : QuietOk e o σ (fun σ' => Runs e ds n os σ' K)) : Runs e ds (n + 1) (o :: os) σ K := by
  simp only [Runs, hg]
  rw [if_neg (by simp [hal])]
  exact h
theorem gSubAq {e : Env} {K : St → Prop} {ds : List (Option Nat)} {os : List Oper} {n d t ty cap ety sz l h : Nat} {p : String} {ed : Array Edge} {x i : Operand} {s : List (Nat × A)} {m : List (Nat × Bk)} {a : Option Addr} {rows : List (List C)} (k j : Nat) (hb : l + j < h ∧ h ≤ rows.length) (hK : Runs e ds n os ⟨(d, .row k (l + j) sz 0) :: s, m⟩ K)
    (hx : evA s x = .d (.one (.lit (sliced a l h cap sz))) := by first | (simp only [pz, ↓reduceIte, Nat.reduceEqDiff, Nat.reduceAdd, Nat.reduceSub, Nat.reduceMul, Nat.reduceLeDiff, Nat.reduceBEq, Bool.false_eq_true, decide_true, decide_false, Int.reduceLE, Int.reduceToNat, Int.reduceLT, Int.reduceEq, eq_self, Nat.reduceShiftRight, Nat.reduceAnd, Nat.reduceBneDiff]; done) | (simp only [pz, ↓reduceIte, Nat.reduceEqDiff, Nat.reduceAdd, Nat.reduceSub, Nat.reduceMul, Nat.reduceLeDiff, Nat.reduceBEq, Bool.false_eq_true, decide_true, decide_false, Int.reduceLE, Int.reduceToNat, Int.reduceLT, Int.reduceEq, eq_self, Nat.reduceShiftRight, Nat.reduceAnd, Nat.reduceBneDiff]; exact rfl)) (hi : evA s i = .d (.one (.lit (.int .i64 (j : Int)))) := by first | (simp only [pz, ↓reduceIte, Nat.reduceEqDiff, Nat.reduceAdd, Nat.reduceSub, Nat.reduceMul, Nat.reduceLeDiff, Nat.reduceBEq, Bool.false_eq_true, decide_true, decide_false, Int.reduceLE, Int.reduceToNat, Int.reduceLT, Int.reduceEq, eq_self, Nat.reduceShiftRight, Nat.reduceAnd, Nat.reduceBneDiff, F]; done) | (simp only [pz, ↓reduceIte, Nat.reduceEqDiff, Nat.reduceAdd, Nat.reduceSub, Nat.reduceMul, Nat.reduceLeDiff, Nat.reduceBEq, Bool.false_eq_true, decide_true, decide_false, Int.reduceLE, Int.reduceToNat, Int.reduceLT, Int.reduceEq, eq_self, Nat.reduceShiftRight, Nat.reduceAnd, Nat.reduceBneDiff, F]; exact rfl)) (hm : gm m k = some (.buf (some (a, cap)) ety sz rows) := by simp only [pz, ↓reduceIte, Nat.reduceEqDiff, Nat.reduceAdd, Nat.reduceSub, Nat.reduceMul, Nat.reduceLeDiff, Nat.reduceBEq, Bool.false_eq_true, decide_true, decide_false, Int.reduceLE, Int.reduceToNat, Int.reduceLT, Int.reduceEq, eq_self, Nat.reduceShiftRight, Nat.reduceAnd, Nat.reduceBneDiff]; exact rfl) (ht : elemT e.P t = some sz := by first | (simp only [pz, ↓reduceIte, Nat.reduceEqDiff, Nat.reduceAdd, Nat.reduceSub, Nat.reduceMul, Nat.reduceLeDiff, Nat.reduceBEq, Bool.false_eq_true, decide_true, decide_false, Int.reduceLE, Int.reduceToNat, Int.reduceLT, Int.reduceEq, eq_self, Nat.reduceShiftRight, Nat.reduceAnd, Nat.reduceBneDiff]; done) | (simp only [pz, ↓reduceIte, Nat.reduceEqDiff, Nat.reduceAdd, Nat.reduceSub, Nat.reduceMul, Nat.reduceLeDiff, Nat.reduceBEq, Bool.false_eq_true, decide_true, decide_false, Int.reduceLE, Int.reduceToNat, Int.reduceLT, Int.reduceEq, eq_self, Nat.reduceShiftRight, Nat.reduceAnd, Nat.reduceBneDiff]; exact rfl)) : Runs e ds (n + 1) (⟨some d, .indexAddr t x i, ty, p, ed, none⟩ :: os) ⟨s, m⟩ K :=
  runs_quiet rfl rfl (quiet_subAddr (o := ⟨some d, .indexAddr t x i, ty, p, ed, none⟩) rfl hx hi hm ht ⟨by omega, by omega, by omega⟩ (by simpa only [Int.toNat_natCast, setA] using hK))
theorem gClear {e : Env} {K : St → Prop} {ds : List (Option Nat)} {os : List Oper} {t ty cap ety sz by' l : Nat} {dd : Option Nat} {p : String} {ed : Array Edge} {x : Operand} {s s' : List (Nat × A)} {m m' : List (Nat × Bk)} {a : Option Addr} {rows : List (List C)} {z : List C} (k : Nat) (hl : l < rows.length) (hK : Runs e ds 0 os ⟨s', (k, .buf (some (a, cap)) ety sz (rows.take l ++ List.replicate (rows.length - l) z)) :: m'⟩ K)
    (hx : evA s x = .d (.one (.lit (sliced a l rows.length cap sz))) := by simp only [pz, ↓reduceIte, Nat.reduceEqDiff, Nat.reduceAdd, Nat.reduceSub, Nat.reduceMul, Nat.reduceLeDiff, Nat.reduceBEq, Bool.false_eq_true, decide_true, decide_false, Int.reduceLE, Int.reduceToNat, Int.reduceLT, Int.reduceEq, eq_self, Nat.reduceShiftRight, Nat.reduceAnd, Nat.reduceBneDiff]; exact rfl) (hm : gm m k = some (.buf (some (a, cap)) ety sz rows) := by simp only [pz, ↓reduceIte, Nat.reduceEqDiff, Nat.reduceAdd, Nat.reduceSub, Nat.reduceMul, Nat.reduceLeDiff, Nat.reduceBEq, Bool.false_eq_true, decide_true, decide_false, Int.reduceLE, Int.reduceToNat, Int.reduceLT, Int.reduceEq, eq_self, Nat.reduceShiftRight, Nat.reduceAnd, Nat.reduceBneDiff]; exact rfl) (ht : bytesT e.P t = some (ety, sz, by') := by first | (simp only [pz, ↓reduceIte, Nat.reduceEqDiff, Nat.reduceAdd, Nat.reduceSub, Nat.reduceMul, Nat.reduceLeDiff, Nat.reduceBEq, Bool.false_eq_true, decide_true, decide_false, Int.reduceLE, Int.reduceToNat, Int.reduceLT, Int.reduceEq, eq_self, Nat.reduceShiftRight, Nat.reduceAnd, Nat.reduceBneDiff]; done) | (simp only [pz, ↓reduceIte, Nat.reduceEqDiff, Nat.reduceAdd, Nat.reduceSub, Nat.reduceMul, Nat.reduceLeDiff, Nat.reduceBEq, Bool.false_eq_true, decide_true, decide_false, Int.reduceLE, Int.reduceToNat, Int.reduceLT, Int.reduceEq, eq_self, Nat.reduceShiftRight, Nat.reduceAnd, Nat.reduceBneDiff]; exact rfl)) (hz : zeroT e.P ety = some z := by first | (simp only [pz, ↓reduceIte, Nat.reduceEqDiff, Nat.reduceAdd, Nat.reduceSub, Nat.reduceMul, Nat.reduceLeDiff, Nat.reduceBEq, Bool.false_eq_true, decide_true, decide_false, Int.reduceLE, Int.reduceToNat, Int.reduceLT, Int.reduceEq, eq_self, Nat.reduceShiftRight, Nat.reduceAnd, Nat.reduceBneDiff]; done) | (simp only [pz, ↓reduceIte, Nat.reduceEqDiff, Nat.reduceAdd, Nat.reduceSub, Nat.reduceMul, Nat.reduceLeDiff, Nat.reduceBEq, Bool.false_eq_true, decide_true, decide_false, Int.reduceLE, Int.reduceToNat, Int.reduceLT, Int.reduceEq, eq_self, Nat.reduceShiftRight, Nat.reduceAnd, Nat.reduceBneDiff]; exact rfl)) (hzok : z.all okCell = true := by first | rfl | simp only [pz, ↓reduceIte, Nat.reduceEqDiff, Nat.reduceAdd, Nat.reduceSub, Nat.reduceMul, Nat.reduceLeDiff, Nat.reduceBEq, Bool.false_eq_true, decide_true, decide_false, Int.reduceLE, Int.reduceToNat, Int.reduceLT, Int.reduceEq, eq_self, Nat.reduceShiftRight, Nat.reduceAnd, Nat.reduceBneDiff])
    (hs : setA s dd (.tup []) = s' := by simp only [setA]; exact rfl) (hr : remM k m = m' := by simp only [pz, ↓reduceIte, Nat.reduceEqDiff, Nat.reduceAdd, Nat.reduceSub, Nat.reduceMul, Nat.reduceLeDiff, Nat.reduceBEq, Bool.false_eq_true, decide_true, decide_false, Int.reduceLE, Int.reduceToNat, Int.reduceLT, Int.reduceEq, eq_self, Nat.reduceShiftRight, Nat.reduceAnd, Nat.reduceBneDiff]; exact rfl) : Runs e ds 0 (⟨dd, .call ⟨.builtin .clear, #[x], #[t]⟩, ty, p, ed, none⟩ :: os) ⟨s, m⟩ K := by
  subst hs hr
  simp only [Runs] at hK ⊢
  exact runsS_step rfl (step_clear (o := ⟨dd, .call ⟨.builtin .clear, #[x], #[t]⟩, ty, p, ed, none⟩) rfl hx hm ht hz hzok hl hK)
end Go.Proofs.YtofklmbljbkdaaaGreat
namespace Go.Proofs.YtofklmbljbkdaaaGreat
open Go.RowKit
theorem con_same {e : Env} {f : FuncId} {args : List D} {x : Value} (hb : hasBody e.P f = true) (h : ∀ (w : World) (S : Nat → Prop) (vs : List Value), DsRel w S args vs → Calls e.P f vs.toArray w fun en w' => en = .returned x ∧ w = w') : Con e f args [.one (.lit x)] :=
  ⟨hb, fun w S vs _ _ hG hv => (h w S vs hv).mono fun en w' ⟨h1, h2⟩ => by subst h2; exact ⟨x, h1, Kept.refl .., hG, by simp [retA, ARel, DRel, Rep]⟩⟩
theorem con_when {e : Env} {f : FuncId} {args r : List D} {φ : Prop} (hb : hasBody e.P f = true) (hφ : ∀ (w : World) (S : Nat → Prop) (vs : List Value), DsRel w S args vs → φ) (h : φ → Con e f args r) : Con e f args r :=
  ⟨hb, fun w S vs h1 h2 h3 h4 => (h (hφ w S vs h4)).2 w S vs h1 h2 h3 h4⟩
theorem con_cmpI1 (a b : Int) : Con e1 229 [.one (.lit (.int .i64 a)), .one (.lit (.int .i64 b))] [.one (.lit (.int .i64 (cmpInt a b)))] := by
  refine con_same (by kernel_rfl) fun w S vs h => ?_
  match vs, h with
  | [x, y], h =>
    obtain ⟨hx, hy, _⟩ := h
    have hx : x = .int .i64 a := hx
    have hy : y = .int .i64 b := hy
    subst hx hy
    exact cmpCompare a b w
theorem con_cmpS1 (a b : ByteArray) : Con e1 230 [.one (.lit (.string a)), .one (.lit (.string b))] [.one (.lit (.int .i64 (cmpStr a b)))] := by
  refine con_same (by kernel_rfl) fun w S vs h => ?_
  match vs, h with
  | [x, y], h =>
    obtain ⟨hx, hy, _⟩ := h
    have hx : x = .string a := hx
    have hy : y = .string b := hy
    subst hx hy
    exact stringsCompare a b w
set_option maxHeartbeats 4000000 in
theorem con_cmpOr1 (l : List Int) (hl : l.length ≤ 1048576) : Con e1 228 [.clip (l.map fun n => [.lit (.int .i64 n)])] [.one (.lit (.int .i64 (firstNZ l)))] := by
  have rb : rowsB 1 (l.map fun n => [C.lit (.int .i64 n)]) = true := rowsB_map (e := fun n => [C.lit (.int .i64 n)]) (n := 1) (fun _ => rfl) l
  refine gI (ts := [.slot 2]) 17389 Tryz.func228 ?_
  (have F := @rb; refine gG ?_; clear F)
  (have F := @rb; refine gL (ι := Nat) [2, 5, 8, 9, 14] [] (fun x => [(8, .d (.one (.lit (.int .i64 (x : Int)))))]) (fun x => []) (fun x => x ≤ l.length ∧ firstNZ l = firstNZ (l.drop x)) (fun x => l.length - x) (0) (⟨Nat.zero_le _, rfl⟩) (fun x hx => ?_); clear F)
  obtain ⟨hi, hf⟩ := hx
  rw [hf]
  clear hf
  by_cases hlt : x < l.length
  · obtain ⟨n, hn⟩ : ∃ n, l[x]? = some n := ⟨_, List.getElem?_eq_getElem hlt⟩
    have q1 : ((x : Int) < (l.length : Int)) = True := eq_true (by omega)
    have q4 : IntKind.i64.wrap ((x : Int) + 1) = (x : Int) + 1 := IntWalk.i64_in _ (by omega)
    rw [firstNZ_drop hn]
    by_cases h0 : n = 0
    · subst h0
      rw [if_pos rfl]
      (have F := And.intro @q1 (And.intro @rb @hn); refine gG ?_; clear F)
      (have F := @q4; refine gG ?_; exact ⟨x + 1, ⟨hlt, rfl⟩, gw, gw, by omega⟩)
    · have q2 : (n = 0) = False := eq_false h0
      rw [if_neg h0]
      (have F := And.intro @q1 (And.intro @rb (And.intro @hn @q2)); refine gG ?_; exact gTd)
  · obtain rfl : x = l.length := by omega
    have q1 : ((l.length : Int) < (l.length : Int)) = False := eq_false (by omega)
    rw [List.drop_length]
    simp only [firstNZ]
    (have F := @q1; refine gG ?_; exact gTd)
theorem cmpTms_nilL {b : List Tm} {k : Nat} {xs : List Tm} (h : xs.length ≤ k) : cmpTms (xs.drop k) b = if b = [] then 0 else -1 := by
  rw [List.drop_eq_nil_of_le h]
  cases b with
  | nil => simp [cmpTms]
  | cons x xs => simp [cmpTms]
theorem cmpTms_nilR {a : Tm} {k : Nat} {xs bs : List Tm} (ha : xs[k]? = some a) (h : bs.length ≤ k) : cmpTms (xs.drop k) (bs.drop k) = 1 := by
  obtain ⟨hl, hx⟩ := List.getElem?_eq_some_iff.1 ha
  rw [List.drop_eq_nil_of_le h, List.drop_eq_getElem_cons hl]
  simp [cmpTms]
set_option maxHeartbeats 4000000 in
theorem con_cmpFunc1_of (xs bs : List Tm) (hla : xs.length ≤ maxLen) (hlb : bs.length ≤ maxLen) (h : ∀ a ∈ xs, ∀ b ∈ bs, Con e1 193 [.agg (encTm a), .agg (encTm b)] [.one (.lit (.int .i64 (cmpTm a b)))]) : Con e1 231 [.one (.sl (encTms xs)), .one (.sl (encTms bs)), .one (.fn 193 [])] [.one (.lit (.int .i64 (cmpTms xs bs)))] := by
  unfold maxLen at hla hlb
  refine gI (ts := [.slot 6]) 277027520455 Tryz.func231 ?_
  (have F := @tmz; refine gG ?_; clear F)
  (have F := @tmz; refine gL (ι := Nat) [6, 7, 8, 9, 10, 13, 14, 21, 31] [] (fun x => [(13, .d (.one (.lit (.int .i64 (x : Int)))))]) (fun x => []) (fun x => x ≤ xs.length ∧ x ≤ bs.length ∧ cmpTms xs bs = cmpTms (xs.drop x) (bs.drop x)) (fun x => xs.length - x) (0) (⟨Nat.zero_le _, Nat.zero_le _, rfl⟩) (fun x hx => ?_); clear F)
  obtain ⟨hi, hj, hf⟩ := hx
  rw [hf]
  clear hf
  by_cases hlt : x < xs.length
  · obtain ⟨a, ha⟩ : ∃ n, xs[x]? = some n := ⟨_, List.getElem?_eq_getElem hlt⟩
    have q1 : ((x : Int) < (xs.length : Int)) = True := eq_true (by omega)
    by_cases hlt2 : x < bs.length
    · obtain ⟨b, hb⟩ : ∃ n, bs[x]? = some n := ⟨_, List.getElem?_eq_getElem hlt2⟩
      have q2 : ((x : Int) ≥ (bs.length : Int)) = False := eq_false (by omega)
      have q4 : IntKind.i64.wrap ((x : Int) + 1) = (x : Int) + 1 := IntWalk.i64_in _ (by omega)
      rw [cmpTms_step ha hb]
      simp only [firstNZ]
      (have F := And.intro @q1 (And.intro @q2 (And.intro @tmz (And.intro @ha @hb))); refine gG ?_; clear F)
      refine gB ?_
      (have F := @tmz; refine gC (h a (List.mem_of_getElem? ha) b (List.mem_of_getElem? hb)) ?_; clear F)
      (have F := @tmz; refine gR ?_; clear F)
      by_cases h0 : cmpTm a b = 0
      · have q3 : (cmpTm a b = 0) = True := eq_true h0
        rw [if_pos h0, show (if cmpTms (xs.drop (x + 1)) (bs.drop (x + 1)) = 0 then (0 : Int) else cmpTms (xs.drop (x + 1)) (bs.drop (x + 1))) = cmpTms (xs.drop (x + 1)) (bs.drop (x + 1)) by split <;> simp_all]
        (have F := And.intro @tmz @q3; refine gG ?_; clear F)
        (have F := @q4; refine gG ?_; exact ⟨x + 1, ⟨hlt, hlt2, rfl⟩, gw, gw, by omega⟩)
      · have q3 : (cmpTm a b = 0) = False := eq_false h0
        rw [if_neg h0]
        (have F := And.intro @tmz @q3; refine gG ?_; exact gTd)
    · have q2 : ((x : Int) ≥ (bs.length : Int)) = True := eq_true (by omega)
      rw [cmpTms_nilR ha (by omega)]
      (have F := And.intro @q1 (And.intro @q2 (And.intro @tmz @ha)); refine gG ?_; exact gTd)
  · have q1 : ((x : Int) < (xs.length : Int)) = False := eq_false (by omega)
    rw [cmpTms_nilL (by omega)]
    by_cases h2 : xs.length < bs.length
    · have q2 : ((xs.length : Int) < (bs.length : Int)) = True := eq_true (by omega)
      rw [if_neg (by intro e; have := congrArg List.length e; simp at this; omega)]
      (have F := And.intro @q1 (And.intro @q2 @tmz); refine gG ?_; exact gTd)
    · have q2 : ((xs.length : Int) < (bs.length : Int)) = False := eq_false (by omega)
      rw [if_pos (by apply List.drop_eq_nil_of_le; omega)]
      (have F := And.intro @q1 (And.intro @q2 @tmz); refine gG ?_; exact gTd)
theorem rel_len {w : World} {S : Nat → Prop} {rows : List (List C)} {v : Value} (h : Rep w S (.sl rows) v) : rows.length ≤ maxLen := by
  simp only [Rep] at h
  obtain ⟨A, n, cap, _, h1, h2, h3, _⟩ := h
  omega
theorem con_cmpFunc1 (xs bs : List Tm) (h : ∀ a ∈ xs, ∀ b ∈ bs, Con e1 193 [.agg (encTm a), .agg (encTm b)] [.one (.lit (.int .i64 (cmpTm a b)))]) : Con e1 231 [.one (.sl (encTms xs)), .one (.sl (encTms bs)), .one (.fn 193 [])] [.one (.lit (.int .i64 (cmpTms xs bs)))] := by
  refine con_when (φ := xs.length ≤ maxLen ∧ bs.length ≤ maxLen) (by kernel_rfl) (fun w S vs hv => ?_) fun hφ => con_cmpFunc1_of xs bs hφ.1 hφ.2 h
  match vs, hv with
  | [x, y, z], hv =>
    have h1 := rel_len hv.1
    have h2 := rel_len hv.2.1
    rw [encTms_len] at h1 h2
    exact ⟨h1, h2⟩
set_option maxHeartbeats 4000000 in
theorem con_cmp1_of (a b : Tm) (h : ∀ x ∈ a.args, ∀ y ∈ b.args, Con e1 193 [.agg (encTm x), .agg (encTm y)] [.one (.lit (.int .i64 (cmpTm x y)))]) : Con e1 193 [.agg (encTm a), .agg (encTm b)] [.one (.lit (.int .i64 (cmpTm a b)))] := by
  obtain ⟨o, n, s, xs⟩ := a
  obtain ⟨o', n', s', bs⟩ := b
  simp only [Tm.args] at h
  have c1 : encTm (.mk o n s xs) = [.lit (.int .i64 o), .lit (.string n), .lit (.int .i64 s), .sl (encTms xs)] := by simp only [encTm]
  have c2 : encTm (.mk o' n' s' bs) = [.lit (.int .i64 o'), .lit (.string n'), .lit (.int .i64 s'), .sl (encTms bs)] := by simp only [encTm]
  have e3 : cmpTm (.mk o n s xs) (.mk o' n' s' bs) = if firstNZ [cmpInt o o', cmpStr n n', cmpInt s s'] = 0 then cmpTms xs bs else firstNZ [cmpInt o o', cmpStr n n', cmpInt s s'] := by
    simp only [cmpTm, firstNZ]
    by_cases h1 : cmpInt o o' = 0
    · by_cases h2 : cmpStr n n' = 0
      · by_cases h3 : cmpInt s s' = 0
        · simp only [h1, h2, h3, if_true]
          split <;> simp_all
        · simp only [h1, h2, h3, if_true, if_false]
      · simp only [h1, h2, if_true, if_false]
    · simp only [h1, if_false]
  have hor := con_cmpOr1 [cmpInt o o', cmpStr n n', cmpInt s s'] (by simp)
  simp only [List.map_cons, List.map_nil] at hor
  rw [e3]
  refine gI (ts := [.slot 4]) 16777279 Tryz.func193 ?_
  (have F := And.intro @c1 @c2; refine gG ?_; clear F)
  refine gB ?_
  (have F := And.intro @c1 @c2; refine gC (con_cmpI1 o o') ?_; clear F)
  (have F := And.intro @c1 @c2; refine gC (con_cmpS1 n n') ?_; clear F)
  (have F := And.intro @c1 @c2; refine gC (con_cmpI1 s s') ?_; clear F)
  (have F := And.intro @c1 @c2; refine gC (hor) ?_; clear F)
  (have F := And.intro @c1 @c2; refine gR ?_; clear F)
  by_cases h0 : firstNZ [cmpInt o o', cmpStr n n', cmpInt s s'] = 0
  · have q3 : (firstNZ [cmpInt o o', cmpStr n n', cmpInt s s'] = 0) = True := eq_true h0
    rw [if_pos h0]
    (have F := And.intro @q3 (And.intro @c1 @c2); refine gG ?_; clear F)
    refine gB ?_
    (have F := And.intro @c1 @c2; refine gC (con_cmpFunc1 xs bs h) ?_; clear F)
    (have F := And.intro @c1 @c2; refine gR ?_; clear F)
    (have F := And.intro @c1 @c2; refine gG ?_; exact gTd)
  · have q3 : (firstNZ [cmpInt o o', cmpStr n n', cmpInt s s'] = 0) = False := eq_false h0
    rw [if_neg h0]
    (have F := And.intro @q3 (And.intro @c1 @c2); refine gG ?_; exact gTd)
theorem con_cmp1_n (n : Nat) : ∀ a b : Tm, nodesRow (encTm a) < n → Con e1 193 [.agg (encTm a), .agg (encTm b)] [.one (.lit (.int .i64 (cmpTm a b)))] := by
  induction n with
  | zero => exact fun _ _ h => by omega
  | succ n ih =>
    intro a b hn
    refine con_cmp1_of a b fun x hx y hy => ih x y ?_
    obtain ⟨op, nm, so, args⟩ := a
    simp only [encTm, nodesRow, nodesC] at hn
    simp only [Tm.args] at hx
    obtain ⟨i, hi⟩ := List.getElem?_of_mem hx
    have hi' : (encTms args)[i]? = some (encTm x) := by rw [encTms_get, hi]; rfl
    have h1 := nodes_get hi'
    omega
theorem con_cmp1 (a b : Tm) : Con e1 193 [.agg (encTm a), .agg (encTm b)] [.one (.lit (.int .i64 (cmpTm a b)))] := con_cmp1_n _ a b (Nat.lt_succ_self _)
end Go.Proofs.YtofklmbljbkdaaaGreat
