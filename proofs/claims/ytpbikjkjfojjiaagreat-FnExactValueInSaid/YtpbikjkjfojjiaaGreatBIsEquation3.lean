/-
  Part 3 of a proof: Cmp4, Ints, Bits, Up, Map, Name, Sorts, Sorts2, Kinds, Te, List, Order, Decls, Axioms, Sgn, Tf, Tg, Decls2.
-/
import Derived.Test.YtpbikjkjfojjiaaGreatBIsEquation0
import Derived.Test.YtpbikjkjfojjiaaGreatBIsEquation1
import Derived.Test.YtpbikjkjfojjiaaGreatBIsEquation2
import Derived.Deep.RegionHeld3
import Derived.Deep.QuietTactic
import Derived.BigQuiet
import Derived.MapKept
import Derived.ChangeMaps5
import Derived.Laws.StructEq
import Derived.Deep.DeepCutAuto
import Derived.Lib.QuietBelow
set_option linter.unusedSimpArgs false
set_option linter.unusedVariables false
namespace Go.Proofs.YtpbikjkjfojjiaaGreat
open Go.RowKit
set_option maxHeartbeats 4000000 in
set_option maxRecDepth 100000 in
theorem specCompareTerms_of (a b : Tm) (h : ∀ (i : Nat) p q, a.args[i]? = some p → b.args[i]? = some q → cmpTmC 121 p q) : cmpTmC 121 a b := by
  intro S S' us us' w ha hb hv hv'
  obtain ⟨o, n, s, x⟩ := a
  obtain ⟨o', n', s', y⟩ := b
  simp only [encTm] at hv hv'
  obtain ⟨v3, rfl, e3⟩ := repVals_Term hv
  obtain ⟨v3', rfl, e3'⟩ := repVals_Term hv'
  simp only [okTm] at ha hb
  have HX := Lib.hid ha.2.2.2
  have HY := Lib.hid hb.2.2.2
  have H := Lib.hid h
  have hbW := ((Below.refl w.heap.size w).alloc (Nat.le_refl _) (.cells #[.int .i64 o, .string n, .int .i64 s, v3] 47)).alloc (by simp) (.cells #[.int .i64 o', .string n', .int .i64 s', v3'] 47)
  by_cases ho : o = o'
  case neg =>
    have ho1 : (o == o') = false := by simpa using ho
    have ho2 : (o != o') = true := by simpa using ho
    have hz : cmpInt o o' ≠ 0 := fun e => ho (cmpInt_zero.1 e)
    have HF : Hid (cmpTm (.mk o n s x) (.mk o' n' s' y) = cmpInt o o') := by show _ = _; simp only [cmpTm, firstNZ, if_neg hz]
    clear hz h H ha hb hv hv' e3 e3' ho
    by_cases hlt : o < o'
    · go_enter Tryz.func121, Tryz.ntmps121
      go_wp2
      go_ret
      exact ⟨ret_int (a := -1) (by rw [HF.out]; unfold cmpInt; rw [if_pos hlt]), hbW⟩
    · have HL := Lib.hid hlt
      go_enter Tryz.func121, Tryz.ntmps121
      go_wp2
      go_ret
      exact ⟨ret_int (a := 1) (by have h1 : o ≠ o' := by simpa using ho1
                                  have := HL.out
                                  rw [HF.out]; unfold cmpInt; rw [if_neg (by omega), if_pos (by omega)]), hbW⟩
  subst ho
  have hz0 : cmpInt o o = 0 := cmpInt_zero.2 rfl
  by_cases hn : n = n'
  case neg =>
    have hz : cmpStr n n' ≠ 0 := fun e => hn (cmpStr_zero.1 e)
    have HF : Hid (cmpTm (.mk o n s x) (.mk o n' s' y) = cmpStr n n') := by show _ = _; simp only [cmpTm, firstNZ, if_pos hz0, if_neg hz]
    clear h H ha hb hv hv' e3 e3' hz0
    have hn1 : (n.toList == n'.toList) = false := by
      simp only [beq_eq_false_iff_ne, ne_eq, ByteArray.toList_eq]
      intro e
      apply hn
      obtain ⟨⟨la⟩⟩ := n
      obtain ⟨⟨lb⟩⟩ := n'
      simp at e
      rw [e]
    have hlq : Op.bytesLess n.toList n'.toList = decide (cmpStr n n' = -1) := by rw [ByteArray.toList_eq, ByteArray.toList_eq]; exact compareBytes_less _ _
    have HZ := Lib.hid hz
    have HR := Lib.hid (cmpStr_range n n')
    clear hn hz
    by_cases hlt : cmpStr n n' = -1
    · have hl1 : Op.bytesLess n.toList n'.toList = true := by rw [hlq]; simpa using hlt
      have HLT := Lib.hid hlt
      clear hlq hlt
      go_enter Tryz.func121, Tryz.ntmps121
      go_wp2
      go_ret
      exact ⟨ret_int (a := -1) (by rw [HF.out, HLT.out]), hbW⟩
    · have hl1 : Op.bytesLess n.toList n'.toList = false := by rw [hlq]; simpa using hlt
      have HLT := Lib.hid hlt
      clear hlq hlt
      go_enter Tryz.func121, Tryz.ntmps121
      go_wp2
      go_ret
      exact ⟨ret_int (a := 1) (by rw [HF.out]; rcases HR.out with e | e | e
                                  · exact absurd e HLT.out
                                  · exact absurd e HZ.out
                                  · exact e.symm), hbW⟩
  subst hn
  have hz1 : cmpStr n n = 0 := cmpStr_zero.2 rfl
  by_cases hs : s = s'
  case neg =>
    have hs1 : (s == s') = false := by simpa using hs
    have hs2 : (s != s') = true := by simpa using hs
    have hz : cmpInt s s' ≠ 0 := fun e => hs (cmpInt_zero.1 e)
    have HF : Hid (cmpTm (.mk o n s x) (.mk o n s' y) = cmpInt s s') := by show _ = _; simp only [cmpTm, firstNZ, if_pos hz0, if_pos hz1, if_neg hz]
    clear hz h H ha hb hv hv' e3 e3' hs hz0 hz1
    by_cases hlt : s < s'
    · go_enter Tryz.func121, Tryz.ntmps121
      go_wp2
      go_ret
      exact ⟨ret_int (a := -1) (by rw [HF.out]; unfold cmpInt; rw [if_pos hlt]), hbW⟩
    · have HL := Lib.hid hlt
      go_enter Tryz.func121, Tryz.ntmps121
      go_wp2
      go_ret
      exact ⟨ret_int (a := 1) (by have h1 : s ≠ s' := by simpa using hs1
                                  have := HL.out
                                  rw [HF.out]; unfold cmpInt; rw [if_neg (by omega), if_pos (by omega)]), hbW⟩
  subst hs
  have HF : Hid (cmpTm (.mk o n s x) (.mk o n s y) = cmpTms x y) := by
    show _ = _
    simp only [cmpTm, firstNZ, if_pos hz0, if_pos hz1, if_pos (cmpInt_zero.2 (rfl : s = s))]
    split <;> simp_all
  obtain ⟨A, m, cap, rfl, hm, hmc, hcm⟩ := e3.form
  obtain ⟨A', m', cap', rfl, hm', hmc', hcm'⟩ := e3'.form
  rw [encTms_len] at hm hm'
  have HM := Lib.hid hm
  have HM' := Lib.hid hm'
  have HV := Lib.hid e3
  have HV' := Lib.hid e3'
  clear hz0 hz1 h ha hb hv hv' e3 e3' hm hm'
  unfold maxLen at hcm hcm'
  go_enter Tryz.func121, Tryz.ntmps121
  go_wp2
  generalize hW : (w.alloc _).alloc _ = W at hbW ⊢
  have p3 : W.cell? ⟨w.heap.size, 3, none⟩ = some (.slice A m cap) := by rw [← hW]; simp
  have q3 : W.cell? ⟨w.heap.size + 1, 3, none⟩ = some (.slice A' m' cap') := by rw [← hW]; simp
  have z0 : w.heap.size < W.heap.size := by rw [← hW]; simp; omega
  have z1 : w.heap.size + 1 < W.heap.size := by rw [← hW]; simp
  have HVW := Lib.hid (HV.out.below hbW)
  have HVW' := Lib.hid (HV'.out.below hbW)
  clear hW HV HV'
  go_loopw [5] (fun i wr => ∃ k : Nat, k ≤ m ∧ k ≤ m' ∧ i = .int .i64 k ∧ cmpTms x y = cmpTms (x.drop k) (y.drop k) ∧ Below W.heap.size W wr) (fun i _ => m - (intOf i).toNat)
  case atStart => exact ⟨0, Nat.zero_le _, Nat.zero_le _, rfl, rfl, Below.refl _ _⟩
  case round =>
    obtain ⟨k, hk, hk', rfl, hz, hb⟩ := hrel
    have HZ := Lib.hid hz
    clear hz
    obtain ⟨hcw, _⟩ := bcell hb
    have hbw' : Below w.heap.size w wr := hbW.trans (hb.mono hbW.size)
    by_cases hkm : k < m
    · obtain ⟨b, off, r, rfl, hS, hbz, hget, hokr, hrow⟩ := HVW.out.get (okRows_enc x HX.out) hkm
      obtain ⟨u0, u1, u2, u3, c0, c1, c2, c3, hvals⟩ := hrow.vals4 hokr.len
      rw [encTms_get] at hget
      obtain ⟨t, ht, rfl⟩ := Option.map_eq_some_iff.1 hget
      have HVALS := Lib.hid hvals
      have HT := Lib.hid ht
      clear hvals hokr hrow hget ht
      simp only [fieldsOf, termF, List.length_cons, List.length_nil, Nat.reduceAdd] at c0 c1 c2 c3
      have k0 : (0 : Int) ≤ (k : Int) := by omega
      have k1 : (k : Int) < (m : Int) := by omega
      have hd1 : decide (k < m) = true := by simpa using hkm
      by_cases hkm' : k < m'
      · obtain ⟨b', off', r', rfl, hS', hbz', hget', hokr', hrow'⟩ := HVW'.out.get (okRows_enc y HY.out) hkm'
        obtain ⟨x0, x1, x2, x3, d0, d1, d2, d3, hvals'⟩ := hrow'.vals4 hokr'.len
        rw [encTms_get] at hget'
        obtain ⟨t', ht', rfl⟩ := Option.map_eq_some_iff.1 hget'
        have HVALS' := Lib.hid hvals'
        have HT' := Lib.hid ht'
        clear hvals' hokr' hrow' hget' ht'
        simp only [fieldsOf, termF, List.length_cons, List.length_nil, Nat.reduceAdd] at d0 d1 d2 d3
        have k2 : (k : Int) < (m' : Int) := by omega
        have hd2 : decide (k < m') = true := by simpa using hkm'
        have HC := Lib.hid (H.out k t t' HT.out HT'.out)
        go_wp2_with fail
        go_region_held3 (fun w' => ∀ b o, b < W.heap.size → w'.cell? ⟨b, o, none⟩ = W.cell? ⟨b, o, none⟩) (first | exact fun b o h => (hb2.cell (p := ⟨b, o, none⟩) (Nat.lt_of_lt_of_le h hb.size)).trans (hcw b o h) | exact fun b o h => hcw b o h | go_keep)
          (first | (go_at_call 121; refine (HC.out S S' _ _ _ (HX.out.mem (List.mem_of_getElem? HT.out)) (HY.out.mem (List.mem_of_getElem? HT'.out)) (HVALS.out.below hb.drew) (HVALS'.out.below hb.drew)).mono ?_; rintro e w2 ⟨rfl, hb2⟩))
        have hbq : Below W.heap.size W w2 := hb.drew.trans (hb2.mono (show W.heap.size ≤ wr.heap.size from hb.size))
        have HST := Lib.hid (cmpTms_step HT.out HT'.out)
        generalize hc : cmpTm t t' = c at HST ⊢
        clear hc
        by_cases hc0 : c = 0
        · subst hc0
          go_wp2
          go_roundw
          case rel => exact ⟨k + 1, by omega, by omega, by go_num, by rw [HZ.out, HST.out, firstNZ2_zero rfl], hbq⟩
          case measure => simp [intOf]; omega
        · have hc1 : (c == 0) = false := by simpa using hc0
          have hc2 : (c != 0) = true := by simpa using hc0
          go_wp2
          go_ret
          exact ⟨ret_int (by rw [HF.out, HZ.out, HST.out, firstNZ2_nz hc0]), hbW.trans (hbq.mono hbW.size)⟩
      · have hd2 : decide (k < m') = false := by simpa using hkm'
        have hmm : ¬ m < m' := by omega
        have hmm2 : m' < m := by omega
        go_wp2
        go_ret
        refine ⟨ret_int (a := 1) ?_, hbw'⟩
        rw [HF.out, HZ.out]
        have e2 : y.drop k = [] := List.drop_eq_nil_of_le (by have := HM'.out; omega)
        have e1 : x.drop k = t :: x.drop (k + 1) := by
          obtain ⟨hl, hx⟩ := List.getElem?_eq_some_iff.1 HT.out
          rw [← hx]; exact List.drop_eq_getElem_cons hl
        rw [e1, e2, cmpTms]
    · have e1 : Hid (x.drop k = []) := Lib.hid (List.drop_eq_nil_of_le (by have := HM.out; omega))
      have hd1 : decide (k < m) = false := by simpa using hkm
      by_cases hlt : m < m'
      · go_wp2
        go_ret
        refine ⟨ret_int (a := -1) ?_, hbw'⟩
        have hl : k < y.length := by have := HM'.out; omega
        rw [HF.out, HZ.out, e1.out, List.drop_eq_getElem_cons hl, cmpTms]
      · have hlt2 : ¬ m' < m := by omega
        go_wp2
        go_ret
        refine ⟨ret_int (a := 0) ?_, hbw'⟩
        rw [HF.out, HZ.out, e1.out, List.drop_eq_nil_of_le (by have := HM'.out; omega), cmpTms]
theorem specCompareTerms_all (n : Nat) : ∀ a b, sizeTm a < n → cmpTmC 121 a b := by
  induction n with
  | zero => intro a b h; omega
  | succ n ih =>
    intro a b h
    refine specCompareTerms_of a b (fun i p q hp hq => ih p q ?_)
    have h1 := sizeTms_get hp
    cases a
    cases p
    simp only [sizeTm, Tm.args] at h h1 ⊢
    omega
theorem specCompareTerms (a b : Tm) : cmpTmC 121 a b := specCompareTerms_all _ a b (Nat.lt_succ_self _)
end Go.Proofs.YtpbikjkjfojjiaaGreat

namespace Go.Proofs.YtpbikjkjfojjiaaGreat
open Go.RowKit

/-- The slice v, made by the call (blocks from base on), holds the numbers l. -/
def Ints (w : World) (base : Nat) (v : Value) (l : List Int) : Prop := w.ownsRow base 3 1 v l.length (l.map (Value.int .i64))
section
variable {w w' : World} {base : Nat} {v : Value} {l : List Int}
theorem Ints.form (h : Ints w base v l) : ∃ A cap, v = .slice A l.length cap ∧ l.length ≤ cap ∧ cap ≤ maxLen ∧ (0 < l.length → ∃ g, A = some ⟨g, 0, none⟩ ∧ base ≤ g ∧ g < w.heap.size) := by
  obtain ⟨_, h⟩ := h
  rcases h with ⟨rfl, h0⟩ | ⟨g, cap, cur, rfl, hb, hg, hc, hm, _⟩
  · exact ⟨none, 0, by rw [h0], by omega, by simp [maxLen], fun h => by omega⟩
  · exact ⟨_, cap, rfl, hc, hm, fun _ => ⟨g, rfl, hb, (Array.getElem?_eq_some_iff.1 hg).1⟩⟩
theorem Ints.cell {g n cap : Nat} (h : Ints w base (.slice (some ⟨g, 0, none⟩) n cap) l) {i : Nat} {x : Int} (hx : l[i]? = some x) : w.cell? ⟨g, i, none⟩ = some (.int .i64 x) := by
  have := World.ownsRow.cells h (g := g) rfl i (.int .i64 x) (by rw [List.getElem?_map, hx]; rfl)
  rw [← this]
  congr 1
  unfold Addr.add
  split <;> simp_all
theorem Ints.frozen {g n cap : Nat} (h : Ints w base (.slice (some ⟨g, 0, none⟩) n cap) l) (o : Nat) : w.frozen? ⟨g, o, none⟩ = false := by
  obtain ⟨_, h⟩ := h
  rcases h with ⟨h, _⟩ | ⟨g', cap', cur, h, hb, hg, _⟩
  · cases h
  · injection h with h1
    injection h1 with h1
    injection h1 with h1
    subst h1
    exact frozen_of_row w _ o cur _ hg
theorem Ints.set {g n cap : Nat} (h : Ints w base (.slice (some ⟨g, 0, none⟩) n cap) l) {i : Nat} (hi : i < l.length) (x : Int) : Ints (w.setCell ⟨g, i, none⟩ (.int .i64 x)) base (.slice (some ⟨g, 0, none⟩) n cap) (l.set i x) := by
  obtain ⟨h0, h⟩ := h
  refine ⟨by simp, .inr ?_⟩
  rcases h with ⟨h, _⟩ | ⟨g', cap', cur, hv, hb, hg, hc, hm, hs, ht⟩
  · cases h
  · injection hv with h1 h2 h3
    injection h1 with h1
    injection h1 with h1
    subst h1
    subst h2 h3
    refine ⟨g, cap, cur.set! i (.int .i64 x), by simp, hb, ?_, by simpa using hc, hm, by simpa using hs, ?_⟩
    · unfold World.setCell
      simp [Array.getElem?_modify, hg]
    · simp only [List.length_set, Nat.mul_one] at ht ⊢
      rw [Array.set!_eq_setIfInBounds, Array.toList_setIfInBounds, List.take_set, ht, List.map_set]
theorem Ints.rep (h : Ints w base v l) : Rep w (fun b => base ≤ b) (.sl (l.map encInt)) v := by
  obtain ⟨A, cap, rfl, hc, hm, hg⟩ := h.form
  simp only [Rep]
  refine ⟨A, _, cap, rfl, by simp, hc, hm, fun h0 => ?_⟩
  obtain ⟨g, rfl, hb, hz⟩ := hg h0
  refine ⟨g, 0, rfl, hb, hz, ?_⟩
  have hall : ∀ (m : List Int) (off : Nat), (∀ i x, m[i]? = some x → w.cell? ⟨g, off + i, none⟩ = some (.int .i64 x)) → RepRows w (fun b => base ≤ b) g off (m.map encInt) := by
    intro m
    induction m with
    | nil => intro off _; simp [RepRows]
    | cons a m ih =>
      intro off hm
      simp only [List.map_cons, RepRows, encInt, RepRow, and_true, List.length_cons, List.length_nil, Nat.zero_add]
      refine ⟨⟨_, hm 0 a rfl, by simp [Rep]⟩, ih (off + 1) (fun i x hx => ?_)⟩
      have := hm (i + 1) x (by simpa using hx)
      rw [← this]
      congr 2
      omega
  exact hall l 0 (fun i x hx => by simpa using h.cell hx)
theorem Ints.below (h : Ints w base v l) (hb : Below w.heap.size w w') : Ints w' base v l := by
  refine World.ownsRow.kept (row := none) h ⟨hb.os, hb.tape, hb.output, hb.size, fun k hk _ => hb.block k hk⟩ ?_
  cases hv : v.ownBlock <;> simp
theorem Ints.base_le {base' : Nat} (h : Ints w base v l) (hb : base' ≤ base) : Ints w base' v l := by
  refine ⟨h.1, ?_⟩
  rcases h.2 with h | ⟨g, cap, cur, h1, h2, h3⟩
  · exact .inl h
  · exact .inr ⟨g, cap, cur, h1, by omega, h3⟩
theorem Ints.empty (w : World) : Ints (w.alloc (.cells #[] 3)) w.heap.size (.slice (some ⟨w.heap.size, 0, none⟩) 0 0) [] :=
  ⟨by simp, .inr ⟨w.heap.size, 0, #[], rfl, Nat.le_refl _, heap_alloc_new w _, Nat.le_refl _, by simp [maxLen], rfl, rfl⟩⟩
theorem Ints.drew (h : Ints w base v l) : Ints w.drew base v l := h
theorem Ints.alloc (h : Ints w base v l) (o : Obj) : Ints (w.alloc o) base v l := World.ownsRow.alloc h o
theorem Ints.lt (h : Ints w base v l) : ∀ k, v.ownBlock = some k → base ≤ k ∧ k < w.heap.size := World.ownsRow.lt h
end
/-- A number appended to a slice of the call's own. -/
theorem wpList_app_int {P : Program} {ops : Array Oper} {rest : List Oper} {o : Oper} {a : Act} {w : World} {Q : Exit → Act → World → Prop} (hgd : o.guard = none) (s x : Operand) (t : TypeId)
    (ho : o.op = .call { callee := .builtin .append, args := #[s, x], argTypes := #[t, t] }) (i : TypeInfo) (ht : P.underlying t = some (.slice 3)) (hi : P.info? 3 = some i) (hz : i.zero = some (.int .i64 0)) (hsize : i.size = 1) (hby : i.bytes = 8)
    (base : Nat) (v : Value) (l : List Int) (hs : a.eval s = v) (w0 : World) (u : Int) (t' : TypeId) (hw : w = w0.alloc (.cells #[.int .i64 u] t')) (hown : Ints w0 base v l) (hx : a.eval x = .slice (some ⟨w0.heap.size, 0, none⟩) 1 1) (hl : l.length ≤ 1099511627776) (hbase : base ≤ w0.heap.size)
    (h : ∀ v' w', Ints w' base v' (l ++ [u]) → (∀ B, B ≤ base → Below B w0 w') → wpList P ops Q rest (a.put o.dst v') w') : wpList P ops Q (o :: rest) a w := by
  subst hw
  refine wpList_append_own _ hgd s x t ho base 3 i (.int .i64 0) 1 8 ht hi hz hsize hby rfl (by decide) v _ _ hs (World.ownsRow.alloc hown _) ⟨w0.heap.size, 0, none⟩ 1 1 [.int .i64 u] hx rfl ?_ ?_ (by unfold maxLen; omega) (by omega) (by simp; omega) ?_
  · intro j y hj
    match j, hj with
    | 0, hj => simp at hj; subst hj; simp [Addr.add]
  · intro y hy
    simp at hy
    subst hy
    rfl
  · intro v' w' h1 h2 _
    refine h v' w' ?_ (fun B hB => ?_)
    · unfold Ints
      simpa using h1
    · refine (((Below.refl B w0).alloc (by omega) _).grown h2 (by simp; omega) ?_)
      intro k hk
      have := Ints.lt hown k hk
      omega
end Go.Proofs.YtpbikjkjfojjiaaGreat

namespace Go.Proofs.YtpbikjkjfojjiaaGreat
open Go.RowKit

theorem wrap_i64 {n : Int} (h0 : 0 ≤ n) (h1 : n < 9223372036854775808) : IntKind.i64.wrap n = n := by
  simp [IntKind.wrap, IntKind.bits, IntKind.signed]
  omega
theorem bv_nat {a : Nat} (h : a < 18446744073709551616) : (BitVec.ofInt 64 (a : Int)).toNat = a := by
  rw [BitVec.toNat_ofInt]
  omega
theorem bits_or {a b : Nat} (ha : a < 4611686018427387904) (hb : b < 4611686018427387904) : bits .or .i64 (a : Int) (b : Int) = ((a ||| b : Nat) : Int) := by
  have h : a ||| b < 2 ^ 62 := Nat.or_lt_two_pow (by omega) (by omega)
  have e : (BitVec.ofInt IntKind.i64.bits (a : Int) ||| BitVec.ofInt IntKind.i64.bits (b : Int)).toNat = a ||| b := by
    rw [BitVec.toNat_or]
    show (BitVec.ofInt 64 (a : Int)).toNat ||| (BitVec.ofInt 64 (b : Int)).toNat = _
    rw [bv_nat (by omega), bv_nat (by omega)]
  unfold bits
  show IntKind.i64.wrap _ = _
  rw [e]
  exact wrap_i64 (by omega) (by omega)
theorem bits_and {a b : Nat} (ha : a < 4611686018427387904) (hb : b < 4611686018427387904) : bits .and .i64 (a : Int) (b : Int) = ((a &&& b : Nat) : Int) := by
  have h : a &&& b < 2 ^ 62 := Nat.and_lt_two_pow _ (by omega)
  have e : (BitVec.ofInt IntKind.i64.bits (a : Int) &&& BitVec.ofInt IntKind.i64.bits (b : Int)).toNat = a &&& b := by
    rw [BitVec.toNat_and]
    show (BitVec.ofInt 64 (a : Int)).toNat &&& (BitVec.ofInt 64 (b : Int)).toNat = _
    rw [bv_nat (by omega), bv_nat (by omega)]
  unfold bits
  show IntKind.i64.wrap _ = _
  rw [e]
  exact wrap_i64 (by omega) (by omega)
theorem pow_lt62 {k : Nat} (h : k < 62) : 2 ^ k < 4611686018427387904 := Nat.lt_of_lt_of_le (Nat.pow_lt_pow_right (by omega) h) (by omega)
theorem shl_one {k : Nat} (h : k < 62) : wrap64 (2 ^ k) = ((2 ^ k : Nat) : Int) := by
  have h1 := pow_lt62 h
  have e : (2 : Int) ^ k = ((2 ^ k : Nat) : Int) := by simp
  rw [e]
  generalize 2 ^ k = p at h1 ⊢
  unfold wrap64
  omega
theorem testBit_and (a k : Nat) : ((a &&& 2 ^ k) != 0) = a.testBit k := by
  cases h : a.testBit k
  · have : a &&& 2 ^ k = 0 := by
      apply Nat.eq_of_testBit_eq
      intro j
      rw [Nat.testBit_and, Nat.testBit_two_pow, Nat.zero_testBit]
      by_cases hj : k = j
      · subst hj; simp [h]
      · simp [hj]
    simp [this]
  · have : ¬ (a &&& 2 ^ k = 0) := by
      intro h0
      have h1 : (a &&& 2 ^ k).testBit k = true := by rw [Nat.testBit_and, Nat.testBit_two_pow]; simp [h]
      rw [h0, Nat.zero_testBit] at h1
      simp at h1
    simp [this]
theorem testBit_shr {a k : Nat} (ha : a < 4611686018427387904) : (bits .and .i64 ((a : Int) / 2 ^ k) 1 == 1) = a.testBit k := by
  have e : (a : Int) / 2 ^ k = ((a / 2 ^ k : Nat) : Int) := by simp
  have h1 : a / 2 ^ k ≤ a := Nat.div_le_self _ _
  have h2 : bits .and .i64 ((a / 2 ^ k : Nat) : Int) ((1 : Nat) : Int) = _ := bits_and (by omega) (by omega)
  rw [e]
  rw [show (1 : Int) = ((1 : Nat) : Int) from rfl, h2, Nat.testBit, Nat.shiftRight_eq_div_pow, Nat.and_comm]
  have h3 : 1 &&& a / 2 ^ k < 2 := by rw [Nat.one_and_eq_mod_two]; omega
  generalize 1 &&& a / 2 ^ k = x at h3 ⊢
  have : x = 0 ∨ x = 1 := by omega
  rcases this with rfl | rfl <;> rfl

theorem specIn (x lo hi : Int) (w : World) : Calls Tryz.prog 64 #[.int .i64 x, .int .i64 lo, .int .i64 hi] w fun e w' => e = .returned (.bool (decide (lo ≤ x ∧ x ≤ hi))) ∧ w = w' := by
  go_enter Tryz.func64, Tryz.ntmps64
  go_wp2
  all_goals
    go_ret
    exact ⟨ret_bool (by rw [Bool.eq_iff_iff]; simp; try omega), rfl⟩
theorem specMin (a b : Int) (w : World) : Calls Tryz.prog 163 #[.int .i64 a, .int .i64 b] w fun e w' => e = .returned (.int .i64 (min a b)) ∧ w = w' := by
  go_enter Tryz.func163, Tryz.ntmps163
  go_wp2
  all_goals
    go_ret
    exact ⟨ret_int (by omega), rfl⟩
theorem specBit (k : Nat) (hk : k < 62) (w : World) : Calls Tryz.prog 162 #[.int .i64 k] w fun e w' => e = .returned (.int .i64 ((2 ^ k : Nat) : Int)) ∧ w = w' := by
  go_enter Tryz.func162, Tryz.ntmps162
  go_wp2
  all_goals
    go_ret
    exact ⟨ret_int (shl_one hk), rfl⟩
theorem specHas (a k : Nat) (ha : a < 4611686018427387904) (hk : k < 16) (w : World) : Calls Tryz.prog 134 #[.int .i64 a, .int .i64 k] w fun e w' => e = .returned (.bool (a.testBit k)) ∧ w = w' := by
  go_enter Tryz.func134, Tryz.ntmps134
  go_wp2
  all_goals
    go_ret
    exact ⟨ret_bool (testBit_shr ha), rfl⟩
end Go.Proofs.YtpbikjkjfojjiaaGreat

namespace Go.Proofs.YtpbikjkjfojjiaaGreat
open Go.RowKit

def upSub (l : List Nat) (p : Int × Int) : List Nat := l.set p.1.toNat (l.getD p.1.toNat 0 ||| l.getD p.2.toNat 0)
def upRound (subs : List (Int × Int)) (l : List Nat) : List Nat := subs.foldl upSub l
def upIter (subs : List (Int × Int)) : Nat → List Nat → List Nat
  | 0, l => l
  | k + 1, l => upRound subs (upIter subs k l)
def up0 (n : Nat) : List Nat := (List.range n).map (2 ^ ·)
def up (s : Srt) : List Nat := upIter s.subs s.names.length (up0 s.names.length)
def casts (l : List Nat) : List Int := l.map (fun (n : Nat) => (n : Int))
def SubsIn (n : Nat) (subs : List (Int × Int)) : Prop := ∀ p ∈ subs, 0 ≤ p.1 ∧ p.1 < n ∧ 0 ≤ p.2 ∧ p.2 < n
def UpOk (n : Nat) (l : List Nat) : Prop := l.length = n ∧ ∀ x ∈ l, x < 2 ^ n
theorem UpOk.get {n : Nat} {l : List Nat} (h : UpOk n l) {i : Nat} (hi : i < n) : l[i]? = some (l.getD i 0) ∧ l.getD i 0 < 2 ^ n := by
  have hl : i < l.length := by rw [h.1]; exact hi
  have e : l[i]? = some l[i] := List.getElem?_eq_getElem hl
  have e2 : l.getD i 0 = l[i] := by simp [List.getD, e]
  rw [e2]
  exact ⟨e, h.2 _ (List.getElem_mem hl)⟩
theorem UpOk.sub {n : Nat} {l : List Nat} (h : UpOk n l) {p : Int × Int} (hp : 0 ≤ p.1 ∧ p.1 < n ∧ 0 ≤ p.2 ∧ p.2 < n) : UpOk n (upSub l p) := by
  refine ⟨by unfold upSub; rw [List.length_set]; exact h.1, fun x hx => ?_⟩
  unfold upSub at hx
  rcases List.mem_or_eq_of_mem_set hx with hx | rfl
  · exact h.2 x hx
  · exact Nat.or_lt_two_pow (h.get (i := p.1.toNat) (by omega)).2 (h.get (i := p.2.toNat) (by omega)).2
theorem UpOk.foldl {n : Nat} : ∀ {subs : List (Int × Int)} {l : List Nat}, UpOk n l → SubsIn n subs → UpOk n (subs.foldl upSub l)
  | [], l, h, _ => h
  | p :: ps, l, h, hs => UpOk.foldl (subs := ps) (h.sub (hs p (by simp))) (fun q hq => hs q (by simp [hq]))
theorem UpOk.iter {n : Nat} {subs : List (Int × Int)} (hs : SubsIn n subs) : ∀ (k : Nat) {l : List Nat}, UpOk n l → UpOk n (upIter subs k l)
  | 0, l, h => h
  | k + 1, l, h => (UpOk.iter hs k h).foldl hs
theorem UpOk.start (n : Nat) : UpOk n (up0 n) := by
  refine ⟨by simp [up0], fun x hx => ?_⟩
  simp only [up0, List.mem_map, List.mem_range] at hx
  obtain ⟨i, hi, rfl⟩ := hx
  exact Nat.pow_lt_pow_right (by omega) hi
theorem up_ok {s : Srt} (h : SubsIn s.names.length s.subs) : UpOk s.names.length (up s) := UpOk.iter h _ (UpOk.start _)
theorem foldl_take {α β : Type} {f : β → α → β} {l : List α} {k : Nat} {a : α} (h : l[k]? = some a) (b : β) : (l.take (k + 1)).foldl f b = f ((l.take k).foldl f b) a := by
  rw [take_snoc h, List.foldl_append]; rfl
theorem SubsIn.take {n : Nat} {subs : List (Int × Int)} (h : SubsIn n subs) (k : Nat) : SubsIn n (subs.take k) := fun p hp => h p (List.mem_of_mem_take hp)
theorem casts_len (l : List Nat) : (casts l).length = l.length := by simp [casts]
theorem casts_get {l : List Nat} {i x : Nat} (h : l[i]? = some x) : (casts l)[i]? = some (x : Int) := by simp [casts, h]
theorem casts_set (l : List Nat) (i x : Nat) : casts (l.set i x) = (casts l).set i (x : Int) := by simp [casts, List.map_set]
theorem casts_snoc (l : List Nat) (x : Nat) : casts (l ++ [x]) = casts l ++ [(x : Int)] := by simp [casts]
/-- The slice holds the numbers, of which the first k are as they shall be. -/
theorem up0_take {n k : Nat} (h : k ≤ n) : up0 k = (up0 n).take k := by
  unfold up0
  rw [← List.map_take, List.take_range]
  congr 2
  omega

def fill0 (n k : Nat) : List Nat := up0 k ++ List.replicate (n - k) 0
theorem fill0_len {n k : Nat} (h : k ≤ n) : (fill0 n k).length = n := by simp [fill0, up0]; omega
theorem fill0_set {n k : Nat} (h : k < n) : (fill0 n k).set k (2 ^ k) = fill0 n (k + 1) := by
  unfold fill0
  have e : n - k = (n - (k + 1)) + 1 := by omega
  have e2 : up0 (k + 1) = up0 k ++ [2 ^ k] := by simp [up0, List.range_succ]
  have e3 : (up0 k).length = k := by simp [up0]
  rw [e, List.replicate_succ, List.set_append_right _ _ (by omega), e3, Nat.sub_self, List.set_cons_zero, e2, List.append_assoc]
  rfl
theorem fill0_end (n : Nat) : fill0 n n = up0 n := by simp [fill0]
theorem made_ints (n : Nat) : (madeCells #[Value.int .i64 0] n).toList = (casts (List.replicate n 0)).map (Value.int .i64) := by
  rw [toList_madeCells_one]
  simp [casts]
theorem Ints.made (w : World) (n : Nat) (h : n ≤ maxLen) : Ints (w.alloc (.cells (madeCells #[Value.int .i64 0] n) 3)) w.heap.size (.slice (some ⟨w.heap.size, 0, none⟩) n n) (casts (List.replicate n 0)) := by
  refine ⟨by simp, .inr ⟨w.heap.size, n, _, by simp [casts], Nat.le_refl _, heap_alloc_new w _, by simp [casts], h, by simp [size_madeCells], ?_⟩⟩
  rw [List.take_of_length_le (by simp [size_madeCells, casts]), made_ints]
def sortsAboveC (f : FuncId) : Prop := ∀ (s : Srt) (S : Nat → Prop) (us : List Value) (w : World), okSrt s → RepVals w S (encSrt s) us → 1 ≤ s.names.length → s.names.length ≤ 8 → SubsIn s.names.length s.subs →
  Calls Tryz.prog f #[.agg us.toArray] w fun e w' => ∃ v, e = .returned v ∧ Ints w' w.heap.size v (casts (up s)) ∧ Below w.heap.size w w'
theorem info_Sub' : (Tryz.prog.info? 192).map (fun i => (i.zero, i.size, i.bytes)) = some (some (.agg #[.int .i64 0, .int .i64 0]), 2, 16) := by kernel_rfl
set_option maxHeartbeats 2000000 in
set_option maxRecDepth 100000 in
theorem implSortsAbove : sortsAboveC 147 := by
  intro s S us w hok hv hn1 hn hin
  obtain ⟨names, subs⟩ := s
  simp only [encSrt] at hv
  obtain ⟨v0, v1, rfl, e0, e1⟩ := repVals_Sorts hv
  obtain ⟨A0, cap0, rfl, hc0, hm0⟩ := e0.shape
  obtain ⟨A1, cap1, rfl, hc1, hm1⟩ := e1.shape
  obtain ⟨i0, hi, hz0, hz1, hz2⟩ := info_parts info_Int
  obtain ⟨ic, hci, _, hcs, _⟩ := info_parts info_Sub'
  have HIN := Lib.hid hin
  have HOK := Lib.hid hok
  have E1 := Lib.hid e1
  have HF : Hid (up ⟨names, subs⟩ = upIter subs names.length (up0 names.length)) := rfl
  clear hv e0 e1 hok hin
  generalize hN : names.length = n at *
  generalize hM : subs.length = m at *
  clear hN
  have HM := Lib.hid hM
  clear hM
  unfold maxLen at hm0 hm1
  have hmk := run_make (P := Tryz.prog) (w.alloc (.cells #[.slice A0 n cap0, .slice A1 m cap1] 40)) 69 3 i0 _ Tryz.underlying69 hi hz0 .i64 .i64 (n : Int) (n : Int) (by omega) (by omega) (by rw [hz2]; omega) (by omega)
  go_enter Tryz.func147, Tryz.ntmps147
  go_wp2
  clear hmk
  generalize hW : w.alloc _ = W
  have hbW : Below w.heap.size w W := by rw [← hW]; exact (Below.refl _ _).alloc (Nat.le_refl _) _
  have p1 : W.cell? ⟨w.heap.size, 1, none⟩ = some (.slice A1 m cap1) := by rw [← hW]; simp
  have z1 : w.heap.size + 1 = W.heap.size := by rw [← hW]; simp
  clear hW
  rw [z1]
  go_loopw [13] (fun i wr => ∃ k : Nat, k ≤ n ∧ i = .int .i64 k ∧ Ints wr W.heap.size (.slice (some ⟨W.heap.size, 0, none⟩) n n) (casts (fill0 n k)) ∧ Below W.heap.size W wr) (fun i _ => n - (intOf i).toNat)
  case atStart => exact ⟨0, Nat.zero_le _, rfl, by simpa [fill0, up0] using Ints.made W n (by unfold maxLen; omega), (Below.refl _ _).alloc (Nat.le_refl _) _⟩
  case round =>
    obtain ⟨k, hk, rfl, hI, hb⟩ := hrel
    by_cases hkm : k < n
    · have hcell : ∃ x : Int, wr.cell? ⟨W.heap.size, k, none⟩ = some (.int .i64 x) := by
        have : k < (casts (fill0 n k)).length := by rw [casts_len, fill0_len (by omega)]; exact hkm
        exact ⟨_, hI.cell (List.getElem?_eq_getElem this)⟩
      obtain ⟨x, hcell⟩ := hcell
      have hfr := hI.frozen k
      have HI := Lib.hid hI
      clear hI
      go_wp2
      go_roundw
      case rel =>
        refine ⟨k + 1, by omega, by go_num, ?_, hb.setCell (Nat.le_refl _) _⟩
        rw [shl_one (by omega), ← fill0_set hkm, casts_set]
        exact HI.out.set (by rw [casts_len, fill0_len (by omega)]; exact hkm) _
      case measure => simp [intOf]; omega
    · obtain rfl : n = k := by omega
      rw [fill0_end] at hI
      have HI := Lib.hid hI
      clear hI
      go_wp2
      have hb1 := hb
      clear hb
      go_loopw [24] (fun i wr => ∃ j : Nat, j ≤ n ∧ i = .int .i64 j ∧ Ints wr W.heap.size (.slice (some ⟨W.heap.size, 0, none⟩) n n) (casts (upIter subs j (up0 n))) ∧ Below W.heap.size W wr) (fun i _ => n - (intOf i).toNat)
      case atStart => exact ⟨0, Nat.zero_le _, rfl, HI.out, hb1⟩
      case round =>
        obtain ⟨j, hj, rfl, hI, hb⟩ := hrel
        by_cases hjn : j < n
        · have pw := (hb.cell (p := ⟨w.heap.size, 1, none⟩) (show w.heap.size < W.heap.size by omega)).trans p1
          have HI2 := Lib.hid hI
          clear hI
          go_wp2
          have hb2 := hb
          clear hb pw
          go_loopw [29] (fun i wr => ∃ k : Nat, k ≤ m ∧ i = .int .i64 k ∧ Ints wr W.heap.size (.slice (some ⟨W.heap.size, 0, none⟩) n n) (casts ((subs.take k).foldl upSub (upIter subs j (up0 n)))) ∧ Below W.heap.size W wr) (fun i _ => m - (intOf i).toNat)
          case atStart => exact ⟨0, Nat.zero_le _, rfl, HI2.out, hb2⟩
          case round =>
            obtain ⟨k, hk, rfl, hI, hb⟩ := hrel
            have HI3 := Lib.hid hI
            clear hI
            by_cases hkm : k < m
            · obtain ⟨p, hp⟩ : ∃ p, subs[k]? = some p := ⟨_, List.getElem?_eq_getElem (by have := HM.out; omega)⟩
              obtain ⟨b, off, rfl, hS, hbz, hrow⟩ := Rep.at okSubR HOK.out.2 (E1.out.below (hbW.trans (hb.mono hbW.size))) hp
              obtain ⟨g0, g1, g2, g3⟩ := HIN.out p (List.mem_of_getElem? hp)
              obtain ⟨lo, hi'⟩ := p
              simp only [encSub, RepRow, and_true, fieldsOf, List.length_cons, List.length_nil, Nat.reduceAdd, Rep.lit_iff] at hrow
              obtain ⟨⟨_, c0, rfl⟩, ⟨_, c1, rfl⟩⟩ := hrow
              simp only at g0 g1 g2 g3
              obtain ⟨lo, rfl⟩ := Int.eq_ofNat_of_zero_le g0
              obtain ⟨hi', rfl⟩ := Int.eq_ofNat_of_zero_le g2
              have hup := (UpOk.iter HIN.out j (UpOk.start n)).foldl (HIN.out.take k)
              have HL := Lib.hid hup.1
              obtain ⟨r0, t0⟩ := hup.get (i := lo) (by omega)
              obtain ⟨r1, t1⟩ := hup.get (i := hi') (by omega)
              have HST := Lib.hid (foldl_take (f := upSub) hp (upIter subs j (up0 n)))
              generalize hG : (subs.take k).foldl upSub (upIter subs j (up0 n)) = G at *
              have d0 := HI3.out.cell (casts_get r0)
              have d1 := HI3.out.cell (casts_get r1)
              have f0 := HI3.out.frozen lo
              have hlt : W.heap.size < wr.heap.size := (HI3.out.lt _ rfl).2
              have hb256 : 2 ^ n ≤ 2 ^ 8 := Nat.pow_le_pow_right (by omega) hn
              have HX : Hid (G.getD lo 0 < 4611686018427387904 ∧ G.getD hi' 0 < 4611686018427387904) := ⟨by omega, by omega⟩
              have HU : Hid (upSub G (lo, hi') = G.set lo (G.getD lo 0 ||| G.getD hi' 0)) := by show _ = _; simp [upSub]
              clear hup t0 t1 r0 r1 hG hb256 hp
              generalize G.getD lo 0 = x0 at *
              generalize G.getD hi' 0 = x1 at *
              go_wp2_with (refine wpList_store_new rfl 192 _ _ rfl _ _ _ rfl _ rfl (by simp) [.int .i64 lo, .int .i64 hi'] rfl ic hci hcs rfl (by simp [Value.oneCell']) ?_)
              (refine wp_region_still_tail 15 (by kernel_rfl) (by kernel_rfl) ?_
               simp only [List.take_succ_cons, List.take_zero, List.drop_succ_cons, List.drop_zero]
               change wpStill _ _ (World.drew _) _ _ _
               repeat still_step
               refine wpStill_nil ?_
               change wpList _ _ _ _ _ (World.drew _))
              go_wp2
              go_roundw
              case rel =>
                refine ⟨k + 1, by omega, by go_num, ?_, ?_⟩
                · rw [HST.out, HU.out, casts_set, bits_or HX.out.1 HX.out.2]
                  have hln : lo < (casts G).length := by rw [casts_len, HL.out]; omega
                  first
                    | exact ((HI3.out.set hln _).alloc _).drew
                    | exact ((HI3.out.alloc _).set hln _).drew
                    | exact ((HI3.out.alloc _).drew.set hln _)
                · first
                    | exact ((hb.setCell (Nat.le_refl _) _).alloc (by simp; omega) _).drew
                    | exact ((hb.alloc (by omega) _).setCell (Nat.le_refl _) _).drew
                    | exact ((hb.alloc (by omega) _).drew.setCell (Nat.le_refl _) _)
              case measure => simp [intOf]; omega
            · have e : k = m := by omega
              have HT : Hid (subs.take k = subs) := List.take_of_length_le (by have := HM.out; omega)
              go_wp2
              go_roundw
              case rel => exact ⟨j + 1, by omega, by go_num, by have := HI3.out; rw [HT.out] at this; exact this, hb⟩
              case measure => simp [intOf]; omega
        · have e : j = n := by omega
          subst e
          have HI4 := Lib.hid hI
          clear hI
          go_wp2
          go_ret
          exact ⟨_, rfl, by rw [HF.out]; exact HI4.out.base_le hbW.size, hbW.trans (hb.mono hbW.size)⟩

theorem up0_snoc (k : Nat) : up0 (k + 1) = up0 k ++ [2 ^ k] := by simp [up0, List.range_succ]
set_option maxHeartbeats 2000000 in
set_option maxRecDepth 100000 in
theorem specUp : sortsAboveC 133 := by
  intro s S us w hok hv hn1 hn hin
  obtain ⟨names, subs⟩ := s
  simp only [encSrt] at hv
  obtain ⟨v0, v1, rfl, e0, e1⟩ := repVals_Sorts hv
  obtain ⟨A0, cap0, rfl, hc0, hm0⟩ := e0.shape
  obtain ⟨A1, cap1, rfl, hc1, hm1⟩ := e1.shape
  obtain ⟨i0, hi, hz0, hz1, hz2⟩ := info_parts info_Int
  have HIN := Lib.hid hin
  have HOK := Lib.hid hok
  have E1 := Lib.hid e1
  have HF : Hid (up ⟨names, subs⟩ = upIter subs names.length (up0 names.length)) := rfl
  clear hv e0 e1 hok hin
  generalize hN : names.length = n at *
  generalize hM : subs.length = m at *
  clear hN
  have HM := Lib.hid hM
  clear hM
  unfold maxLen at hm0 hm1
  go_enter Tryz.func133, Tryz.ntmps133
  go_wp2
  generalize hW : w.alloc _ = W
  have hbW : Below w.heap.size w W := by rw [← hW]; exact (Below.refl _ _).alloc (Nat.le_refl _) _
  have p0 : W.cell? ⟨w.heap.size, 0, none⟩ = some (.slice A0 n cap0) := by rw [← hW]; simp
  have p1 : W.cell? ⟨w.heap.size, 1, none⟩ = some (.slice A1 m cap1) := by rw [← hW]; simp
  have z1 : w.heap.size + 1 = W.heap.size := by rw [← hW]; simp
  clear hW
  rw [z1]
  go_loopw [3, 4] (fun v i wr => ∃ k : Nat, k ≤ n ∧ i = .int .i64 k ∧ Ints wr W.heap.size v (casts (up0 k)) ∧ Below W.heap.size W wr) (fun _ i _ => n - (intOf i).toNat)
  case atStart => exact ⟨0, Nat.zero_le _, rfl, Ints.empty W, (Below.refl _ _).alloc (Nat.le_refl _) _⟩
  case round =>
    obtain ⟨k, hk, rfl, hI, hb⟩ := hrel
    have pw := (hb.cell (p := ⟨w.heap.size, 0, none⟩) (show w.heap.size < W.heap.size by omega)).trans p0
    have HI := Lib.hid hI
    clear hI
    by_cases hkn : k < n
    · have HB := Lib.hid (specBit k (by omega))
      go_wp2_with (first
        | (go_at_call 162; refine (HB.out _).mono ?_; rintro e w2 ⟨rfl, rfl⟩)
        | (at_builtin; refine wpList_app_int rfl _ _ 69 rfl i0 Tryz.underlying69 hi hz0 hz1 hz2 W.heap.size _ _ rfl _ _ _ rfl HI.out rfl (by simp [casts, up0]; omega) hb.size ?_; intro v' w1 hI1 hB1))
      go_roundw
      case rel => exact ⟨k + 1, by omega, by go_num, by rw [up0_snoc, casts_snoc]; simpa using hI1, hb.trans (hB1 _ (Nat.le_refl _))⟩
      case measure => simp [intOf]; omega
    · obtain rfl : n = k := by omega
      obtain ⟨A, cap, rfl, hcc, hmm, hA⟩ := HI.out.form
      obtain ⟨g, rfl, hg1, hg2⟩ := hA (by simp [casts, up0]; omega)
      rw [casts_len, (UpOk.start n).1] at HI
      rw [casts_len, (UpOk.start n).1]
      go_wp2
      have hb1 := hb
      clear hb pw hA
      go_loopw [5] (fun i wr => ∃ j : Nat, j ≤ n ∧ i = .int .i64 j ∧ Ints wr W.heap.size (.slice (some ⟨g, 0, none⟩) n cap) (casts (upIter subs j (up0 n))) ∧ Below W.heap.size W wr) (fun i _ => n - (intOf i).toNat)
      case atStart => exact ⟨0, Nat.zero_le _, rfl, HI.out, hb1⟩
      case round =>
        obtain ⟨j, hj, rfl, hI, hb⟩ := hrel
        have pw := (hb.cell (p := ⟨w.heap.size, 0, none⟩) (show w.heap.size < W.heap.size by omega)).trans p0
        by_cases hjn : j < n
        · have HI2 := Lib.hid hI
          clear hI
          go_wp2
          have hb2 := hb
          clear hb pw
          go_loopw [6] (fun i wr => ∃ k : Nat, k ≤ m ∧ i = .int .i64 k ∧ Ints wr W.heap.size (.slice (some ⟨g, 0, none⟩) n cap) (casts ((subs.take k).foldl upSub (upIter subs j (up0 n)))) ∧ Below W.heap.size W wr) (fun i _ => m - (intOf i).toNat)
          case atStart => exact ⟨0, Nat.zero_le _, rfl, HI2.out, hb2⟩
          case round =>
            obtain ⟨k, hk, rfl, hI, hb⟩ := hrel
            have pw1 := (hb.cell (p := ⟨w.heap.size, 1, none⟩) (show w.heap.size < W.heap.size by omega)).trans p1
            have HI3 := Lib.hid hI
            clear hI
            by_cases hkm : k < m
            · obtain ⟨p, hp⟩ : ∃ p, subs[k]? = some p := ⟨_, List.getElem?_eq_getElem (by have := HM.out; omega)⟩
              obtain ⟨b, off, rfl, hS, hbz, hrow⟩ := Rep.at okSubR HOK.out.2 (E1.out.below (hbW.trans (hb.mono hbW.size))) hp
              obtain ⟨g0, g1, g2, g3⟩ := HIN.out p (List.mem_of_getElem? hp)
              obtain ⟨lo, hi'⟩ := p
              simp only [encSub, RepRow, and_true, fieldsOf, List.length_cons, List.length_nil, Nat.reduceAdd, Rep.lit_iff] at hrow
              obtain ⟨⟨_, c0, rfl⟩, ⟨_, c1, rfl⟩⟩ := hrow
              simp only at g0 g1 g2 g3
              obtain ⟨lo, rfl⟩ := Int.eq_ofNat_of_zero_le g0
              obtain ⟨hi', rfl⟩ := Int.eq_ofNat_of_zero_le g2
              have hup := (UpOk.iter HIN.out j (UpOk.start n)).foldl (HIN.out.take k)
              have HL := Lib.hid hup.1
              obtain ⟨r0, t0⟩ := hup.get (i := lo) (by omega)
              obtain ⟨r1, t1⟩ := hup.get (i := hi') (by omega)
              have HST := Lib.hid (foldl_take (f := upSub) hp (upIter subs j (up0 n)))
              generalize hG : (subs.take k).foldl upSub (upIter subs j (up0 n)) = G at *
              have d0 := HI3.out.cell (casts_get r0)
              have d1 := HI3.out.cell (casts_get r1)
              have f0 := HI3.out.frozen lo
              have hlt : g < wr.heap.size := (HI3.out.lt _ rfl).2
              have hb256 : 2 ^ n ≤ 2 ^ 8 := Nat.pow_le_pow_right (by omega) hn
              have HX : Hid (G.getD lo 0 < 4611686018427387904 ∧ G.getD hi' 0 < 4611686018427387904) := ⟨by omega, by omega⟩
              have HU : Hid (upSub G (lo, hi') = G.set lo (G.getD lo 0 ||| G.getD hi' 0)) := by show _ = _; simp [upSub]
              clear hup t0 t1 r0 r1 hG hb256 hp
              generalize G.getD lo 0 = x0 at *
              generalize G.getD hi' 0 = x1 at *
              go_wp2_with fail
              (refine wp_region_still_tail 27 (by kernel_rfl) (by kernel_rfl) ?_
               simp only [List.take_succ_cons, List.take_zero, List.drop_succ_cons, List.drop_zero]
               change wpStill _ _ (World.drew _) _ _ _
               repeat still_step
               refine wpStill_nil ?_
               change wpList _ _ _ _ _ (World.drew _))
              go_wp2
              go_roundw
              case rel =>
                refine ⟨k + 1, by omega, by go_num, ?_, (hb.drew.setCell (p := ⟨g, lo, none⟩) hg1 _)⟩
                rw [HST.out, HU.out, casts_set, bits_or HX.out.1 HX.out.2]
                have hln : lo < (casts G).length := by rw [casts_len, HL.out]; omega
                exact HI3.out.drew.set hln _
              case measure => simp [intOf]; omega
            · have HT : Hid (subs.take k = subs) := List.take_of_length_le (by have := HM.out; omega)
              go_wp2
              go_roundw
              case rel => exact ⟨j + 1, by omega, by go_num, by have := HI3.out; rw [HT.out] at this; exact this, hb⟩
              case measure => simp [intOf]; omega
        · obtain rfl : n = j := by omega
          have HI4 := Lib.hid hI
          clear hI
          go_wp2
          go_ret
          exact ⟨_, rfl, by rw [HF.out]; exact HI4.out.base_le hbW.size, hbW.trans (hb.mono hbW.size)⟩
end Go.Proofs.YtpbikjkjfojjiaaGreat

namespace Go.Proofs.YtpbikjkjfojjiaaGreat
open Go.RowKit Go.MapKept Go.ChangeMaps

def Seen (w : World) (b : Nat) (l : List ByteArray) : Prop := ∃ (es : Array MapEntry) (clock : Nat), w.heap[b]? = some (.map es clock) ∧ es.toList.map (fun e => (e.key, e.val)) = l.map (fun s => (Value.string s, Value.bool true))
def hasStr (l : List ByteArray) (s : ByteArray) : Bool := l.any (fun t => s.toList == t.toList)
theorem Seen.made (w : World) : Seen (w.alloc (.map #[] 0)) w.heap.size [] := ⟨#[], 0, heap_alloc_new w _, rfl⟩
theorem Seen.lt {w : World} {b : Nat} {l : List ByteArray} (h : Seen w b l) : b < w.heap.size := by
  obtain ⟨es, clock, h, _⟩ := h
  exact (Array.getElem?_eq_some_iff.1 h).1
theorem Seen.below {w w' : World} {b : Nat} {l : List ByteArray} (h : Seen w b l) (hb : Below w.heap.size w w') : Seen w' b l := by
  have hl := h.lt
  obtain ⟨es, clock, h1, h2⟩ := h
  exact ⟨es, clock, by rw [hb.block b hl]; exact h1, h2⟩
theorem find_seen (s : ByteArray) : ∀ (es : List MapEntry) (l : List ByteArray) (i : Nat), es.map (fun e => (e.key, e.val)) = l.map (fun s => (Value.string s, Value.bool true)) →
    (hasStr l s = true → ∃ j, Instr.findNow .string (.string s) es i = some (some (j, .bool true))) ∧ (hasStr l s = false → Instr.findNow .string (.string s) es i = some none)
  | [], [], i, _ => ⟨fun h => by simp [hasStr] at h, fun _ => rfl⟩
  | [], _ :: _, _, h => by simp at h
  | _ :: _, [], _, h => by simp at h
  | e :: es, t :: ts, i, h => by
    simp only [List.map_cons, List.cons.injEq, Prod.mk.injEq] at h
    obtain ⟨⟨h1, h2⟩, h3⟩ := h
    obtain ⟨ih1, ih2⟩ := find_seen s es ts (i + 1) h3
    simp only [Instr.findNow, h1, h2, Instr.sameNow, beq_toListBytes, hasStr, List.any_cons]
    cases he : (s.toList == t.toList)
    · simp only [Bool.false_or]
      exact ⟨ih1, ih2⟩
    · simp
theorem run_seen {P : Program} {w : World} {b : Nat} {l : List ByteArray} {t k e : TypeId} (h : Seen w b l) (ht : P.underlying t = some (.map k e)) (hk : P.underlying k = some .string) (hz : (zeroValue e).run P w = .ok (.bool false) w) (s : ByteArray) :
    (Instr.lookup t (.map (some b)) (.string s) false).run P w = .ok (.bool (hasStr l s)) w := by
  obtain ⟨es, clock, h1, h2⟩ := h
  obtain ⟨f1, f2⟩ := find_seen s es.toList l 0 h2
  have hc : ∀ em, (Instr.checkKey em 10000 k (.string s)).run P w = .ok () w := fun em => MapKept.run_checkKey hk (by simp [MapKept.IsKey]) em 9999
  cases hs : hasStr l s
  rotate_left
  · obtain ⟨j, hf⟩ := f1 hs
    have := MapKept.run_findKey (w := w) hk hf
    simp [Instr.lookup, run_underlying ht, MapKept.run_getObj_map h1, hc, this, hs]
  · have := MapKept.run_findKey (w := w) hk (f2 hs)
    simp [Instr.lookup, run_underlying ht, MapKept.run_getObj_map h1, hc, this, hs, hz]
theorem run_see {P : Program} {w : World} {b : Nat} {l : List ByteArray} {t k e : TypeId} (h : Seen w b l) (ht : P.underlying t = some (.map k e)) (hk : P.underlying k = some .string) {s : ByteArray} (hs : hasStr l s = false) :
    ∃ w', (Instr.mapUpdate t (.map (some b)) (.string s) (.bool true)).run P w = .ok () w' ∧ Seen w' b (l ++ [s]) ∧ Below b w w' ∧ w.heap.size ≤ w'.heap.size ∧ ∀ x, x ≠ b → w'.heap[x]? = w.heap[x]? := by
  have hl := h.lt
  obtain ⟨es, clock, h1, h2⟩ := h
  obtain ⟨f1, f2⟩ := find_seen s es.toList l 0 h2
  have hc : ∀ em, (Instr.checkKey em 10000 k (.string s)).run P w = .ok () w := fun em => MapKept.run_checkKey hk (by simp [MapKept.IsKey]) em 9999
  have := MapKept.run_findKey (w := w) hk (f2 hs)
  refine ⟨setBlock w b (.map (es.push { key := .string s, val := .bool true, born := clock }) (clock + 1)), ?_, ⟨_, _, heap_setBlock_same h1 _, by simp [h2]⟩, ⟨rfl, rfl, rfl, by simp [setBlock], fun x hx => heap_setBlock_other h1 _ (by omega)⟩, by simp [setBlock], fun x hx => heap_setBlock_other h1 _ hx⟩
  simp [Instr.mapUpdate, run_underlying ht, MapKept.run_getObj_map h1, hc, this, MapKept.run_setObj_map _ h1, setBlock]
end Go.Proofs.YtpbikjkjfojjiaaGreat

namespace Go.Proofs.YtpbikjkjfojjiaaGreat
open Go.RowKit

def nameB (n : Int) : Bool := decide (48 ≤ n ∧ n ≤ 57) || decide (65 ≤ n ∧ n ≤ 90) || decide (97 ≤ n ∧ n ≤ 122)
set_option maxHeartbeats 1000000 in
theorem implNameByte (n : Int) (w : World) : Calls Tryz.prog 167 #[.int .u8 n] w fun e w' => e = .returned (.bool (nameB n)) ∧ w = w' := by
  go_enter Tryz.func167, Tryz.ntmps167
  go_wp2
  all_goals
    go_ret
    exact ⟨ret_bool (by unfold nameB; rw [Bool.eq_iff_iff]; simp; try omega), rfl⟩
def byteAt (s : ByteArray) (i : Nat) : Int := if h : i < s.size then (s[i].toNat : Int) else 0
def nameFrom (s : ByteArray) (k : Nat) : Bool := (List.range' k (s.size - k)).all (fun i => nameB (byteAt s i) && !(i == 0 && decide (byteAt s i ≤ 57)))
def isName (s : ByteArray) : Bool := decide (1 ≤ s.size ∧ s.size ≤ 12) && !(s.toList == [105, 102]) && !(s.toList == [97, 110, 100]) && nameFrom s 0
theorem nameFrom_step {s : ByteArray} {k : Nat} (h : k < s.size) : nameFrom s k = ((nameB (s[k].toNat : Int) && !(k == 0 && decide ((s[k].toNat : Int) ≤ 57))) && nameFrom s (k + 1)) := by
  have eb : byteAt s k = (s[k].toNat : Int) := by unfold byteAt; rw [dif_pos h]
  rw [← eb]
  unfold nameFrom
  have e : s.size - k = (s.size - (k + 1)) + 1 := by omega
  rw [e, List.range'_succ, List.all_cons]
theorem nameFrom_end {s : ByteArray} {k : Nat} (h : s.size ≤ k) : nameFrom s k = true := by
  unfold nameFrom
  have e : s.size - k = 0 := by omega
  rw [e]
  rfl
theorem isName_bad {s : ByteArray} (h : s.size < 1 ∨ 12 < s.size ∨ s.toList = [105, 102] ∨ s.toList = [97, 110, 100]) : isName s = false := by
  unfold isName
  rcases h with h | h | h | h
  · have : ¬ (1 ≤ s.size ∧ s.size ≤ 12) := by omega
    simp [this]
  · have : ¬ (1 ≤ s.size ∧ s.size ≤ 12) := by omega
    simp [this]
  · simp [h]
  · simp [h]
set_option maxHeartbeats 1000000 in
theorem implIsName (s : ByteArray) (hs : s.size ≤ maxLen) (w : World) : Calls Tryz.prog 143 #[.string s] w fun e w' => e = .returned (.bool (isName s)) ∧ w = w' := by
  unfold maxLen at hs
  by_cases h0 : s.size < 1 ∨ 12 < s.size ∨ s.toList = [105, 102] ∨ s.toList = [97, 110, 100]
  · have HF := Lib.hid (isName_bad h0)
    have h0' : s.size < 1 ∨ 12 < s.size ∨ (s.toList == [105, 102]) = true ∨ (s.toList == [97, 110, 100]) = true := by simpa using h0
    clear h0
    rcases h0' with h | h | h | h <;>
    · go_enter Tryz.func143, Tryz.ntmps143
      go_wp2
      all_goals (go_ret; exact ⟨ret_bool HF.out.symm, rfl⟩)
  have h1 : 1 ≤ s.size := by omega
  have h2 : s.size ≤ 12 := by omega
  have h3 : (s.toList == [105, 102]) = false := by simp; intro h; exact h0 (.inr (.inr (.inl h)))
  have h4 : (s.toList == [97, 110, 100]) = false := by simp; intro h; exact h0 (.inr (.inr (.inr h)))
  have HF : Hid (isName s = nameFrom s 0) := by
    show isName s = _
    unfold isName
    simp [h1, h2, h3, h4]
  clear h0 
  go_enter Tryz.func143, Tryz.ntmps143
  go_wp2
  go_loopw [3] (fun i wr => ∃ k : Nat, k ≤ s.size ∧ i = .int .i64 k ∧ nameFrom s 0 = nameFrom s k ∧ w = wr) (fun i _ => s.size - (intOf i).toNat)
  case atStart => exact ⟨0, Nat.zero_le _, rfl, rfl, rfl⟩
  case round =>
    obtain ⟨k, hk, rfl, hz, rfl⟩ := hrel
    have HZ := Lib.hid hz
    clear hz
    by_cases hkm : k < s.size
    · have HS := Lib.hid (nameFrom_step hkm)
      go_wp2_with fail
      refine (implNameByte _ _).mono ?_
      rintro e w2 ⟨rfl, rfl⟩
      generalize nameB (s[k].toNat : Int) = B at HS ⊢
      cases B
      · go_wp2
        go_ret
        exact ⟨ret_bool (by rw [HF.out, HZ.out, HS.out]; rfl), rfl⟩
      · by_cases hk0 : k = 0
        · have hk1 : ((k : Int) == 0) = true := by simp; exact hk0
          have HK : Hid ((k == 0) = true) := by show _ = _; simpa using hk0
          clear hk0
          by_cases h9 : (s[k].toNat : Int) ≤ 57
          · go_wp2
            go_ret
            exact ⟨ret_bool (by rw [HF.out, HZ.out, HS.out, HK.out, decide_eq_true h9]; rfl), rfl⟩
          · go_wp2
            go_roundw
            case rel => exact ⟨k + 1, by omega, by go_num, by rw [HZ.out, HS.out, HK.out, decide_eq_false (by omega)]; simp, trivial⟩
            case measure => simp [intOf]; omega
        · have hk1 : ((k : Int) == 0) = false := by simp; exact hk0
          have HK : Hid ((k == 0) = false) := by show _ = _; simpa using hk0
          go_wp2
          go_roundw
          case rel => exact ⟨k + 1, by omega, by go_num, by rw [HZ.out, HS.out, HK.out]; simp, trivial⟩
          case measure => simp [intOf]; omega
    · go_wp2
      go_ret
      exact ⟨ret_bool (by rw [HF.out, HZ.out, nameFrom_end (by omega)]), rfl⟩

set_option maxHeartbeats 2000000 in
theorem specIsName (s : ByteArray) (hs : s.size ≤ maxLen) (w : World) : Calls Tryz.prog 93 #[.string s] w fun e w' => e = .returned (.bool (isName s)) ∧ w = w' := by
  unfold maxLen at hs
  by_cases h0 : s.size < 1 ∨ 12 < s.size ∨ s.toList = [105, 102] ∨ s.toList = [97, 110, 100]
  · have HF := Lib.hid (isName_bad h0)
    have h0' : s.size < 1 ∨ 12 < s.size ∨ (s.toList == [105, 102]) = true ∨ (s.toList == [97, 110, 100]) = true := by simpa using h0
    clear h0
    rcases h0' with h | h | h | h <;>
    · go_enter Tryz.func93, Tryz.ntmps93
      go_wp2
      all_goals (go_ret; exact ⟨ret_bool HF.out.symm, rfl⟩)
  have h1 : 1 ≤ s.size := by omega
  have h2 : s.size ≤ 12 := by omega
  have h3 : (s.toList == [105, 102]) = false := by simp; intro h; exact h0 (.inr (.inr (.inl h)))
  have h4 : (s.toList == [97, 110, 100]) = false := by simp; intro h; exact h0 (.inr (.inr (.inr h)))
  have HF : Hid (isName s = nameFrom s 0) := by
    show isName s = _
    unfold isName
    simp [h1, h2, h3, h4]
  have HS0 := Lib.hid (nameFrom_step (s := s) (k := 0) h1)
  clear h0 
  by_cases hfirst : (97 ≤ (s[0].toNat : Int) ∧ (s[0].toNat : Int) ≤ 122) ∨ (65 ≤ (s[0].toNat : Int) ∧ (s[0].toNat : Int) ≤ 90)
  case neg =>
    have HG : Hid (isName s = false) := by
      show isName s = false
      rw [HF.out, HS0.out]
      have : (nameB (s[0].toNat : Int) && !(0 == 0 && decide ((s[0].toNat : Int) ≤ 57))) = false := by
        unfold nameB
        rw [← Bool.not_eq_true]
        simp
        omega
      rw [this]
      rfl
    go_enter Tryz.func93, Tryz.ntmps93
    go_wp2
    all_goals first
      | (go_ret; exact ⟨ret_bool HG.out.symm, rfl⟩)
      | (exfalso; simp at *; omega)
  rcases hfirst with ⟨f1, f2⟩ | ⟨f1, f2⟩ <;>
  · go_enter Tryz.func93, Tryz.ntmps93
    go_wp2
    go_loopw [3] (fun i wr => ∃ k : Nat, k ≤ s.size ∧ i = .int .i64 k ∧ nameFrom s 0 = nameFrom s k ∧ w = wr) (fun i _ => s.size - (intOf i).toNat)
    case atStart => exact ⟨0, Nat.zero_le _, rfl, rfl, rfl⟩
    case round =>
      obtain ⟨k, hk, rfl, hz, rfl⟩ := hrel
      have HZ := Lib.hid hz
      clear hz
      by_cases hkm : k < s.size
      · have HS := Lib.hid (nameFrom_step hkm)
        cases hB : nameB (s[k].toNat : Int)
        · have HS' : Hid (isName s = false) := by show _ = _; rw [HF.out, HZ.out, HS.out, hB]; rfl
          have HB := Lib.hid hB
          clear hB HS
          go_wp2
          all_goals first
            | (go_ret; exact ⟨ret_bool HS'.out.symm, rfl⟩)
            | (exfalso; have := HB.out; unfold nameB at this; simp at *; omega)
        · have HS' : Hid (nameFrom s k = nameFrom s (k + 1)) := by
            show _ = _
            rw [HS.out, hB]
            by_cases hk0 : k = 0
            · subst hk0
              have : ¬ ((s[0].toNat : Int) ≤ 57) := by omega
              rw [decide_eq_false this]
              rfl
            · have : (k == 0) = false := by simpa using hk0
              rw [this]
              rfl
          have HB : ((s[k].toNat : Int) < 65 ∧ 48 ≤ (s[k].toNat : Int) ∧ (s[k].toNat : Int) ≤ 57) ∨ ((s[k].toNat : Int) < 97 ∧ 65 ≤ (s[k].toNat : Int) ∧ (s[k].toNat : Int) ≤ 90) ∨ (97 ≤ (s[k].toNat : Int) ∧ (s[k].toNat : Int) ≤ 122) := by
            unfold nameB at hB
            simp at hB
            omega
          clear hB HS
          rcases HB with ⟨b0, b1, b2⟩ | ⟨b0, b1, b2⟩ | ⟨b1, b2⟩ <;>
          · go_wp2
            go_roundw
            case rel => exact ⟨k + 1, by omega, by go_num, by rw [HZ.out, HS'.out], trivial⟩
            case measure => simp [intOf]; omega
      · go_wp2
        go_ret
        exact ⟨ret_bool (by rw [HF.out, HZ.out, nameFrom_end (by omega)]), rfl⟩
end Go.Proofs.YtpbikjkjfojjiaaGreat

namespace Go.Proofs.YtpbikjkjfojjiaaGreat
open Go.RowKit

def SubOk (n : Nat) (p : Int × Int) : Prop := 0 ≤ p.1 ∧ p.1 < n ∧ 0 ≤ p.2 ∧ p.2 < n ∧ p.1 ≠ p.2
def NameOk (names : List ByteArray) (i : Nat) : Prop := ∀ x, names[i]? = some x → isName x = true ∧ hasStr (names.take i) x = false
def PairOk (u : List Nat) (i k : Nat) : Prop := ¬ (i ≠ k ∧ (u.getD i 0).testBit k = true ∧ (u.getD k 0).testBit i = true)
structure SortsOk (s : Srt) : Prop where
  n1 : 1 ≤ s.names.length
  n8 : s.names.length ≤ 8
  m16 : s.subs.length ≤ 16
  names : ∀ i, i < s.names.length → NameOk s.names i
  subs : ∀ p ∈ s.subs, SubOk s.names.length p
  pairs : ∀ i k, i < s.names.length → k < s.names.length → PairOk (up s) i k
open Classical in
noncomputable def isSorts (s : Srt) : Bool := decide (SortsOk s)
theorem isSorts_true {s : Srt} (h : SortsOk s) : isSorts s = true := by unfold isSorts; simp [h]
theorem isSorts_false {s : Srt} (h : ¬ SortsOk s) : isSorts s = false := by unfold isSorts; simp [h]
theorem isSorts_iff {s : Srt} : isSorts s = true ↔ SortsOk s := by unfold isSorts; simp
theorem SortsOk.subsIn {s : Srt} (h : ∀ p ∈ s.subs, SubOk s.names.length p) : SubsIn s.names.length s.subs := fun p hp => ⟨(h p hp).1, (h p hp).2.1, (h p hp).2.2.1, (h p hp).2.2.2.1⟩

theorem and_bit {x k : Nat} (hx : x < 4611686018427387904) (hk : k < 62) : (bits .and .i64 (x : Int) (wrap64 (2 ^ k)) != 0) = x.testBit k ∧ (bits .and .i64 (x : Int) (wrap64 (2 ^ k)) == 0) = !x.testBit k := by
  rw [shl_one hk, bits_and hx (pow_lt62 hk), ← testBit_and]
  generalize x &&& 2 ^ k = y
  constructor
  · rw [Bool.eq_iff_iff]
    simp
  · rw [Bool.eq_iff_iff]
    simp
theorem ne_int {i k : Nat} (h : i ≠ k) : ((i : Int) != (k : Int)) = true ∧ ((i : Int) == (k : Int)) = false := by
  have : (i : Int) ≠ (k : Int) := by omega
  simp [this]
theorem eq_int {i k : Nat} (h : i = k) : ((i : Int) != (k : Int)) = false ∧ ((i : Int) == (k : Int)) = true := by
  subst h
  simp
def sortsC (f : FuncId) : Prop := ∀ (s : Srt) (S : Nat → Prop) (us : List Value) (w : World), okSrt s → RepVals w S (encSrt s) us →
  Calls Tryz.prog f #[.agg us.toArray] w fun e w' => e = .returned (.bool (isSorts s)) ∧ Below w.heap.size w w'
theorem zero_bool (w : World) : (zeroValue 4).run Tryz.prog w = .ok (.bool false) w := by kernel_rfl
set_option maxHeartbeats 2000000 in
set_option maxRecDepth 100000 in
theorem implIsSorts : sortsC 146 := by
  intro s S us w hok hv
  obtain ⟨names, subs⟩ := s
  have hv0 := hv
  simp only [encSrt] at hv
  obtain ⟨v0, v1, rfl, e0, e1⟩ := repVals_Sorts hv
  obtain ⟨A0, cap0, rfl, hc0, hm0⟩ := e0.shape
  obtain ⟨A1, cap1, rfl, hc1, hm1⟩ := e1.shape
  obtain ⟨ic, hci, _, hcs, _⟩ := info_parts info_Sub'
  have HOK := Lib.hid hok
  have HV0 := Lib.hid hv0
  have E0 := Lib.hid e0
  have E1 := Lib.hid e1
  have HT := Lib.hid (isSorts_true (s := ⟨names, subs⟩))
  have HF := Lib.hid (isSorts_false (s := ⟨names, subs⟩))
  clear hv hv0 e0 e1 hok
  generalize hN : names.length = n at *
  generalize hM : subs.length = m at *
  have HN := Lib.hid hN
  have HM := Lib.hid hM
  clear hM hN
  unfold maxLen at hm0 hm1
  by_cases h1 : n < 1 ∨ 8 < n ∨ 16 < m
  · have HR : Hid (isSorts ⟨names, subs⟩ = false) := HF.out (fun h => by
      have := h.n1; have := h.n8; have := h.m16
      have := HN.out; have := HM.out
      simp only at *
      omega)
    rcases h1 with h1 | h1 | h1 <;>
    · go_enter Tryz.func146, Tryz.ntmps146
      go_wp2
      all_goals (go_ret; exact ⟨ret_bool HR.out.symm, (Below.refl _ _).alloc (Nat.le_refl _) _⟩)
  have hn1 : 1 ≤ n := by omega
  have hn8 : n ≤ 8 := by omega
  have hm16 : m ≤ 16 := by omega
  clear h1
  go_enter Tryz.func146, Tryz.ntmps146
  have hmm := @run_makeMap Tryz.prog
  go_wp2
  clear hmm
  generalize hW : w.alloc _ = W
  have hbW : Below w.heap.size w W := by rw [← hW]; exact (Below.refl _ _).alloc (Nat.le_refl _) _
  have p0 : W.cell? ⟨w.heap.size, 0, none⟩ = some (.slice A0 n cap0) := by rw [← hW]; simp
  have p1 : W.cell? ⟨w.heap.size, 1, none⟩ = some (.slice A1 m cap1) := by rw [← hW]; simp
  have z1 : w.heap.size + 1 = W.heap.size := by rw [← hW]; simp
  clear hW
  rw [z1]
  go_loopw [31] (fun i wr => ∃ k : Nat, k ≤ n ∧ i = .int .i64 k ∧ (∀ j, j < k → NameOk names j) ∧ Seen wr W.heap.size (names.take k) ∧ Below W.heap.size W wr) (fun i _ => n - (intOf i).toNat)
  case atStart => exact ⟨0, Nat.zero_le _, rfl, fun j hj => absurd hj (by omega), Seen.made W, (Below.refl _ _).alloc (Nat.le_refl _) _⟩
  case round =>
    obtain ⟨k, hk, rfl, hnames, hseen, hb⟩ := hrel
    have HNM := Lib.hid hnames
    have HSN := Lib.hid hseen
    clear hnames hseen
    by_cases hkn : k < n
    · obtain ⟨x, hx⟩ : ∃ x, names[k]? = some x := ⟨_, List.getElem?_eq_getElem (by have := HN.out; omega)⟩
      obtain ⟨b, off, rfl, hS, hbz, hrow⟩ := Rep.at okStrR HOK.out.1 (E0.out.below (hbW.trans (hb.mono hbW.size))) hx
      simp only [encStr, RepRow, and_true, fieldsOf, List.length_cons, List.length_nil, Nat.reduceAdd, Rep.lit_iff, Nat.zero_add, Nat.mul_one] at hrow
      obtain ⟨_, c0, rfl⟩ := hrow
      have HX := Lib.hid hx
      have HXS := Lib.hid (HOK.out.1 x (List.mem_of_getElem? hx))
      clear hx
      have hlk := run_seen HSN.out Tryz.underlying200 Tryz.underlying9 (zero_bool wr) x
      cases hh : hasStr (names.take k) x
      · rw [hh] at hlk
        cases hin : isName x
        · have HR : Hid (isSorts ⟨names, subs⟩ = false) := HF.out (fun h => by have := (h.names k (by have := HN.out; simp only; omega) x HX.out).1; rw [hin] at this; cases this)
          have HIN := Lib.hid hin
          clear hh hin
          go_wp2_with (go_at_call 143; refine (implIsName x HXS.out _).mono ?_; rw [HIN.out]; rintro e w2 ⟨rfl, rfl⟩)
          go_ret
          exact ⟨ret_bool HR.out.symm, hbW.trans (hb.mono hbW.size)⟩
        · obtain ⟨w', hup, hseen', hbel, hsz, hoth⟩ := run_see HSN.out Tryz.underlying200 Tryz.underlying9 hh
          have HIN := Lib.hid hin
          have HH := Lib.hid hh
          have HO := Lib.hid hoth
          have HS' := Lib.hid hseen'
          clear hh hin hoth hseen'
          go_wp2_with (go_at_call 143; refine (implIsName x HXS.out _).mono ?_; rw [HIN.out]; rintro e w2 ⟨rfl, rfl⟩)
          go_roundw
          case rel =>
            refine ⟨k + 1, by omega, by go_num, fun j hj => ?_, ?_, hb.trans hbel⟩
            · by_cases hjk : j < k
              · exact HNM.out j hjk
              · obtain rfl : j = k := by omega
                intro y hy
                rw [HX.out] at hy
                injection hy with hy
                subst hy
                exact ⟨HIN.out, HH.out⟩
            · rw [take_snoc HX.out]
              exact HS'.out
          case measure => simp [intOf]; omega
      · rw [hh] at hlk
        have HR : Hid (isSorts ⟨names, subs⟩ = false) := HF.out (fun h => by have := (h.names k (by have := HN.out; simp only; omega) x HX.out).2; rw [hh] at this; cases this)
        clear hh
        go_wp2
        go_ret
        exact ⟨ret_bool HR.out.symm, hbW.trans (hb.mono hbW.size)⟩
    · obtain rfl : n = k := by omega
      have pw := (hb.cell (p := ⟨w.heap.size, 1, none⟩) (show w.heap.size < W.heap.size by omega)).trans p1
      have hb1 := hb
      go_wp2
      clear hb pw
      go_loopw [49] (fun i wr => ∃ k : Nat, k ≤ m ∧ i = .int .i64 k ∧ (∀ j, j < k → ∀ p, subs[j]? = some p → SubOk n p) ∧ Below W.heap.size W wr) (fun i _ => m - (intOf i).toNat)
      case atStart => exact ⟨0, Nat.zero_le _, rfl, fun j hj => absurd hj (by omega), hb1⟩
      case round =>
        obtain ⟨k, hk, rfl, hsubs, hb⟩ := hrel
        have HSB := Lib.hid hsubs
        clear hsubs
        by_cases hkm : k < m
        · obtain ⟨p, hp⟩ : ∃ p, subs[k]? = some p := ⟨_, List.getElem?_eq_getElem (by have := HM.out; omega)⟩
          obtain ⟨b, off, rfl, hS, hbz, hrow⟩ := Rep.at okSubR HOK.out.2 (E1.out.below (hbW.trans (hb.mono hbW.size))) hp
          obtain ⟨lo, hi'⟩ := p
          simp only [encSub, RepRow, and_true, fieldsOf, List.length_cons, List.length_nil, Nat.reduceAdd, Rep.lit_iff] at hrow
          obtain ⟨⟨_, c0, rfl⟩, ⟨_, c1, rfl⟩⟩ := hrow
          have HP := Lib.hid hp
          clear hp
          by_cases hsub : SubOk n (lo, hi')
          · have HS := Lib.hid hsub
            obtain ⟨s0, s1, s2, s3, s4⟩ := hsub
            simp only at s0 s1 s2 s3 s4
            have s5 : (lo == hi') = false := by simpa using s4
            clear s4
            go_wp2_with (refine wpList_store_new rfl 192 _ _ rfl _ _ _ rfl _ rfl (by simp) [.int .i64 lo, .int .i64 hi'] rfl ic hci hcs rfl (by simp [Value.oneCell']) ?_)
            go_roundw
            case rel =>
              refine ⟨k + 1, by omega, by go_num, fun j hj q hq => ?_, hb.alloc hb.size _⟩
              by_cases hjk : j < k
              · exact HSB.out j hjk q hq
              · obtain rfl : j = k := by omega
                rw [HP.out] at hq
                injection hq with hq
                subst hq
                exact HS.out
            case measure => simp [intOf]; omega
          · have HR : Hid (isSorts ⟨names, subs⟩ = false) := HF.out (fun h => hsub (by have := h.subs (lo, hi') (List.mem_of_getElem? HP.out); rw [← HN.out]; exact this))
            have HS : Hid (¬ SubOk n (lo, hi')) := hsub
            clear hsub
            go_wp2_with (refine wpList_store_new rfl 192 _ _ rfl _ _ _ rfl _ rfl (by simp) [.int .i64 lo, .int .i64 hi'] rfl ic hci hcs rfl (by simp [Value.oneCell']) ?_)
            all_goals first
              | (go_ret; exact ⟨ret_bool HR.out.symm, hbW.trans ((hb.alloc hb.size _).mono hbW.size)⟩)
              | (exfalso; apply HS.out; unfold SubOk; simp at *; omega)
        · have HSUB : Hid (∀ p ∈ subs, SubOk n p) := fun p hp => by
            obtain ⟨j, hj, e⟩ := List.getElem_of_mem hp
            exact HSB.out j (by have := HM.out; omega) p (by rw [List.getElem?_eq_getElem hj, e])
          clear HSB
          have pw0 := (hb.cell (p := ⟨w.heap.size, 0, none⟩) (show w.heap.size < W.heap.size by omega)).trans p0
          have pw1 := (hb.cell (p := ⟨w.heap.size, 1, none⟩) (show w.heap.size < W.heap.size by omega)).trans p1
          go_wp2_with fail
          refine (implSortsAbove ⟨names, subs⟩ S _ _ HOK.out (HV0.out.below (hbW.trans (hb.mono hbW.size))) (by have := HN.out; simp only; omega) (by have := HN.out; simp only; omega) (SortsOk.subsIn (s := ⟨names, subs⟩) (by have := HN.out; simp only; rw [this]; exact HSUB.out))).mono ?_
          rintro e w2 ⟨v, rfl, hI, hb2⟩
          have HUP := Lib.hid (up_ok (s := ⟨names, subs⟩) (SortsOk.subsIn (s := ⟨names, subs⟩) (by have := HN.out; simp only; rw [this]; exact HSUB.out)))
          rw [show (⟨names, subs⟩ : Srt).names.length = n from HN.out] at HUP
          have HT' : Hid ((∀ i k, i < n → k < n → PairOk (up ⟨names, subs⟩) i k) → isSorts ⟨names, subs⟩ = true) := fun h => HT.out ⟨by have := HN.out; simp only; omega, by have := HN.out; simp only; omega, by have := HM.out; simp only; omega, by have := HN.out; simp only; rw [this]; exact HNM.out, by have := HN.out; simp only; rw [this]; exact HSUB.out, by have := HN.out; simp only; rw [this]; exact h⟩
          have HF' : Hid ((∃ i k, i < n ∧ k < n ∧ ¬ PairOk (up ⟨names, subs⟩) i k) → isSorts ⟨names, subs⟩ = false) := fun ⟨i, k, hi, hk, hp⟩ => HF.out (fun h => hp (h.pairs i k (by have := HN.out; simp only; omega) (by have := HN.out; simp only; omega)))
          generalize up ⟨names, subs⟩ = u at hI HUP HT' HF'
          have hwb : Below w.heap.size w w2 := hbW.trans ((hb.trans (hb2.mono hb.size)).mono hbW.size)
          obtain ⟨A, cap, rfl, hcc, hmm, hA⟩ := hI.form
          rw [casts_len, HUP.out.1] at hA hcc
          obtain ⟨g, rfl, hg1, hg2⟩ := hA (by omega)
          have HI : Hid (Ints w2 wr.heap.size (Value.slice (some { block := g, off := 0 }) n cap) (casts u)) := by rw [casts_len, HUP.out.1] at hI; exact hI
          rw [casts_len, HUP.out.1]
          clear hI hA HT HF HSN HNM HSUB HV0 E0 E1 pw0 pw1
          unfold maxLen at hmm
          have hb256 : 2 ^ n ≤ 2 ^ 8 := Nat.pow_le_pow_right (by omega) hn8
          have HC : Hid (∀ i, i < n → w2.cell? ⟨g, i, none⟩ = some (.int .i64 ((u.getD i 0 : Nat) : Int)) ∧ u.getD i 0 < 4611686018427387904) := fun i hi => by
            obtain ⟨q1, q2⟩ := HUP.out.get hi
            exact ⟨HI.out.cell (casts_get q1), by omega⟩
          clear hb256
          go_wp2
          go_loopw [85] (fun i wx => ∃ j : Nat, j ≤ n ∧ i = .int .i64 j ∧ (∀ a k, a < j → k < n → PairOk u a k) ∧ Below w2.heap.size w2 wx) (fun i _ => n - (intOf i).toNat)
          case atStart => exact ⟨0, Nat.zero_le _, rfl, fun a k h => absurd h (by omega), Below.refl _ _⟩
          case round =>
            obtain ⟨j, hj, rfl, hpairs, hbx⟩ := hrel
            have HPA := Lib.hid hpairs
            clear hpairs
            by_cases hjn : j < n
            · go_wp2
              have hbx0 := hbx
              clear hbx
              go_loopw [90] (fun i wx => ∃ k : Nat, k ≤ n ∧ i = .int .i64 k ∧ (∀ q, q < k → PairOk u j q) ∧ Below w2.heap.size w2 wx) (fun i _ => n - (intOf i).toNat)
              case atStart => exact ⟨0, Nat.zero_le _, rfl, fun q h => absurd h (by omega), hbx0⟩
              case round =>
                obtain ⟨k, hk, rfl, hpk, hbx⟩ := hrel
                have HPK := Lib.hid hpk
                clear hpk
                by_cases hkn : k < n
                · obtain ⟨c0, x0⟩ := HC.out j hjn
                  obtain ⟨c1, x1⟩ := HC.out k hkn
                  have d0 := (hbx.cell (p := ⟨g, j, none⟩) hg2).trans c0
                  have d1 := (hbx.cell (p := ⟨g, k, none⟩) hg2).trans c1
                  obtain ⟨f0, f0'⟩ := and_bit (k := k) x0 (by omega)
                  obtain ⟨f1, f1'⟩ := and_bit (k := j) x1 (by omega)
                  have HP : Hid (PairOk u j k ↔ ¬ (j ≠ k ∧ (u.getD j 0).testBit k = true ∧ (u.getD k 0).testBit j = true)) := Iff.rfl
                  have HF2 : Hid (¬ PairOk u j k → isSorts ⟨names, subs⟩ = false) := fun h => HF'.out ⟨j, k, hjn, hkn, h⟩
                  clear c0 c1 x0 x1
                  have HNX : Hid (PairOk u j k → ∀ q, q < k + 1 → PairOk u j q) := fun h q hq => by
                    by_cases hqk : q < k
                    · exact HPK.out q hqk
                    · obtain rfl : q = k := by omega
                      exact h
                  generalize u.getD j 0 = x at *
                  generalize u.getD k 0 = y at *
                  by_cases hjk : j = k
                  · obtain ⟨n0, n1⟩ := eq_int hjk
                    have HO : Hid (PairOk u j k) := HP.out.2 (fun h => h.1 hjk)
                    clear hjk f0 f0' f1 f1'
                    go_wp2_with fail
                    go_quiet (fail)
                    go_wp2
                    go_roundw
                    case rel => exact ⟨k + 1, by omega, by go_num, HNX.out HO.out, below_drewN hbx _⟩
                    case measure => simp [intOf]; omega
                  obtain ⟨n0, n1⟩ := ne_int hjk
                  cases hA1 : x.testBit k
                  · rw [hA1] at f0 f0'
                    have HO : Hid (PairOk u j k) := HP.out.2 (fun h => by rw [hA1] at h; exact absurd h.2.1 (by simp))
                    clear hjk hA1 f1 f1'
                    go_wp2_with fail
                    go_quiet (fail)
                    go_wp2
                    go_roundw
                    case rel => exact ⟨k + 1, by omega, by go_num, HNX.out HO.out, below_drewN hbx _⟩
                    case measure => simp [intOf]; omega
                  cases hA2 : y.testBit j
                  · rw [hA1] at f0 f0'
                    rw [hA2] at f1 f1'
                    have HO : Hid (PairOk u j k) := HP.out.2 (fun h => by rw [hA2] at h; exact absurd h.2.2 (by simp))
                    clear hjk hA1 hA2
                    go_wp2_with fail
                    go_quiet (fail)
                    go_wp2
                    go_roundw
                    case rel => exact ⟨k + 1, by omega, by go_num, HNX.out HO.out, below_drewN hbx _⟩
                    case measure => simp [intOf]; omega
                  · rw [hA1] at f0 f0'
                    rw [hA2] at f1 f1'
                    have HO : Hid (isSorts ⟨names, subs⟩ = false) := HF2.out (fun h => HP.out.1 h ⟨hjk, hA1, hA2⟩)
                    clear hjk hA1 hA2
                    go_wp2_with fail
                    go_quiet (fail)
                    go_wp2
                    go_ret
                    exact ⟨ret_bool HO.out.symm, hwb.trans ((below_drewN hbx _).mono hwb.size)⟩
                · have HNX : Hid (∀ a k, a < j + 1 → k < n → PairOk u a k) := fun a q ha hq => by
                    by_cases haj : a < j
                    · exact HPA.out a q haj hq
                    · obtain rfl : a = j := by omega
                      exact HPK.out q (by omega)
                  go_wp2
                  go_roundw
                  case rel => exact ⟨j + 1, by omega, by go_num, HNX.out, hbx⟩
                  case measure => simp [intOf]; omega
            · obtain rfl : n = j := by omega
              have HO := Lib.hid (HT'.out (fun i k hi hk => HPA.out i k hi hk))
              go_wp2
              go_ret
              exact ⟨ret_bool HO.out.symm, hwb.trans (hbx.mono hwb.size)⟩
end Go.Proofs.YtpbikjkjfojjiaaGreat

namespace Go.Proofs.YtpbikjkjfojjiaaGreat
open Go.RowKit

theorem quietC {P : Program} {f : FuncId} {args : Array Value} {v : Value} {w : World} (h : ∀ n, Calls P f args (w.drewN n) fun e w' => e = .returned v ∧ w.drewN n = w') (n : Nat) : Calls P f args (w.drewN n) fun e w'' => e = .returned v ∧ ∃ m, w'' = w.drewN m :=
  (h n).mono (fun e w2 hh => ⟨hh.1, n, hh.2.symm⟩)
theorem RepRows.take {w : World} {S : Nat → Prop} {b : Nat} : ∀ (rows : List (List C)) (off i : Nat), RepRows w S b off rows → RepRows w S b off (rows.take i)
  | [], off, i, h => by simp [RepRows]
  | r :: rs, off, 0, h => by simp [RepRows]
  | r :: rs, off, i + 1, h => by
    simp only [List.take_succ_cons, RepRows] at h ⊢
    exact ⟨h.1, RepRows.take rs _ i h.2⟩
theorem Rep.take {w : World} {S : Nat → Prop} {rows : List (List C)} {A : Option Addr} {n cap i : Nat} (h : Rep w S (.sl rows) (.slice A n cap)) (hi : i ≤ n) : Rep w S (.sl (rows.take i)) (.slice A i cap) := by
  simp only [Rep] at h ⊢
  obtain ⟨A', n', cap', hv, hn, hc, hm, hr⟩ := h
  injection hv with h1 h2 h3
  subst h1 h2 h3
  refine ⟨A, i, cap, rfl, by simp; omega, by omega, hm, fun h0 => ?_⟩
  obtain ⟨b, off, hA, hs, hb, hrows⟩ := hr (by omega)
  exact ⟨b, off, hA, hs, hb, RepRows.take rows off i hrows⟩
theorem beq_sym {a b : ByteArray} : (a.toList == b.toList) = (b.toList == a.toList) := by
  rw [Bool.eq_iff_iff]
  simp
  exact ⟨fun h => h.symm, fun h => h.symm⟩
theorem hasStr_step {l : List ByteArray} {s x : ByteArray} {k : Nat} (h : l[k]? = some x) : hasStr (l.drop k) s = ((x.toList == s.toList) || hasStr (l.drop (k + 1)) s) := by
  obtain ⟨hl, hx⟩ := List.getElem?_eq_some_iff.1 h
  rw [List.drop_eq_getElem_cons hl, hx, hasStr, List.any_cons, beq_sym]
  rfl
set_option maxHeartbeats 1000000 in
theorem specHasStr (l : List ByteArray) (s : ByteArray) (S : Nat → Prop) (v : Value) (w : World) (hok : ∀ x ∈ l, okStr x) (hv : Rep w S (.sl (l.map encStr)) v) :
    Calls Tryz.prog 132 #[v, .string s] w fun e w' => e = .returned (.bool (hasStr l s)) ∧ w = w' := by
  obtain ⟨A, cap, rfl, hc, hm⟩ := hv.shape
  have HOK := Lib.hid hok
  have HV := Lib.hid hv
  clear hv hok
  generalize hN : l.length = n at *
  have HN := Lib.hid hN
  clear hN
  unfold maxLen at hm
  go_enter Tryz.func132, Tryz.ntmps132
  go_wp2
  go_loopw [5] (fun i wr => ∃ k : Nat, k ≤ n ∧ i = .int .i64 k ∧ hasStr l s = hasStr (l.drop k) s ∧ w = wr) (fun i _ => n - (intOf i).toNat)
  case atStart => exact ⟨0, Nat.zero_le _, rfl, rfl, rfl⟩
  case round =>
    obtain ⟨k, hk, rfl, hz, rfl⟩ := hrel
    have HZ := Lib.hid hz
    clear hz
    by_cases hkn : k < n
    · obtain ⟨x, hx⟩ : ∃ x, l[k]? = some x := ⟨_, List.getElem?_eq_getElem (by have := HN.out; omega)⟩
      obtain ⟨b, off, rfl, hS, hbz, hrow⟩ := Rep.at okStrR HOK.out HV.out hx
      simp only [encStr, RepRow, and_true, fieldsOf, List.length_cons, List.length_nil, Nat.reduceAdd, Rep.lit_iff, Nat.zero_add, Nat.mul_one] at hrow
      obtain ⟨_, c0, rfl⟩ := hrow
      have HS := Lib.hid (hasStr_step (s := s) hx)
      clear hx
      cases hq : (x.toList == s.toList)
      · have HQ := Lib.hid hq
        go_wp2
        go_roundw
        case rel => exact ⟨k + 1, by omega, by go_num, by rw [HZ.out, HS.out, HQ.out]; rfl, trivial⟩
        case measure => simp [intOf]; omega
      · have HQ := Lib.hid hq
        go_wp2
        go_ret
        exact ⟨ret_bool (by rw [HZ.out, HS.out, HQ.out]; rfl), rfl⟩
    · have HD : Hid (l.drop k = []) := List.drop_eq_nil_of_le (by have := HN.out; omega)
      go_wp2
      go_ret
      exact ⟨ret_bool (by rw [HZ.out, HD.out]; rfl), rfl⟩
set_option maxHeartbeats 2000000 in
set_option maxRecDepth 100000 in
theorem specIsSorts : sortsC 92 := by
  intro s S us w hok hv
  obtain ⟨names, subs⟩ := s
  have hv0 := hv
  simp only [encSrt] at hv
  obtain ⟨v0, v1, rfl, e0, e1⟩ := repVals_Sorts hv
  obtain ⟨A0, cap0, rfl, hc0, hm0⟩ := e0.shape
  obtain ⟨A1, cap1, rfl, hc1, hm1⟩ := e1.shape
  have HOK := Lib.hid hok
  have HV0 := Lib.hid hv0
  have E0 := Lib.hid e0
  have E1 := Lib.hid e1
  have HT := Lib.hid (isSorts_true (s := ⟨names, subs⟩))
  have HF := Lib.hid (isSorts_false (s := ⟨names, subs⟩))
  clear hv hv0 e0 e1 hok
  generalize hN : names.length = n at *
  generalize hM : subs.length = m at *
  have HN := Lib.hid hN
  have HM := Lib.hid hM
  clear hM hN
  unfold maxLen at hm0 hm1
  by_cases h1 : n < 1 ∨ 8 < n ∨ 16 < m
  · have HR : Hid (isSorts ⟨names, subs⟩ = false) := HF.out (fun h => by
      have := h.n1; have := h.n8; have := h.m16
      have := HN.out; have := HM.out
      simp only at *
      omega)
    rcases h1 with h1 | h1 | h1 <;>
    · go_enter Tryz.func92, Tryz.ntmps92
      go_wp2
      all_goals (go_ret; exact ⟨ret_bool HR.out.symm, (Below.refl _ _).alloc (Nat.le_refl _) _⟩)
  have hn1 : 1 ≤ n := by omega
  have hn8 : n ≤ 8 := by omega
  have hm16 : m ≤ 16 := by omega
  clear h1
  go_enter Tryz.func92, Tryz.ntmps92
  go_wp2
  generalize hW : w.alloc _ = W
  have hbW : Below w.heap.size w W := by rw [← hW]; exact (Below.refl _ _).alloc (Nat.le_refl _) _
  have p0 : W.cell? ⟨w.heap.size, 0, none⟩ = some (.slice A0 n cap0) := by rw [← hW]; simp
  have p1 : W.cell? ⟨w.heap.size, 1, none⟩ = some (.slice A1 m cap1) := by rw [← hW]; simp
  have z1 : w.heap.size + 1 = W.heap.size := by rw [← hW]; simp
  clear hW
  go_loopw [3] (fun i wr => ∃ k : Nat, k ≤ n ∧ i = .int .i64 k ∧ (∀ j, j < k → NameOk names j) ∧ Below W.heap.size W wr) (fun i _ => n - (intOf i).toNat)
  case atStart => exact ⟨0, Nat.zero_le _, rfl, fun j hj => absurd hj (by omega), Below.refl _ _⟩
  case round =>
    obtain ⟨k, hk, rfl, hnames, hb⟩ := hrel
    have HNM := Lib.hid hnames
    clear hnames
    by_cases hkn : k < n
    · obtain ⟨x, hx⟩ : ∃ x, names[k]? = some x := ⟨_, List.getElem?_eq_getElem (by have := HN.out; omega)⟩
      obtain ⟨b, off, rfl, hS, hbz, hrow⟩ := Rep.at okStrR HOK.out.1 (E0.out.below (hbW.trans (hb.mono hbW.size))) hx
      simp only [encStr, RepRow, and_true, fieldsOf, List.length_cons, List.length_nil, Nat.reduceAdd, Rep.lit_iff, Nat.zero_add, Nat.mul_one] at hrow
      obtain ⟨_, c0, rfl⟩ := hrow
      have HX := Lib.hid hx
      have HXS := Lib.hid (HOK.out.1 x (List.mem_of_getElem? hx))
      clear hx
      have pw := (hb.cell (p := ⟨w.heap.size, 0, none⟩) (show w.heap.size < W.heap.size by omega)).trans p0
      have HCN : Hid (∀ q, Calls Tryz.prog 93 #[.string x] (wr.drewN q) fun e w' => e = .returned (.bool (isName x)) ∧ wr.drewN q = w') := fun q => specIsName x HXS.out _
      have HCH : Hid (∀ q, Calls Tryz.prog 132 #[.slice (some ⟨b, off, none⟩) k cap0, .string x] (wr.drewN q) fun e w' => e = .returned (.bool (hasStr (names.take k) x)) ∧ wr.drewN q = w') := fun q => by
        refine specHasStr (names.take k) x S _ _ (fun y hy => HOK.out.1 y (List.mem_of_mem_take hy)) ?_
        rw [List.map_take]
        exact ((E0.out.below (hbW.trans (hb.mono hbW.size))).below (below_drewN (Below.refl _ _) _)).take (by omega)
      cases hin : isName x
      · have HR : Hid (isSorts ⟨names, subs⟩ = false) := HF.out (fun h => by have := (h.names k (by have := HN.out; simp only; omega) x HX.out).1; rw [hin] at this; cases this)
        rw [hin] at HCN
        clear hin
        go_wp2_with fail
        go_quiet (first | (go_at_call 93; exact quietC HCN.out _))
        go_wp2
        go_ret
        exact ⟨ret_bool HR.out.symm, hbW.trans ((below_drewN hb _).mono hbW.size)⟩
      · rw [hin] at HCN
        cases hh : hasStr (names.take k) x
        · have HO : Hid (NameOk names k) := fun y hy => by
            rw [HX.out] at hy
            injection hy with hy
            subst hy
            exact ⟨hin, hh⟩
          rw [hh] at HCH
          clear hin hh
          go_wp2_with fail
          go_quiet (first | (go_at_call 93; exact quietC HCN.out _) | (go_at_call 132; exact quietC HCH.out _))
          go_wp2
          go_roundw
          case rel =>
            refine ⟨k + 1, by omega, by go_num, fun j hj => ?_, below_drewN hb _⟩
            by_cases hjk : j < k
            · exact HNM.out j hjk
            · obtain rfl : j = k := by omega
              exact HO.out
          case measure => simp [intOf]; omega
        · have HR : Hid (isSorts ⟨names, subs⟩ = false) := HF.out (fun h => by have := (h.names k (by have := HN.out; simp only; omega) x HX.out).2; rw [hh] at this; cases this)
          rw [hh] at HCH
          clear hin hh
          go_wp2_with fail
          go_quiet (first | (go_at_call 93; exact quietC HCN.out _) | (go_at_call 132; exact quietC HCH.out _))
          go_wp2
          go_ret
          exact ⟨ret_bool HR.out.symm, hbW.trans ((below_drewN hb _).mono hbW.size)⟩
    · obtain rfl : n = k := by omega
      have pw := (hb.cell (p := ⟨w.heap.size, 0, none⟩) (show w.heap.size < W.heap.size by omega)).trans p0
      have hb1 := hb
      go_wp2
      clear hb pw
      go_loopw [4] (fun i wr => ∃ k : Nat, k ≤ m ∧ i = .int .i64 k ∧ (∀ j, j < k → ∀ p, subs[j]? = some p → SubOk n p) ∧ Below W.heap.size W wr) (fun i _ => m - (intOf i).toNat)
      case atStart => exact ⟨0, Nat.zero_le _, rfl, fun j hj => absurd hj (by omega), hb1⟩
      case round =>
        obtain ⟨k, hk, rfl, hsubs, hb⟩ := hrel
        have HSB := Lib.hid hsubs
        clear hsubs
        have pw0 := (hb.cell (p := ⟨w.heap.size, 0, none⟩) (show w.heap.size < W.heap.size by omega)).trans p0
        have pw1 := (hb.cell (p := ⟨w.heap.size, 1, none⟩) (show w.heap.size < W.heap.size by omega)).trans p1
        by_cases hkm : k < m
        · obtain ⟨p, hp⟩ : ∃ p, subs[k]? = some p := ⟨_, List.getElem?_eq_getElem (by have := HM.out; omega)⟩
          obtain ⟨b, off, rfl, hS, hbz, hrow⟩ := Rep.at okSubR HOK.out.2 (E1.out.below (hbW.trans (hb.mono hbW.size))) hp
          obtain ⟨lo, hi'⟩ := p
          simp only [encSub, RepRow, and_true, fieldsOf, List.length_cons, List.length_nil, Nat.reduceAdd, Rep.lit_iff] at hrow
          obtain ⟨⟨_, c0, rfl⟩, ⟨_, c1, rfl⟩⟩ := hrow
          have HP := Lib.hid hp
          clear hp
          have HC1 : Hid (∀ q, Calls Tryz.prog 64 #[.int .i64 lo, .int .i64 0, .int .i64 ((n : Int) - 1)] (wr.drewN q) fun e w' => e = .returned (.bool (decide (0 ≤ lo ∧ lo ≤ (n : Int) - 1))) ∧ wr.drewN q = w') := fun q => specIn _ _ _ _
          have HC2 : Hid (∀ q, Calls Tryz.prog 64 #[.int .i64 hi', .int .i64 0, .int .i64 ((n : Int) - 1)] (wr.drewN q) fun e w' => e = .returned (.bool (decide (0 ≤ hi' ∧ hi' ≤ (n : Int) - 1))) ∧ wr.drewN q = w') := fun q => specIn _ _ _ _
          by_cases hsub : SubOk n (lo, hi')
          · have HS := Lib.hid hsub
            obtain ⟨s0, s1, s2, s3, s4⟩ := hsub
            simp only at s0 s1 s2 s3 s4
            have s5 : (lo == hi') = false := by simpa using s4
            rw [decide_eq_true (by omega)] at HC1 HC2
            clear s4
            go_wp2_with fail
            go_quiet (first | (go_at_call_of 64 lo; exact quietC HC1.out _) | (go_at_call_of 64 hi'; exact quietC HC2.out _))
            go_wp2
            go_roundw
            case rel =>
              refine ⟨k + 1, by omega, by go_num, fun j hj q hq => ?_, below_drewN hb _⟩
              by_cases hjk : j < k
              · exact HSB.out j hjk q hq
              · obtain rfl : j = k := by omega
                rw [HP.out] at hq
                injection hq with hq
                subst hq
                exact HS.out
            case measure => simp [intOf]; omega
          · have HR : Hid (isSorts ⟨names, subs⟩ = false) := HF.out (fun h => hsub (by have := h.subs (lo, hi') (List.mem_of_getElem? HP.out); rw [← HN.out]; exact this))
            have HS : Hid (¬ SubOk n (lo, hi')) := hsub
            clear hsub
            by_cases hl : 0 ≤ lo ∧ lo ≤ (n : Int) - 1
            · rw [decide_eq_true hl] at HC1
              by_cases hh : 0 ≤ hi' ∧ hi' ≤ (n : Int) - 1
              · have s5 : (lo == hi') = true := by
                  simp only [beq_iff_eq]
                  apply Classical.byContradiction
                  intro hne
                  exact HS.out ⟨hl.1, by simp only; omega, hh.1, by simp only; omega, hne⟩
                rw [decide_eq_true hh] at HC2
                clear hl hh
                go_wp2_with fail
                go_quiet (first | (go_at_call_of 64 lo; exact quietC HC1.out _) | (go_at_call_of 64 hi'; exact quietC HC2.out _))
                go_wp2
                go_ret
                exact ⟨ret_bool HR.out.symm, hbW.trans ((below_drewN hb _).mono hbW.size)⟩
              · rw [decide_eq_false hh] at HC2
                clear hl hh
                go_wp2_with fail
                go_quiet (first | (go_at_call_of 64 lo; exact quietC HC1.out _) | (go_at_call_of 64 hi'; exact quietC HC2.out _))
                go_wp2
                go_ret
                exact ⟨ret_bool HR.out.symm, hbW.trans ((below_drewN hb _).mono hbW.size)⟩
            · rw [decide_eq_false hl] at HC1
              clear hl
              go_wp2_with fail
              go_quiet (first | (go_at_call_of 64 lo; exact quietC HC1.out _) | (go_at_call_of 64 hi'; exact quietC HC2.out _))
              go_wp2
              go_ret
              exact ⟨ret_bool HR.out.symm, hbW.trans ((below_drewN hb _).mono hbW.size)⟩
        · have HSUB : Hid (∀ p ∈ subs, SubOk n p) := fun p hp => by
            obtain ⟨j, hj, e⟩ := List.getElem_of_mem hp
            exact HSB.out j (by have := HM.out; omega) p (by rw [List.getElem?_eq_getElem hj, e])
          clear HSB
          go_wp2_with fail
          refine (specUp ⟨names, subs⟩ S _ _ HOK.out (HV0.out.below (hbW.trans (hb.mono hbW.size))) (by have := HN.out; simp only; omega) (by have := HN.out; simp only; omega) (SortsOk.subsIn (s := ⟨names, subs⟩) (by have := HN.out; simp only; rw [this]; exact HSUB.out))).mono ?_
          rintro e w2 ⟨v, rfl, hI, hb2⟩
          have HUP := Lib.hid (up_ok (s := ⟨names, subs⟩) (SortsOk.subsIn (s := ⟨names, subs⟩) (by have := HN.out; simp only; rw [this]; exact HSUB.out)))
          rw [show (⟨names, subs⟩ : Srt).names.length = n from HN.out] at HUP
          have HT' : Hid ((∀ i k, i < n → k < n → PairOk (up ⟨names, subs⟩) i k) → isSorts ⟨names, subs⟩ = true) := fun h => HT.out ⟨by have := HN.out; simp only; omega, by have := HN.out; simp only; omega, by have := HM.out; simp only; omega, by have := HN.out; simp only; rw [this]; exact HNM.out, by have := HN.out; simp only; rw [this]; exact HSUB.out, by have := HN.out; simp only; rw [this]; exact h⟩
          have HF' : Hid ((∃ i k, i < n ∧ k < n ∧ ¬ PairOk (up ⟨names, subs⟩) i k) → isSorts ⟨names, subs⟩ = false) := fun ⟨i, k, hi, hk, hp⟩ => HF.out (fun h => hp (h.pairs i k (by have := HN.out; simp only; omega) (by have := HN.out; simp only; omega)))
          generalize up ⟨names, subs⟩ = u at hI HUP HT' HF'
          have hwb : Below w.heap.size w w2 := hbW.trans ((hb.trans (hb2.mono hb.size)).mono hbW.size)
          obtain ⟨A, cap, rfl, hcc, hmm, hA⟩ := hI.form
          rw [casts_len, HUP.out.1] at hA hcc
          obtain ⟨g, rfl, hg1, hg2⟩ := hA (by omega)
          have HI : Hid (Ints w2 wr.heap.size (Value.slice (some { block := g, off := 0 }) n cap) (casts u)) := by rw [casts_len, HUP.out.1] at hI; exact hI
          rw [casts_len, HUP.out.1]
          clear hI hA HT HF HNM HSUB HV0 E0 E1 pw0 pw1
          unfold maxLen at hmm
          have hb256 : 2 ^ n ≤ 2 ^ 8 := Nat.pow_le_pow_right (by omega) hn8
          have HC : Hid (∀ i, i < n → w2.cell? ⟨g, i, none⟩ = some (.int .i64 ((u.getD i 0 : Nat) : Int)) ∧ u.getD i 0 < 4611686018427387904) := fun i hi => by
            obtain ⟨q1, q2⟩ := HUP.out.get hi
            exact ⟨HI.out.cell (casts_get q1), by omega⟩
          clear hb256
          go_wp2
          go_loopw [6] (fun i wx => ∃ j : Nat, j ≤ n ∧ i = .int .i64 j ∧ (∀ a k, a < j → k < a → PairOk u a k) ∧ Below w2.heap.size w2 wx) (fun i _ => n - (intOf i).toNat)
          case atStart => exact ⟨0, Nat.zero_le _, rfl, fun a k h => absurd h (by omega), Below.refl _ _⟩
          case round =>
            obtain ⟨j, hj, rfl, hpairs, hbx⟩ := hrel
            have HPA := Lib.hid hpairs
            clear hpairs
            by_cases hjn : j < n
            · go_wp2
              have hbx0 := hbx
              clear hbx
              go_loopw [7] (fun i wx => ∃ k : Nat, k ≤ j ∧ i = .int .i64 k ∧ (∀ q, q < k → PairOk u j q) ∧ Below w2.heap.size w2 wx) (fun i _ => j - (intOf i).toNat)
              case atStart => exact ⟨0, Nat.zero_le _, rfl, fun q h => absurd h (by omega), hbx0⟩
              case round =>
                obtain ⟨k, hk, rfl, hpk, hbx⟩ := hrel
                have HPK := Lib.hid hpk
                clear hpk
                by_cases hkn : k < j
                · obtain ⟨c0, x0⟩ := HC.out j hjn
                  obtain ⟨c1, x1⟩ := HC.out k (by omega)
                  have d0 := (hbx.cell (p := ⟨g, j, none⟩) hg2).trans c0
                  have d1 := (hbx.cell (p := ⟨g, k, none⟩) hg2).trans c1
                  have HP : Hid (PairOk u j k ↔ ¬ (j ≠ k ∧ (u.getD j 0).testBit k = true ∧ (u.getD k 0).testBit j = true)) := Iff.rfl
                  have HF2 : Hid (¬ PairOk u j k → isSorts ⟨names, subs⟩ = false) := fun h => HF'.out ⟨j, k, hjn, by omega, h⟩
                  have HNX : Hid (PairOk u j k → ∀ q, q < k + 1 → PairOk u j q) := fun h q hq => by
                    by_cases hqk : q < k
                    · exact HPK.out q hqk
                    · obtain rfl : q = k := by omega
                      exact h
                  have HC1 := Lib.hid (specHas (u.getD j 0) k x0 (by omega))
                  have HC2 := Lib.hid (specHas (u.getD k 0) j x1 (by omega))
                  clear c0 c1 x0 x1
                  generalize u.getD j 0 = x at *
                  generalize u.getD k 0 = y at *
                  cases hA1 : x.testBit k
                  · rw [hA1] at HC1
                    have HO : Hid (PairOk u j k) := HP.out.2 (fun h => by rw [hA1] at h; exact absurd h.2.1 (by simp))
                    clear hA1
                    go_wp2_with (first | (go_at_call_of 134 x; refine (HC1.out _).mono ?_; rintro e w3 ⟨rfl, rfl⟩) | (go_at_call_of 134 y; refine (HC2.out _).mono ?_; rintro e w3 ⟨rfl, rfl⟩))
                    go_roundw
                    case rel => exact ⟨k + 1, by omega, by go_num, HNX.out HO.out, hbx⟩
                    case measure => simp [intOf]; omega
                  cases hA2 : y.testBit j
                  · rw [hA1] at HC1
                    rw [hA2] at HC2
                    have HO : Hid (PairOk u j k) := HP.out.2 (fun h => by rw [hA2] at h; exact absurd h.2.2 (by simp))
                    clear hA1 hA2
                    go_wp2_with (first | (go_at_call_of 134 x; refine (HC1.out _).mono ?_; rintro e w3 ⟨rfl, rfl⟩) | (go_at_call_of 134 y; refine (HC2.out _).mono ?_; rintro e w3 ⟨rfl, rfl⟩))
                    go_roundw
                    case rel => exact ⟨k + 1, by omega, by go_num, HNX.out HO.out, hbx⟩
                    case measure => simp [intOf]; omega
                  · rw [hA1] at HC1
                    rw [hA2] at HC2
                    have HO : Hid (isSorts ⟨names, subs⟩ = false) := HF2.out (fun h => HP.out.1 h ⟨by omega, hA1, hA2⟩)
                    clear hA1 hA2
                    go_wp2_with (first | (go_at_call_of 134 x; refine (HC1.out _).mono ?_; rintro e w3 ⟨rfl, rfl⟩) | (go_at_call_of 134 y; refine (HC2.out _).mono ?_; rintro e w3 ⟨rfl, rfl⟩))
                    go_ret
                    exact ⟨ret_bool HO.out.symm, hwb.trans (hbx.mono hwb.size)⟩
                · have HNX : Hid (∀ a k, a < j + 1 → k < a → PairOk u a k) := fun a q ha hq => by
                    by_cases haj : a < j
                    · exact HPA.out a q haj hq
                    · obtain rfl : a = j := by omega
                      exact HPK.out q (by omega)
                  go_wp2
                  go_roundw
                  case rel => exact ⟨j + 1, by omega, by go_num, HNX.out, hbx⟩
                  case measure => simp [intOf]; omega
            · obtain rfl : n = j := by omega
              have HO : Hid (isSorts ⟨names, subs⟩ = true) := HT'.out (fun i k hi hk => by
                by_cases h1 : k < i
                · exact HPA.out i k hi h1
                · intro ⟨h2, h3, h4⟩
                  exact HPA.out k i hk (by omega) ⟨fun e => h2 e.symm, h4, h3⟩)
              go_wp2
              go_ret
              exact ⟨ret_bool HO.out.symm, hwb.trans (hbx.mono hwb.size)⟩
end Go.Proofs.YtpbikjkjfojjiaaGreat

namespace Go.Proofs.YtpbikjkjfojjiaaGreat
open Go.RowKit

def kSub (l : List Nat) (p : Int × Int) : List Nat := (l.set p.1.toNat (min (l.getD p.1.toNat 0) (l.getD p.2.toNat 0))).set p.2.toNat (min (l.getD p.1.toNat 0) (l.getD p.2.toNat 0))
def kIter (subs : List (Int × Int)) : Nat → List Nat → List Nat
  | 0, l => l
  | k + 1, l => subs.foldl kSub (kIter subs k l)
def kinds (s : Srt) : List Nat := kIter s.subs s.names.length (List.range s.names.length)
def KOk (n : Nat) (l : List Nat) : Prop := l.length = n ∧ ∀ x ∈ l, x < n
theorem KOk.get {n : Nat} {l : List Nat} (h : KOk n l) {i : Nat} (hi : i < n) : l[i]? = some (l.getD i 0) ∧ l.getD i 0 < n := by
  have hl : i < l.length := by rw [h.1]; exact hi
  have e : l[i]? = some l[i] := List.getElem?_eq_getElem hl
  have e2 : l.getD i 0 = l[i] := by simp [List.getD, e]
  rw [e2]
  exact ⟨e, h.2 _ (List.getElem_mem hl)⟩
theorem KOk.sub {n : Nat} {l : List Nat} (h : KOk n l) {p : Int × Int} (hp : 0 ≤ p.1 ∧ p.1 < n ∧ 0 ≤ p.2 ∧ p.2 < n) : KOk n (kSub l p) := by
  refine ⟨by unfold kSub; rw [List.length_set, List.length_set]; exact h.1, fun x hx => ?_⟩
  have hm : min (l.getD p.1.toNat 0) (l.getD p.2.toNat 0) < n := by
    have := (h.get (i := p.1.toNat) (by omega)).2
    omega
  unfold kSub at hx
  rcases List.mem_or_eq_of_mem_set hx with hx | rfl
  · rcases List.mem_or_eq_of_mem_set hx with hx | rfl
    · exact h.2 x hx
    · exact hm
  · exact hm
theorem KOk.foldl {n : Nat} : ∀ {subs : List (Int × Int)} {l : List Nat}, KOk n l → SubsIn n subs → KOk n (subs.foldl kSub l)
  | [], l, h, _ => h
  | p :: ps, l, h, hs => KOk.foldl (subs := ps) (h.sub (hs p (by simp))) (fun q hq => hs q (by simp [hq]))
theorem KOk.iter {n : Nat} {subs : List (Int × Int)} (hs : SubsIn n subs) : ∀ (k : Nat) {l : List Nat}, KOk n l → KOk n (kIter subs k l)
  | 0, l, h => h
  | k + 1, l, h => (KOk.iter hs k h).foldl hs
theorem KOk.start (n : Nat) : KOk n (List.range n) := ⟨by simp, fun x hx => by simpa using hx⟩
theorem kinds_ok {s : Srt} (h : SubsIn s.names.length s.subs) : KOk s.names.length (kinds s) := KOk.iter h _ (KOk.start _)

set_option maxHeartbeats 2000000 in
set_option maxRecDepth 100000 in
theorem specKinds (s : Srt) (S : Nat → Prop) (us : List Value) (w : World) (hok : okSrt s) (hv : RepVals w S (encSrt s) us) (hn1 : 1 ≤ s.names.length) (hn : s.names.length ≤ 8) (hsb : ∀ p ∈ s.subs, SubOk s.names.length p) :
    Calls Tryz.prog 135 #[.agg us.toArray] w fun e w' => ∃ v, e = .returned v ∧ Ints w' w.heap.size v (casts (kinds s)) ∧ Below w.heap.size w w' := by
  have hin := SortsOk.subsIn hsb
  obtain ⟨names, subs⟩ := s
  simp only [encSrt] at hv
  have HSB := Lib.hid hsb
  obtain ⟨v0, v1, rfl, e0, e1⟩ := repVals_Sorts hv
  obtain ⟨A0, cap0, rfl, hc0, hm0⟩ := e0.shape
  obtain ⟨A1, cap1, rfl, hc1, hm1⟩ := e1.shape
  obtain ⟨i0, hi, hz0, hz1, hz2⟩ := info_parts info_Int
  have HIN := Lib.hid hin
  have HOK := Lib.hid hok
  have E1 := Lib.hid e1
  have HF : Hid (kinds ⟨names, subs⟩ = kIter subs names.length (List.range names.length)) := rfl
  clear hv e0 e1 hok hin hsb
  simp only at hn1 hn HSB
  generalize hN : names.length = n at *
  generalize hM : subs.length = m at *
  clear hN
  have HM := Lib.hid hM
  clear hM
  unfold maxLen at hm0 hm1
  go_enter Tryz.func135, Tryz.ntmps135
  go_wp2
  generalize hW : w.alloc _ = W
  have hbW : Below w.heap.size w W := by rw [← hW]; exact (Below.refl _ _).alloc (Nat.le_refl _) _
  have p0 : W.cell? ⟨w.heap.size, 0, none⟩ = some (.slice A0 n cap0) := by rw [← hW]; simp
  have p1 : W.cell? ⟨w.heap.size, 1, none⟩ = some (.slice A1 m cap1) := by rw [← hW]; simp
  have z1 : w.heap.size + 1 = W.heap.size := by rw [← hW]; simp
  clear hW
  rw [z1]
  go_loopw [3, 4] (fun v i wr => ∃ k : Nat, k ≤ n ∧ i = .int .i64 k ∧ Ints wr W.heap.size v (casts (List.range k)) ∧ Below W.heap.size W wr) (fun _ i _ => n - (intOf i).toNat)
  case atStart => exact ⟨0, Nat.zero_le _, rfl, Ints.empty W, (Below.refl _ _).alloc (Nat.le_refl _) _⟩
  case round =>
    obtain ⟨k, hk, rfl, hI, hb⟩ := hrel
    have pw := (hb.cell (p := ⟨w.heap.size, 0, none⟩) (show w.heap.size < W.heap.size by omega)).trans p0
    have HI := Lib.hid hI
    clear hI
    by_cases hkn : k < n
    · go_wp2_with (at_builtin; refine wpList_app_int rfl _ _ 69 rfl i0 Tryz.underlying69 hi hz0 hz1 hz2 W.heap.size _ _ rfl _ _ _ rfl HI.out rfl (by simp [casts]; omega) hb.size ?_; intro v' w1 hI1 hB1)
      go_roundw
      case rel => exact ⟨k + 1, by omega, by go_num, by rw [List.range_succ, casts_snoc]; exact hI1, hb.trans (hB1 _ (Nat.le_refl _))⟩
      case measure => simp [intOf]; omega
    · obtain rfl : n = k := by omega
      obtain ⟨A, cap, rfl, hcc, hmm, hA⟩ := HI.out.form
      obtain ⟨g, rfl, hg1, hg2⟩ := hA (by simp [casts]; omega)
      rw [casts_len, List.length_range] at HI hcc
      rw [casts_len, List.length_range]
      unfold maxLen at hmm
      go_wp2
      have hb1 := hb
      clear hb pw hA
      go_loopw [5] (fun i wr => ∃ j : Nat, j ≤ n ∧ i = .int .i64 j ∧ Ints wr W.heap.size (.slice (some ⟨g, 0, none⟩) n cap) (casts (kIter subs j (List.range n))) ∧ Below W.heap.size W wr) (fun i _ => n - (intOf i).toNat)
      case atStart => exact ⟨0, Nat.zero_le _, rfl, HI.out, hb1⟩
      case round =>
        obtain ⟨j, hj, rfl, hI, hb⟩ := hrel
        by_cases hjn : j < n
        · have HI2 := Lib.hid hI
          clear hI
          go_wp2
          have hb2 := hb
          clear hb
          go_loopw [6] (fun i wr => ∃ k : Nat, k ≤ m ∧ i = .int .i64 k ∧ Ints wr W.heap.size (.slice (some ⟨g, 0, none⟩) n cap) (casts ((subs.take k).foldl kSub (kIter subs j (List.range n)))) ∧ Below W.heap.size W wr) (fun i _ => m - (intOf i).toNat)
          case atStart => exact ⟨0, Nat.zero_le _, rfl, HI2.out, hb2⟩
          case round =>
            obtain ⟨k, hk, rfl, hI, hb⟩ := hrel
            have pw1 := (hb.cell (p := ⟨w.heap.size, 1, none⟩) (show w.heap.size < W.heap.size by omega)).trans p1
            have HI3 := Lib.hid hI
            clear hI
            by_cases hkm : k < m
            · obtain ⟨p, hp⟩ : ∃ p, subs[k]? = some p := ⟨_, List.getElem?_eq_getElem (by have := HM.out; omega)⟩
              obtain ⟨b, off, rfl, hS, hbz, hrow⟩ := Rep.at okSubR HOK.out.2 (E1.out.below (hbW.trans (hb.mono hbW.size))) hp
              obtain ⟨g0, g1, g2, g3, g4⟩ := HSB.out p (List.mem_of_getElem? hp)
              obtain ⟨lo, hi'⟩ := p
              simp only [encSub, RepRow, and_true, fieldsOf, List.length_cons, List.length_nil, Nat.reduceAdd, Rep.lit_iff] at hrow
              obtain ⟨⟨_, c0, rfl⟩, ⟨_, c1, rfl⟩⟩ := hrow
              simp only at g0 g1 g2 g3 g4
              obtain ⟨lo, rfl⟩ := Int.eq_ofNat_of_zero_le g0
              obtain ⟨hi', rfl⟩ := Int.eq_ofNat_of_zero_le g2
              have hne : hi' ≠ lo := by omega
              clear g4
              have hup := (KOk.iter HIN.out j (KOk.start n)).foldl (HIN.out.take k)
              have HL := Lib.hid hup.1
              obtain ⟨r0, t0⟩ := hup.get (i := lo) (by omega)
              obtain ⟨r1, t1⟩ := hup.get (i := hi') (by omega)
              have HST := Lib.hid (foldl_take (f := kSub) hp (kIter subs j (List.range n)))
              generalize hG : (subs.take k).foldl kSub (kIter subs j (List.range n)) = G at *
              have d0 := HI3.out.cell (casts_get r0)
              have d1 := HI3.out.cell (casts_get r1)
              have hlt : g < wr.heap.size := (HI3.out.lt _ rfl).2
              have HU : Hid (kSub G (lo, hi') = (G.set lo (min (G.getD lo 0) (G.getD hi' 0))).set hi' (min (G.getD lo 0) (G.getD hi' 0))) := by show _ = _; simp [kSub]
              clear hup t0 t1 r0 r1 hG hp
              generalize G.getD lo 0 = x0 at *
              generalize G.getD hi' 0 = x1 at *
              have HC : Hid (∀ w, Calls Tryz.prog 163 #[.int .i64 x0, .int .i64 x1] w fun e w' => e = .returned (.int .i64 ((min x0 x1 : Nat) : Int)) ∧ w = w') := fun w => by
                have := specMin x0 x1 w
                rw [show min (x0 : Int) (x1 : Int) = ((min x0 x1 : Nat) : Int) by omega] at this
                exact this
              have hln : lo < (casts G).length := by rw [casts_len, HL.out]; omega
              have hln' : hi' < ((casts G).set lo ((min x0 x1 : Nat) : Int)).length := by rw [List.length_set, casts_len, HL.out]; omega
              have HLN := Lib.hid hln
              have HLN' := Lib.hid hln'
              clear hln hln'
              generalize min x0 x1 = mn at *
              have f0 := HI3.out.frozen lo
              have f1 := HI3.out.frozen hi'
              go_wp2_with fail
              go_quiet (fail)
              go_wp2_with fail
              replace HI3 : Hid (Ints (wr.drewN nq) W.heap.size (.slice (some ⟨g, 0, none⟩) n cap) (casts G)) := HI3
              replace d0 : (wr.drewN nq).cell? ⟨g, lo, none⟩ = some (.int .i64 x0) := d0
              replace d1 : (wr.drewN nq).cell? ⟨g, hi', none⟩ = some (.int .i64 x1) := d1
              replace f0 : (wr.drewN nq).frozen? ⟨g, lo, none⟩ = false := f0
              replace f1 : (wr.drewN nq).frozen? ⟨g, hi', none⟩ = false := f1
              replace hb := below_drewN hb nq
              generalize wr.drewN nq = wq at HI3 d0 d1 f0 f1 hb ⊢
              go_quiet (first | (go_at_call 163; exact quietC (fun n => HC.out _) _))
              go_wp2
              go_roundw
              case rel =>
                refine ⟨k + 1, by omega, by go_num, ?_, ((below_drewN hb _).setCell (p := ⟨g, lo, none⟩) hg1 _).setCell (p := ⟨g, hi', none⟩) hg1 _⟩
                rw [HST.out, HU.out, casts_set, casts_set]
                have h1 : Ints _ _ _ _ := Ints.set (w := wq.drewN nq) HI3.out HLN.out (mn : Int)
                exact h1.set HLN'.out _
              case measure => simp [intOf]; omega
            · have HT : Hid (subs.take k = subs) := List.take_of_length_le (by have := HM.out; omega)
              go_wp2
              go_roundw
              case rel => exact ⟨j + 1, by omega, by go_num, by have := HI3.out; rw [HT.out] at this; exact this, hb⟩
              case measure => simp [intOf]; omega
        · obtain rfl : n = j := by omega
          have HI4 := Lib.hid hI
          clear hI
          go_wp2
          go_ret
          exact ⟨_, rfl, by rw [HF.out]; exact HI4.out.base_le hbW.size, hbW.trans (hb.mono hbW.size)⟩
end Go.Proofs.YtpbikjkjfojjiaaGreat

namespace Go.Proofs.YtpbikjkjfojjiaaGreat
open Go.RowKit

theorem con_cmpOf {f : FuncId} (hb : hasBody e0.P f = true) {a b : Tm} (h : cmpTmC f a b) (ha : okTm a) (hk : okTm b) : Con e0 f [.agg (encTm a), .agg (encTm b)] [.one (.lit (.int .i64 (cmpTm a b)))] := by
  refine con_below e0_ok hb fun w S vs hv => ?_
  match vs, hv with
  | [v, u], hv =>
    obtain ⟨⟨us, rfl, hu⟩, ⟨us', rfl, hu'⟩, _⟩ := hv
    exact (h S S us us' w ha hk hu hu').mono fun e w' ⟨h1, h2⟩ => ⟨_, h1, h2, by simp [retA, ARel, DRel, Rep]⟩
theorem con_implCmp {a b : Tm} (ha : okTm a) (hk : okTm b) : Con e0 123 [.agg (encTm a), .agg (encTm b)] [.one (.lit (.int .i64 (cmpTm a b)))] := con_cmpOf (by kernel_rfl) (implCompareTerms a b) ha hk
theorem con_specCmp {a b : Tm} (ha : okTm a) (hk : okTm b) : Con e0 121 [.agg (encTm a), .agg (encTm b)] [.one (.lit (.int .i64 (cmpTm a b)))] := con_cmpOf (by kernel_rfl) (specCompareTerms a b) ha hk
theorem con_nameOf {f : FuncId} (hb : hasBody e0.P f = true) {s : ByteArray} (h : ∀ w, Calls Tryz.prog f #[.string s] w fun e w' => e = .returned (.bool (isName s)) ∧ w = w') : Con e0 f [.one (.lit (.string s))] [.one (.lit (.bool (isName s)))] := by
  refine con_below e0_ok hb fun w S vs hv => ?_
  match vs, hv with
  | [v], hv =>
    obtain ⟨hv, _⟩ := hv
    have hv : v = .string s := by simpa [DRel, Rep] using hv
    subst hv
    exact (h w).mono fun e w' ⟨h1, h2⟩ => ⟨_, h1, by subst h2; exact Below.refl _ _, by simp [retA, ARel, DRel, Rep]⟩
theorem con_implName {s : ByteArray} (hs : s.size ≤ maxLen) : Con e0 143 [.one (.lit (.string s))] [.one (.lit (.bool (isName s)))] := con_nameOf (by kernel_rfl) (implIsName s hs)
theorem con_specName {s : ByteArray} (hs : s.size ≤ maxLen) : Con e0 93 [.one (.lit (.string s))] [.one (.lit (.bool (isName s)))] := con_nameOf (by kernel_rfl) (specIsName s hs)
theorem Below.size_le {B : Nat} {w w' : World} (h : Below B w w') : w.heap.size ≤ w'.heap.size := h.size
theorem Ints.repIn {w : World} {base : Nat} {v : Value} {l : List Int} (h : Ints w base v l) (S : Nat → Prop) : Rep w (fun b => S b ∨ (base ≤ b ∧ b < w.heap.size)) (.sl (l.map encInt)) v :=
  (Rep.inside _ _ h.rep).mono fun b hb => .inr hb
theorem con_l3Kinds {s : Srt} (hok : okSrt s) (hs : SortsOk s) : Con e0 135 [.agg (encSrt s)] [.one (.sl ((casts (kinds s)).map encInt))] := by
  refine con_below e0_ok (by kernel_rfl) fun w S vs hv => ?_
  match vs, hv with
  | [v], hv =>
    obtain ⟨⟨us, rfl, hu⟩, _⟩ := hv
    exact (specKinds s S us w hok hu hs.n1 hs.n8 hs.subs).mono fun e w' ⟨v, h1, h2, h3⟩ => ⟨_, h1, h3, h2.repIn S⟩

/-! Sizes and depths. -/
theorem sizeTms_app (a b : List Tm) : sizeTms (a ++ b) = sizeTms a + sizeTms b := by
  induction a with
  | nil => simp [sizeTms]
  | cons x xs ih => simp only [List.cons_append, sizeTms, ih]; omega
theorem sizeTms_mem {ts : List Tm} {t : Tm} (h : t ∈ ts) : sizeTm t ≤ sizeTms ts := by
  induction ts with
  | nil => cases h
  | cons x xs ih =>
    simp only [sizeTms]
    rcases List.mem_cons.1 h with rfl | h
    · omega
    · have := ih h; omega
theorem sizeTms_snoc {ts : List Tm} {i : Nat} {t : Tm} (h : ts[i]? = some t) : sizeTms (ts.take (i + 1)) = sizeTms (ts.take i) + sizeTm t := by
  rw [take_snoc h, sizeTms_app]; simp [sizeTms]
theorem sizeTms_take (ts : List Tm) (i : Nat) : sizeTms (ts.take i) ≤ sizeTms ts := by
  have := sizeTms_app (ts.take i) (ts.drop i)
  rw [List.take_append_drop] at this
  omega
theorem sizeTms_len (ts : List Tm) : ts.length ≤ sizeTms ts := by
  induction ts with
  | nil => simp [sizeTms]
  | cons x xs ih => cases x; simp only [List.length_cons, sizeTms, sizeTm]; omega
mutual
def depthTm : Tm → Nat
  | .mk _ _ _ a => 1 + depthTms a
def depthTms : List Tm → Nat
  | [] => 0
  | t :: ts => max (depthTm t) (depthTms ts)
end
mutual
theorem depth_size : ∀ t : Tm, depthTm t ≤ sizeTm t
  | .mk _ _ _ a => by
    have := depths_size a
    simp only [depthTm, sizeTm]; omega
theorem depths_size : ∀ ts : List Tm, depthTms ts ≤ sizeTms ts
  | [] => by simp [depthTms]
  | t :: ts => by
    have := depth_size t
    have := depths_size ts
    simp only [depthTms, sizeTms]; omega
end
theorem depthTms_app (a b : List Tm) : depthTms (a ++ b) = max (depthTms a) (depthTms b) := by
  induction a with
  | nil => simp [depthTms]
  | cons x xs ih => simp only [List.cons_append, depthTms, ih]; omega
theorem depthTms_snoc {ts : List Tm} {i : Nat} {t : Tm} (h : ts[i]? = some t) : depthTms (ts.take (i + 1)) = max (depthTms (ts.take i)) (depthTm t) := by
  rw [take_snoc h, depthTms_app]; simp [depthTms]
theorem depthTms_mem {ts : List Tm} {t : Tm} (h : t ∈ ts) : depthTm t ≤ depthTms ts := by
  induction ts with
  | nil => cases h
  | cons x xs ih =>
    simp only [depthTms]
    rcases List.mem_cons.1 h with rfl | h
    · omega
    · have := ih h; omega
theorem depthTms_take (ts : List Tm) (i : Nat) : depthTms (ts.take i) ≤ depthTms ts := by
  have := depthTms_app (ts.take i) (ts.drop i)
  rw [List.take_append_drop] at this
  omega
theorem encTm_u : ∀ op nm so args, encTm (.mk op nm so args) = [.lit (.int .i64 op), .lit (.string nm), .lit (.int .i64 so), .sl (encTms args)] := fun _ _ _ _ => by rw [encTm]
theorem sizeTm_u : ∀ op nm so args, sizeTm (.mk op nm so args) = 1 + sizeTms args := fun _ _ _ _ => by rw [sizeTm]
theorem depthTm_u : ∀ op nm so args, depthTm (.mk op nm so args) = 1 + depthTms args := fun _ _ _ _ => by rw [depthTm]
theorem sizeTms_u : sizeTms [] = 0 := by rw [sizeTms]
theorem depthTms_u : depthTms [] = 0 := by rw [depthTms]
def big : Nat := 4611686018427387904

set_option maxHeartbeats 4000000 in
set_option maxRecDepth 100000 in
theorem con_implSize_all : ∀ (n : Nat) (t : Tm), sizeTm t < n → sizeTm t ≤ big → Con e0 149 [.agg (encTm t)] [.one (.lit (.int .i64 (sizeTm t)))] := by
  intro n
  induction n with
  | zero => intro t h; omega
  | succ n ih =>
    intro t hn hb
    obtain ⟨op, nm, so, args⟩ := t
    simp only [sizeTm, big] at hn hb
    have hal := sizeTms_len args
    refine gI 1967 Tryz.func149 ?_
    (have F := And.intro @encTm_u @tmz; refine gG ?_; clear F)
    (have F := @sizeTms_u; refine gL (ι := Nat) [3, 5, 9, 10] [] (fun i => [(9, A.d (.one (.lit (.int .i64 i)))), (3, A.d (.one (.lit (.int .i64 ((1 + sizeTms (args.take i) : Nat) : Int)))))]) (fun i => []) (fun i => i ≤ args.length) (fun i => args.length - i) (0) (by omega) (fun i hi => ?_); clear F)
    by_cases hl : i < args.length
    rotate_left
    · have hl' : ¬ ((i : Int) < (args.length : Int)) := by omega
      have e : args.take i = args := List.take_of_length_le (by omega)
      (have F := And.intro @hl' (And.intro @e @sizeTm_u); refine gG ?_; exact gT)
    have hl' : (i : Int) < (args.length : Int) := by omega
    obtain ⟨a, ha⟩ : ∃ a, args[i]? = some a := ⟨_, List.getElem?_eq_getElem hl⟩
    have hs := sizeTms_snoc ha
    have ht := sizeTms_take args (i + 1)
    have hm := sizeTms_mem (List.mem_of_getElem? ha)
    have hw : IntKind.i64.wrap (((1 + sizeTms (args.take i) : Nat) : Int) + (sizeTm a : Int)) = ((1 + sizeTms (args.take (i + 1)) : Nat) : Int) := wrapN (by omega) (by omega) (by omega)
    have hw1 := wrap1 (k := i) (by omega)
    (have F := And.intro @hl' (And.intro @tmz @ha); refine gG ?_; clear F)
    refine gB ?_
    (have F := @tmz; refine gC (ih a (by omega) (by unfold big; omega)) ?_; clear F)
    (have F := @hw; refine gR ?_; clear F)
    (have F := And.intro @hw1 (And.intro @hw @tmz); refine gG ?_; exact ⟨i + 1, by omega, gw, gw, by omega⟩)
theorem con_implSize {t : Tm} (h : sizeTm t ≤ big) : Con e0 149 [.agg (encTm t)] [.one (.lit (.int .i64 (sizeTm t)))] := con_implSize_all _ t (Nat.lt_succ_self _) h
set_option maxHeartbeats 4000000 in
set_option maxRecDepth 100000 in
theorem con_implDepth_all : ∀ (n : Nat) (t : Tm), sizeTm t < n → sizeTm t ≤ big → Con e0 150 [.agg (encTm t)] [.one (.lit (.int .i64 (depthTm t)))] := by
  intro n
  induction n with
  | zero => intro t h; omega
  | succ n ih =>
    intro t hn hb
    obtain ⟨op, nm, so, args⟩ := t
    simp only [sizeTm, big] at hn hb
    have hal := sizeTms_len args
    have hds := depths_size args
    refine gI 1967 Tryz.func150 ?_
    (have F := And.intro @encTm_u @tmz; refine gG ?_; clear F)
    (have F := @depthTms_u; refine gL (ι := Nat) [3, 5, 9, 10] [] (fun i => [(9, A.d (.one (.lit (.int .i64 i)))), (3, A.d (.one (.lit (.int .i64 ((depthTms (args.take i) : Nat) : Int)))))]) (fun i => []) (fun i => i ≤ args.length) (fun i => args.length - i) (0) (by omega) (fun i hi => ?_); clear F)
    by_cases hl : i < args.length
    rotate_left
    · have hl' : ¬ ((i : Int) < (args.length : Int)) := by omega
      have e : args.take i = args := List.take_of_length_le (by omega)
      have hw : IntKind.i64.wrap ((depthTms args : Int) + 1) = ((1 + depthTms args : Nat) : Int) := wrapN (by omega) (by omega) (by omega)
      (have F := And.intro @hl' (And.intro @e (And.intro @hw @depthTm_u)); refine gG ?_; exact gT)
    have hl' : (i : Int) < (args.length : Int) := by omega
    obtain ⟨a, ha⟩ : ∃ a, args[i]? = some a := ⟨_, List.getElem?_eq_getElem hl⟩
    have hs := depthTms_snoc ha
    have hm := sizeTms_mem (List.mem_of_getElem? ha)
    have hw : (if (depthTm a : Int) > (depthTms (args.take i) : Int) then (depthTm a : Int) else (depthTms (args.take i) : Int)) = ((depthTms (args.take (i + 1)) : Nat) : Int) := by
      split <;> omega
    have hw1 := wrap1 (k := i) (by omega)
    (have F := And.intro @hl' (And.intro @tmz @ha); refine gG ?_; clear F)
    refine gB ?_
    (have F := @tmz; refine gC (ih a (by omega) (by unfold big; omega)) ?_; clear F)
    (have F := @hw; refine gR ?_; clear F)
    (have F := And.intro @hw1 (And.intro @hw @tmz); refine gG ?_; exact ⟨i + 1, by omega, gw, gw, by omega⟩)
theorem con_implDepth {t : Tm} (h : sizeTm t ≤ big) : Con e0 150 [.agg (encTm t)] [.one (.lit (.int .i64 (depthTm t)))] := con_implDepth_all _ t (Nat.lt_succ_self _) h
set_option maxHeartbeats 4000000 in
set_option maxRecDepth 100000 in
theorem con_l1Max (a b : Int) : Con e0 164 [.one (.lit (.int .i64 a)), .one (.lit (.int .i64 b))] [.one (.lit (.int .i64 (max a b)))] := by
  refine gI 147 Tryz.func164 ?_
  by_cases h : b < a
  · have e : max a b = a := by omega
    (have F := And.intro @h @e; refine gG ?_; exact gT)
  · have e : max a b = b := by omega
    (have F := And.intro @h @e; refine gG ?_; exact gT)
set_option maxHeartbeats 4000000 in
set_option maxRecDepth 100000 in
theorem con_specDepth_all : ∀ (n : Nat) (t : Tm), sizeTm t < n → sizeTm t ≤ big → Con e0 137 [.agg (encTm t)] [.one (.lit (.int .i64 (depthTm t)))] := by
  intro n
  induction n with
  | zero => intro t h; omega
  | succ n ih =>
    intro t hn hb
    obtain ⟨op, nm, so, args⟩ := t
    simp only [sizeTm, big] at hn hb
    have hal := sizeTms_len args
    have hds := depths_size args
    refine gI 543 Tryz.func137 ?_
    (have F := And.intro @encTm_u @tmz; refine gG ?_; clear F)
    (have F := @depthTms_u; refine gL (ι := Nat) [3, 4, 9] [] (fun i => [(4, A.d (.one (.lit (.int .i64 i)))), (3, A.d (.one (.lit (.int .i64 ((depthTms (args.take i) : Nat) : Int)))))]) (fun i => []) (fun i => i ≤ args.length) (fun i => args.length - i) (0) (by omega) (fun i hi => ?_); clear F)
    by_cases hl : i < args.length
    rotate_left
    · have hl' : ¬ ((i : Int) < (args.length : Int)) := by omega
      have e : args.take i = args := List.take_of_length_le (by omega)
      have hw : IntKind.i64.wrap ((depthTms args : Int) + 1) = ((1 + depthTms args : Nat) : Int) := wrapN (by omega) (by omega) (by omega)
      (have F := And.intro @hl' (And.intro @e (And.intro @hw (And.intro @depthTm_u @tmz))); refine gG ?_; exact gT)
    have hl' : (i : Int) < (args.length : Int) := by omega
    obtain ⟨a, ha⟩ : ∃ a, args[i]? = some a := ⟨_, List.getElem?_eq_getElem hl⟩
    have hs := depthTms_snoc ha
    have hm := sizeTms_mem (List.mem_of_getElem? ha)
    have hw : max (depthTms (args.take i) : Int) (depthTm a : Int) = ((depthTms (args.take (i + 1)) : Nat) : Int) := by omega
    have hw1 := wrap1 (k := i) (by omega)
    (have F := And.intro @hl' (And.intro @tmz @ha); refine gG ?_; clear F)
    refine gB ?_
    (have F := And.intro @tmz @ha; refine gC (ih a (by omega) (by unfold big; omega)) ?_; clear F)
    (have F := @tmz; refine gC (con_l1Max _ _) ?_; clear F)
    (have F := @hw; refine gR ?_; clear F)
    (have F := And.intro @hw1 (And.intro @hw @tmz); refine gG ?_; exact ⟨i + 1, by omega, gw, gw, by omega⟩)
theorem con_specDepth {t : Tm} (h : sizeTm t ≤ big) : Con e0 137 [.agg (encTm t)] [.one (.lit (.int .i64 (depthTm t)))] := con_specDepth_all _ t (Nat.lt_succ_self _) h
end Go.Proofs.YtpbikjkjfojjiaaGreat

namespace Go.Proofs.YtpbikjkjfojjiaaGreat
open Go.RowKit

theorem implIsSet (n : Int) (w : World) : Calls Tryz.prog 169 #[.int .i64 n] w fun e w' => e = .returned (.bool (decide (0 ≤ n ∧ n ≤ 65535))) ∧ w = w' := by
  go_enter Tryz.func169, Tryz.ntmps169
  go_wp2
  all_goals
    go_ret
    exact ⟨ret_bool (by rw [Bool.eq_iff_iff]; simp; try omega), rfl⟩
def bitsTo (a k : Nat) : List Nat := (List.range k).filter (fun j => a.testBit j)
def listOf (a : Nat) : List Nat := bitsTo a 16
theorem bitsTo_yes {a k : Nat} (h : a.testBit k = true) : bitsTo a (k + 1) = bitsTo a k ++ [k] := by simp [bitsTo, List.range_succ, List.filter_append, h]
theorem bitsTo_no {a k : Nat} (h : a.testBit k = false) : bitsTo a (k + 1) = bitsTo a k := by simp [bitsTo, List.range_succ, List.filter_append, h]
theorem bitsTo_len (a k : Nat) : (bitsTo a k).length ≤ k := by
  have := List.length_filter_le (fun j => a.testBit j) (List.range k)
  simpa [bitsTo] using this
theorem and_bit0 {x k : Nat} (hx : x < 4611686018427387904) (hk : k < 62) : (bits .and .i64 (x : Int) (wrap64 (2 ^ k)) != 0) = x.testBit k ∧ (bits .and .i64 (x : Int) (wrap64 (2 ^ k)) == 0) = !x.testBit k := by
  rw [shl_one hk, bits_and hx (pow_lt62 hk), ← testBit_and]
  generalize x &&& 2 ^ k = y
  constructor
  · rw [Bool.eq_iff_iff]
    simp
  · rw [Bool.eq_iff_iff]
    simp
set_option maxHeartbeats 1000000 in
set_option maxRecDepth 100000 in
theorem implListOf (a : Nat) (ha : a < 65536) (w : World) : Calls Tryz.prog 148 #[.int .i64 a] w fun e w' => ∃ v, e = .returned v ∧ Ints w' w.heap.size v (casts (listOf a)) ∧ Below w.heap.size w w' := by
  obtain ⟨i0, hi, hz0, hz1, hz2⟩ := info_parts info_Int
  have HC : Hid (∀ w, Calls Tryz.prog 169 #[.int .i64 a] w fun e w' => e = .returned (.bool true) ∧ w = w') := fun w => by
    have := implIsSet a w
    rw [decide_eq_true (by omega)] at this
    exact this
  go_enter Tryz.func148, Tryz.ntmps148
  go_wp2
  go_loopw [3, 4] (fun v i wr => ∃ k : Nat, k ≤ 16 ∧ i = .int .i64 k ∧ Ints wr w.heap.size v (casts (bitsTo a k)) ∧ Below w.heap.size w wr) (fun _ i _ => 16 - (intOf i).toNat)
  case atStart => exact ⟨0, Nat.zero_le _, rfl, Ints.empty w, (Below.refl _ _).alloc (Nat.le_refl _) _⟩
  case round =>
    obtain ⟨k, hk, rfl, hI, hb⟩ := hrel
    have HI := Lib.hid hI
    clear hI
    by_cases hkn : k < 16
    · obtain ⟨f0, f1⟩ := and_bit0 (x := a) (k := k) (by omega) (by omega)
      have hlen := bitsTo_len a k
      cases ht : a.testBit k
      · have HT := Lib.hid ht
        rw [ht] at f0 f1
        clear ht
        go_wp2_with (go_at_call 169; refine (HC.out _).mono ?_; rintro e w2 ⟨rfl, rfl⟩)
        go_roundw
        case rel => exact ⟨k + 1, by omega, by go_num, by rw [bitsTo_no HT.out]; exact HI.out, hb⟩
        case measure => simp [intOf]; omega
      · have HT := Lib.hid ht
        rw [ht] at f0 f1
        clear ht
        go_wp2_with (first
          | (go_at_call 169; refine (HC.out _).mono ?_; rintro e w2 ⟨rfl, rfl⟩)
          | (at_builtin; refine wpList_app_int rfl _ _ 69 rfl i0 Tryz.underlying69 hi hz0 hz1 hz2 w.heap.size _ _ rfl _ _ _ rfl HI.out rfl (by rw [casts_len]; omega) hb.size ?_; intro v' w1 hI1 hB1))
        go_roundw
        case rel => exact ⟨k + 1, by omega, by go_num, by rw [bitsTo_yes HT.out, casts_snoc]; exact hI1, hb.trans (hB1 _ (Nat.le_refl _))⟩
        case measure => simp [intOf]; omega
    · obtain rfl : k = 16 := by omega
      go_wp2_with (go_at_call 169; refine (HC.out _).mono ?_; rintro e w2 ⟨rfl, rfl⟩)
      go_ret
      exact ⟨_, rfl, HI.out, hb⟩
end Go.Proofs.YtpbikjkjfojjiaaGreat

namespace Go.Proofs.YtpbikjkjfojjiaaGreat
open Go.RowKit

theorem make_ints (n : Nat) (hn : n ≤ 1048576) (w : World) : (Instr.makeSlice 69 (.int .i64 n) (.int .i64 n)).run Tryz.prog w = .ok (.slice (some ⟨w.heap.size, 0, none⟩) n n) (w.alloc (.cells (madeCells #[Value.int .i64 0] n) 3)) := by
  obtain ⟨i0, hi, hz0, hz1, hz2⟩ := info_parts info_Int
  have := run_make (P := Tryz.prog) w 69 3 i0 _ Tryz.underlying69 hi hz0 .i64 .i64 (n : Int) (n : Int) (by omega) (by omega) (by rw [hz2]; omega) (by omega)
  rw [this, hz1]
  simp [Value.cells]
theorem info_order : (Tryz.prog.info? 164).map (fun i => (i.zero, i.size, i.bytes)) = some (some (.agg #[.slice none 0 0, .slice none 0 0, .slice none 0 0]), 3, 72) := by kernel_rfl
set_option maxHeartbeats 2000000 in
set_option maxRecDepth 100000 in
theorem implNewOrder_not (s : Srt) (S : Nat → Prop) (us : List Value) (w : World) (hok : okSrt s) (hv : RepVals w S (encSrt s) us) (hs : ¬ SortsOk s) :
    Calls Tryz.prog 106 #[.agg us.toArray] w fun e w' => e = .returned (.tuple #[.agg #[.slice none 0 0, .slice none 0 0, .slice none 0 0], .bool false]) ∧ Below w.heap.size w w' := by
  obtain ⟨names, subs⟩ := s
  have hv0 := hv
  simp only [encSrt] at hv
  obtain ⟨v0, v1, rfl, e0, e1⟩ := repVals_Sorts hv
  obtain ⟨A0, cap0, rfl, hc0, hm0⟩ := e0.shape
  obtain ⟨A1, cap1, rfl, hc1, hm1⟩ := e1.shape
  obtain ⟨ic, hci, _, hcs, _⟩ := info_parts info_Sub'
  obtain ⟨io, hoi, _, hos, _⟩ := info_parts info_order
  have HOK := Lib.hid hok
  have HV0 := Lib.hid hv0
  have E1 := Lib.hid e1
  clear hv hv0 e0 e1 hok
  generalize hN : names.length = n at *
  generalize hM : subs.length = m at *
  have HN := Lib.hid hN
  have HM := Lib.hid hM
  clear hM hN
  unfold maxLen at hm0 hm1
  have HS := Lib.hid (implIsSorts ⟨names, subs⟩ S [.slice A0 n cap0, .slice A1 m cap1])
  rw [isSorts_false hs] at HS
  clear hs
  go_enter Tryz.func106, Tryz.ntmps106
  go_wp2_with fail
  generalize hW : (w.alloc _).alloc _ = W
  have hbW : Below w.heap.size w W := by rw [← hW]; exact ((Below.refl _ _).alloc (Nat.le_refl _) _).alloc (by simp) _
  have hrow : W.heap[w.heap.size + 1]? = some (.cells #[.slice none 0 0, .slice none 0 0, .slice none 0 0] 164 (0, 0)) := by rw [← hW]; have := heap_alloc_new (w.alloc (.cells #[.slice A0 n cap0, .slice A1 m cap1] 40)) (.cells #[.slice none 0 0, .slice none 0 0, .slice none 0 0] 164); simpa using this
  have z1 : w.heap.size + 1 < W.heap.size := by rw [← hW]; simp
  clear hW
  refine (HS.out W HOK.out (HV0.out.below hbW)).mono ?_
  rintro e w2 ⟨rfl, hb2⟩
  have HR := Lib.hid ((hb2.block _ z1).trans hrow)
  clear hrow
  go_wp2_with (refine wpList_store_put rfl 164 _ _ rfl (w.heap.size + 1) 0 rfl [.slice none 0 0, .slice none 0 0, .slice none 0 0] rfl io hoi hos 164 _ HR.out (by simp) (by simp [Value.oneCell']) ?_; intro w3 hput)
  have c0 := hput.new 0 _ rfl
  have c1 := hput.new 1 _ rfl
  have c2 := hput.new 2 _ rfl
  simp only [Nat.zero_add] at c0 c1 c2
  refine bodyPost_ret (v := .tuple #[.agg #[.slice none 0 0, .slice none 0 0, .slice none 0 0], .bool false]) (by simp [results, Tryz.results106, go_sem, c0, c1, c2]) rfl ⟨rfl, ?_⟩
  exact (hbW.trans (hb2.mono hbW.size)).trans ⟨hput.os, hput.tape, hput.output, by have := hput.size; omega, fun x hx => hput.other x (by omega)⟩


/-! The sorts below each sort, as the program gathers them. -/
def downIn (i : Nat) (l : List Nat) (ks : List Nat) : List Nat := ks.foldl (fun l k => l.set k (l.getD k 0 ||| 2 ^ i)) l
def downs (u : List Nat) : Nat → List Nat → List Nat
  | 0, l => l
  | m + 1, l => downIn m (downs u m l) (listOf (u.getD m 0))
def down (s : Srt) : List Nat := downs (up s) s.names.length (List.replicate s.names.length 0)
theorem UpOk.or {n : Nat} {l : List Nat} (h : UpOk n l) {k i : Nat} (hk : k < n) (hi : i < n) : UpOk n (l.set k (l.getD k 0 ||| 2 ^ i)) := by
  refine ⟨by rw [List.length_set]; exact h.1, fun x hx => ?_⟩
  rcases List.mem_or_eq_of_mem_set hx with hx | rfl
  · exact h.2 x hx
  · exact Nat.or_lt_two_pow (h.get hk).2 (Nat.pow_lt_pow_right (by omega) hi)
theorem UpOk.downIn {n i : Nat} (hi : i < n) : ∀ {ks l : List Nat}, UpOk n l → (∀ k ∈ ks, k < n) → UpOk n (downIn i l ks)
  | [], l, h, _ => h
  | k :: ks, l, h, hk => UpOk.downIn (ks := ks) hi (h.or (hk k (by simp)) hi) (fun q hq => hk q (by simp [hq]))
theorem listOf_lt {a n : Nat} (h : a < 2 ^ n) : ∀ k ∈ listOf a, k < n := by
  intro k hk
  simp only [listOf, bitsTo, List.mem_filter, List.mem_range] at hk
  refine Decidable.byContradiction fun hn => ?_
  have := Nat.testBit_lt_two_pow (Nat.lt_of_lt_of_le h (Nat.pow_le_pow_right (by omega) (by omega : n ≤ k)))
  rw [this] at hk
  simp at hk
theorem UpOk.downs {n : Nat} {u : List Nat} (hu : UpOk n u) : ∀ (m : Nat) {l : List Nat}, m ≤ n → UpOk n l → UpOk n (downs u m l)
  | 0, l, _, h => h
  | m + 1, l, hm, h => (UpOk.downs hu m (by omega) h).downIn (by omega) (listOf_lt (hu.get (by omega)).2)
theorem UpOk.zeros (n : Nat) : UpOk n (List.replicate n 0) := ⟨by simp, fun x hx => by rw [(List.mem_replicate.1 hx).2]; exact Nat.two_pow_pos n⟩
theorem down_ok {s : Srt} (h : SubsIn s.names.length s.subs) : UpOk s.names.length (down s) := UpOk.downs (up_ok h) _ (Nat.le_refl _) (UpOk.zeros _)
/-- The kinds while the first k of n are laid. -/
def kFill (n k : Nat) : List Nat := List.range k ++ List.replicate (n - k) 0
theorem kFill_len {n k : Nat} (h : k ≤ n) : (kFill n k).length = n := by simp [kFill]; omega
theorem kFill_set {n k : Nat} (h : k < n) : (kFill n k).set k k = kFill n (k + 1) := by
  unfold kFill
  rw [List.set_append_right _ _ (by simp), List.length_range, Nat.sub_self, List.range_succ]
  obtain ⟨m, hm⟩ : ∃ m, n - k = m + 1 := ⟨n - k - 1, by omega⟩
  rw [hm, show n - (k + 1) = m by omega]
  simp [List.replicate_succ]
theorem kFill_end (n : Nat) : kFill n n = List.range n := by simp [kFill]

/-- The three rows of an order, in blocks apart, and the variable that holds them. -/
structure Trio (w : World) (B g ga gb gk ca cb ck n : Nat) (la lb lk : List Nat) : Prop where
  row : w.heap[g]? = some (.cells #[.slice (some ⟨ga, 0, none⟩) n ca, .slice (some ⟨gb, 0, none⟩) n cb, .slice (some ⟨gk, 0, none⟩) n ck] 164 (0, 0))
  ia : Ints w B (.slice (some ⟨ga, 0, none⟩) n ca) (casts la)
  ib : Ints w B (.slice (some ⟨gb, 0, none⟩) n cb) (casts lb)
  ik : Ints w B (.slice (some ⟨gk, 0, none⟩) n ck) (casts lk)
  d1 : ga ≠ gb
  d2 : ga ≠ gk
  d3 : gb ≠ gk
  e1 : ga ≠ g
  e2 : gb ≠ g
  e3 : gk ≠ g
  hg : B ≤ g
section
variable {w w' : World} {B g ga gb gk ca cb ck n : Nat} {la lb lk : List Nat}
theorem Trio.cells (h : Trio w B g ga gb gk ca cb ck n la lb lk) : w.cell? ⟨g, 0, none⟩ = some (.slice (some ⟨ga, 0, none⟩) n ca) ∧ w.cell? ⟨g, 1, none⟩ = some (.slice (some ⟨gb, 0, none⟩) n cb) ∧ w.cell? ⟨g, 2, none⟩ = some (.slice (some ⟨gk, 0, none⟩) n ck) := by
  refine ⟨?_, ?_, ?_⟩ <;> rw [cell_of_row w g _ _ _ _ h.row] <;> rfl
theorem Trio.below (h : Trio w B g ga gb gk ca cb ck n la lb lk) (hb : Below w.heap.size w w') : Trio w' B g ga gb gk ca cb ck n la lb lk :=
  { h with row := by rw [hb.block g (Array.getElem?_eq_some_iff.1 h.row).1]; exact h.row, ia := h.ia.below hb, ib := h.ib.below hb, ik := h.ik.below hb }
theorem Ints.other {v : Value} {l : List Int} {b : Nat} (h : Ints w B v l) (p : Nat) (x : Value) (hv : v.ownBlock = some b) (hp : b ≠ p) (i : Nat) : Ints (w.setCell ⟨p, i, none⟩ x) B v l := by
  refine World.ownsRow.kept (row := some p) h ⟨rfl, rfl, rfl, by simp [World.setCell], fun k hk hne => ?_⟩ ?_
  · exact Below.heap_setCell _ _ _ _ (fun e => hne (by rw [e]))
  · rw [hv]; simp; omega
theorem Ints.put {v : Value} {l : List Int} {b off : Nat} {us : List Value} (h : Ints w B v l) (hp : Put w w' g off us) (hv : v.ownBlock = some b) (hne : b ≠ g) : Ints w' B v l := by
  refine World.ownsRow.kept (row := some g) h ⟨hp.os, hp.tape, hp.output, by rw [hp.size]; exact Nat.le_refl _, fun k hk hne' => hp.other k (fun e => hne' (by rw [e]))⟩ ?_
  rw [hv]; simp; omega
theorem Trio.setB (h : Trio w B g ga gb gk ca cb ck n la lb lk) {i : Nat} (hi : i < lb.length) (x : Nat) : Trio (w.setCell ⟨gb, i, none⟩ (.int .i64 x)) B g ga gb gk ca cb ck n la (lb.set i x) lk :=
  { h with row := by rw [Below.heap_setCell _ _ _ _ (fun e => h.e2 e.symm)]; exact h.row, ia := h.ia.other gb _ rfl h.d1 i, ib := by rw [casts_set]; exact h.ib.set (by rw [casts_len]; exact hi) _, ik := h.ik.other gb _ rfl (fun e => h.d3 e.symm) i }
theorem Trio.setK (h : Trio w B g ga gb gk ca cb ck n la lb lk) {i : Nat} (hi : i < lk.length) (x : Nat) : Trio (w.setCell ⟨gk, i, none⟩ (.int .i64 x)) B g ga gb gk ca cb ck n la lb (lk.set i x) :=
  { h with row := by rw [Below.heap_setCell _ _ _ _ (fun e => h.e3 e.symm)]; exact h.row, ia := h.ia.other gk _ rfl h.d2 i, ib := h.ib.other gk _ rfl h.d3 i, ik := by rw [casts_set]; exact h.ik.set (by rw [casts_len]; exact hi) _ }
end

set_option maxHeartbeats 2000000 in
set_option maxRecDepth 100000 in
theorem implNewOrder_ok (s : Srt) (S : Nat → Prop) (us : List Value) (w : World) (hok : okSrt s) (hv : RepVals w S (encSrt s) us) (hs : SortsOk s) :
    Calls Tryz.prog 106 #[.agg us.toArray] w fun e w' => ∃ va vb vk, e = .returned (.tuple #[.agg #[va, vb, vk], .bool true]) ∧ Ints w' w.heap.size va (casts (up s)) ∧ Ints w' w.heap.size vb (casts (down s)) ∧ Ints w' w.heap.size vk (casts (kinds s)) ∧ Below w.heap.size w w' := by
  have hin := SortsOk.subsIn hs.subs
  obtain ⟨names, subs⟩ := s
  have hv0 := hv
  simp only [encSrt] at hv
  obtain ⟨v0, v1, rfl, e0, e1⟩ := repVals_Sorts hv
  obtain ⟨A0, cap0, rfl, hc0, hm0⟩ := e0.shape
  obtain ⟨A1, cap1, rfl, hc1, hm1⟩ := e1.shape
  obtain ⟨ic, hci, _, hcs, _⟩ := info_parts info_Sub'
  obtain ⟨io, hoi, _, hos, _⟩ := info_parts info_order
  have HOK := Lib.hid hok
  have HV0 := Lib.hid hv0
  have E1 := Lib.hid e1
  have HIN := Lib.hid hin
  clear hv hv0 e0 e1 hok hin
  generalize hN : names.length = n at *
  generalize hM : subs.length = m at *
  have HN := Lib.hid hN
  have HM := Lib.hid hM
  clear hM hN
  unfold maxLen at hm0 hm1
  have HS := Lib.hid (implIsSorts ⟨names, subs⟩ S [.slice A0 n cap0, .slice A1 m cap1])
  rw [isSorts_true hs] at HS
  have HSB := Lib.hid hs.subs
  have hn1 : 1 ≤ n := by have := hs.n1; have := HN.out; simp only at *; omega
  have hn8 : n ≤ 8 := by have := hs.n8; have := HN.out; simp only at *; omega
  have HAB := Lib.hid (fun W h => implSortsAbove ⟨names, subs⟩ S [.slice A0 n cap0, .slice A1 m cap1] W HOK.out h hs.n1 hs.n8 (SortsOk.subsIn hs.subs))
  clear hs
  go_enter Tryz.func106, Tryz.ntmps106
  go_wp2_with fail
  generalize hW : (w.alloc _).alloc _ = W
  have hbW : Below w.heap.size w W := by rw [← hW]; exact ((Below.refl _ _).alloc (Nat.le_refl _) _).alloc (by simp) _
  have hrow : W.heap[w.heap.size + 1]? = some (.cells #[.slice none 0 0, .slice none 0 0, .slice none 0 0] 164 (0, 0)) := by rw [← hW]; have := heap_alloc_new (w.alloc (.cells #[.slice A0 n cap0, .slice A1 m cap1] 40)) (.cells #[.slice none 0 0, .slice none 0 0, .slice none 0 0] 164); simpa using this
  have z1 : w.heap.size + 1 < W.heap.size := by rw [← hW]; simp
  have p0 : W.cell? ⟨w.heap.size, 0, none⟩ = some (.slice A0 n cap0) := by rw [← hW]; simp
  have p1 : W.cell? ⟨w.heap.size, 1, none⟩ = some (.slice A1 m cap1) := by rw [← hW]; simp
  clear hW
  refine (HS.out W HOK.out (HV0.out.below hbW)).mono ?_
  rintro e w2 ⟨rfl, hb2⟩
  have HR := Lib.hid ((hb2.block _ z1).trans hrow)
  have q0 := keepB hb2 p0
  have q1 := keepB hb2 p1
  have hmk := make_ints n (by omega)
  have hw2 : Below w.heap.size w w2 := hbW.trans (hb2.mono hbW.size)
  have z2 : w.heap.size + 1 < w2.heap.size := by have := hb2.size; omega
  have V2 := Lib.hid (HV0.out.below hw2)
  clear hrow p0 p1 hb2 z1 hbW HV0 HS
  go_upto_region 4 with fail
  go_cut [5] (fun s5 wx => ∃ g ga gb gk ca cb ck, s5 = .pointer (some ⟨g, 0, none⟩) ∧ Trio wx w2.heap.size g ga gb gk ca cb ck n (up ⟨names, subs⟩) (List.replicate n 0) (List.replicate n 0) ∧ Below w2.heap.size w2 wx)
  case first =>
    refine wp_region_says 8 [
      fun v _ _ _ _ => v = .agg #[.slice A0 n cap0, .slice A1 m cap1],
      fun v _ lo hi w' => Ints w' lo v (casts (up ⟨names, subs⟩)) ∧ ∀ b, v.ownBlock = some b → b < hi,
      fun v _ _ _ _ => v = .int .i64 n,
      fun v _ lo hi w' => v = .slice (some ⟨lo, 0, none⟩) n n ∧ lo < hi ∧ Ints w' lo v (casts (List.replicate n 0)),
      fun v _ _ _ _ => v = .int .i64 n,
      fun v _ lo hi w' => v = .slice (some ⟨lo, 0, none⟩) n n ∧ lo < hi ∧ Ints w' lo v (casts (List.replicate n 0)),
      fun v ds _ _ _ => v = .agg ds.toArray,
      fun v _ lo hi w' => v = .pointer (some ⟨lo, 0, none⟩) ∧ lo < hi ∧ w'.heap[lo]? = some (.cells #[.slice none 0 0, .slice none 0 0, .slice none 0 0] 164 (0, 0))]
      (fun w' => Below w2.heap.size w2 w') (by kernel_rfl) (by kernel_rfl) rfl (by rfl) (belowD _) ?_ ?_ ?_
    · intro g hg
      simp only [List.mem_cons, List.not_mem_nil, or_false] at hg
      rcases hg with rfl | rfl | rfl | rfl | rfl | rfl | rfl | rfl <;> intro v ds lo hi wa wb hb h
      · exact h
      · exact ⟨h.1.below hb, h.2⟩
      · exact h
      · exact ⟨h.1, h.2.1, h.2.2.below hb⟩
      · exact h
      · exact ⟨h.1, h.2.1, h.2.2.below hb⟩
      · exact h
      · exact ⟨h.1, h.2.1, by rw [hb.block _ (Array.getElem?_eq_some_iff.1 h.2.2).1]; exact h.2.2⟩
    · simp only [List.take_succ_cons, List.take_zero, StepsD, and_true]
      refine ⟨?_, ?_, ?_, ?_, ?_, ?_, ?_, ?_⟩
      all_goals (intro a wx hC hout hdep)
      · have s1 : a.eval (.tmp 1) = .pointer (some ⟨w.heap.size, 0, none⟩) := hout 1 (out_of (by kernel_rfl))
        clear hout hdep
        have r0 := keepB hC q0
        have r1 := keepB hC q1
        unfold gives
        simp only [execOp, s1]
        go_simp
        exact Below.refl _ _
      · obtain ⟨_, _, s20⟩ := hdep 0 _ 20 _ (by omega) rfl rfl (by decide) rfl
        have s20 : a.eval (.tmp 20) = .agg #[.slice A0 n cap0, .slice A1 m cap1] := s20
        clear hout hdep
        unfold gives
        simp only [execOp, s20]
        go_simp
        refine (HAB.out wx (by repeat' (with_reducible (first | exact V2.out | refine RepVals.alloc _ ?_ | refine RepVals.drew ?_ | refine RepVals.drewN ?_ | refine RepVals.later (by assumption) ?_)))).mono ?_
        rintro e w3 ⟨va, rfl, hI, hb3⟩
        exact ⟨va, rfl, hC.trans (hb3.mono hC.size), hb3, hI, fun b hb => (hI.lt b hb).2⟩
      · have s4 : a.eval (.tmp 4) = .int .i64 n := hout 4 (out_of (by kernel_rfl))
        clear hout hdep
        unfold gives
        simp only [execOp, s4]
        go_simp
        exact Below.refl _ _
      · obtain ⟨_, _, s22⟩ := hdep 2 _ 22 _ (by omega) rfl rfl (by decide) rfl
        have s22 : a.eval (.tmp 22) = .int .i64 n := s22
        clear hout hdep
        unfold gives
        simp only [execOp, s22]
        go_simp
        exact ⟨hC.trans ((belowA wx _).mono hC.size), belowA _ _, Ints.made wx n (by unfold maxLen; omega)⟩
      · have s4 : a.eval (.tmp 4) = .int .i64 n := hout 4 (out_of (by kernel_rfl))
        clear hout hdep
        unfold gives
        simp only [execOp, s4]
        go_simp
        exact Below.refl _ _
      · obtain ⟨_, _, s22⟩ := hdep 4 _ 24 _ (by omega) rfl rfl (by decide) rfl
        have s22 : a.eval (.tmp 24) = .int .i64 n := s22
        clear hout hdep
        unfold gives
        simp only [execOp, s22]
        go_simp
        exact ⟨hC.trans ((belowA wx _).mono hC.size), belowA _ _, Ints.made wx n (by unfold maxLen; omega)⟩
      · obtain ⟨_, _, h21, _⟩ := hdep 1 _ 21 _ (by omega) rfl rfl (by decide) rfl
        obtain ⟨_, _, h23, _⟩ := hdep 3 _ 23 _ (by omega) rfl rfl (by decide) rfl
        obtain ⟨_, _, h25, _⟩ := hdep 5 _ 25 _ (by omega) rfl rfl (by decide) rfl
        obtain ⟨A, cap, e21, _⟩ := h21.form
        have e21 : a.eval (.tmp 21) = _ := e21
        have e23 : a.eval (.tmp 23) = _ := h23
        have e25 : a.eval (.tmp 25) = _ := h25
        clear hout hdep h21 h23 h25
        change gives _ _ _ _ (fun v w' => _ ∧ _ ∧ v = .agg #[a.eval (.tmp 21), a.eval (.tmp 23), a.eval (.tmp 25)])
        unfold gives
        simp only [Act.eval, Array.getD_eq_getD_getElem?] at e21 e23 e25
        go_simp
        exact Below.refl _ _
      · clear hout hdep
        unfold gives
        simp only [execOp]
        go_simp
        exact ⟨hC.trans ((belowA wx _).mono hC.size), belowA _ _, (Array.getElem?_eq_some_iff.1 (heap_alloc_new wx _)).2⟩
    · intro f wx lo hi hC hb hap _ hd
      simp only [List.take_succ_cons, List.take_zero, DoneAll, Option.getD_some, Nat.zero_add, Nat.reduceAdd] at hd
      obtain ⟨-, ⟨⟨h21, k21⟩, l21, m21, n21⟩, -, ⟨⟨h23, k23, j23⟩, l23, m23, n23⟩, -, ⟨⟨h25, k25, j25⟩, l25, m25, n25⟩, ⟨h26, -⟩, ⟨⟨h5, k5, j5⟩, l5, m5, n5⟩, -⟩ := hd
      have h21 : Ints wx (lo 1) (f 21) (casts (up ⟨names, subs⟩)) := h21
      have k21 : ∀ b, (f 21).ownBlock = some b → b < hi 1 := k21
      have h23 : f 23 = .slice (some ⟨lo 3, 0, none⟩) n n := h23
      have h25 : f 25 = .slice (some ⟨lo 5, 0, none⟩) n n := h25
      have h26 : f 26 = .agg #[f 21, f 23, f 25] := h26
      have h5 : f 5 = .pointer (some ⟨lo 7, 0, none⟩) := h5
      obtain ⟨Aa, ca, e21, hcc, hmm, hA⟩ := h21.form
      have hlu : (casts (up ⟨names, subs⟩)).length = n := by rw [casts_len, (up_ok (s := ⟨names, subs⟩) (by rw [HN.out]; exact HIN.out)).1]; exact HN.out
      rw [hlu] at e21 hA
      obtain ⟨ga, rfl, hga1, hga2⟩ := hA (by omega)
      rw [e21] at h21 k21
      rw [h23] at j23
      rw [h25] at j25
      have hga3 := k21 ga rfl
      have a13 := hap 1 3 (by omega) (by omega) (by omega)
      have a15 := hap 1 5 (by omega) (by omega) (by omega)
      have a17 := hap 1 7 (by omega) (by omega) (by omega)
      have a35 := hap 3 5 (by omega) (by omega) (by omega)
      have a37 := hap 3 7 (by omega) (by omega) (by omega)
      have a57 := hap 5 7 (by omega) (by omega) (by omega)
      have J5 := Lib.hid j5
      have J23 := Lib.hid j23
      have J25 := Lib.hid j25
      have H21 := Lib.hid h21
      clear hap hlu k21 h21 j23 j25 j5
      simp only [dstsOf, List.take_succ_cons, List.take_zero, List.filterMap_cons, List.filterMap_nil, List.map_cons, List.map_nil, List.drop_succ_cons, List.drop_zero]
      rw [e21, h23, h25, h26, h5, e21, h23, h25]
      clear e21 h23 h25 h26 h5
      simp only [putAll]
      go_simp
      go_wp2_with (refine wpList_store_row rfl 164 _ _ rfl (lo 7) rfl [.slice (some ⟨ga, 0, none⟩) n ca, .slice (some ⟨lo 3, 0, none⟩) n n, .slice (some ⟨lo 5, 0, none⟩) n n] rfl io hoi hos 164 _ J5.out rfl (by simp [Value.oneCell']) ?_; intro w3 hput hrow)
      go_meet
      case rel =>
        exact ⟨lo 7, ga, lo 3, lo 5, ca, n, n, rfl, ⟨hrow, (H21.out.put hput rfl (show ga ≠ lo 7 by omega)).base_le l21, (J23.out.put hput rfl (show lo 3 ≠ lo 7 by omega)).base_le l23, (J25.out.put hput rfl (show lo 5 ≠ lo 7 by omega)).base_le l25, by omega, by omega, by omega, by omega, by omega, by omega, l5⟩, hC.trans (hput.below l5)⟩
  case rest =>
    obtain ⟨g, ga, gb, gk, ca, cb, ck, rfl, hT, hbc⟩ := hcut
    obtain ⟨c0, c1, c2⟩ := hT.cells
    have HT := Lib.hid hT
    have HU : Hid (UpOk n (up ⟨names, subs⟩)) := by have := up_ok (s := ⟨names, subs⟩) (by rw [HN.out]; exact HIN.out); rw [HN.out] at this; exact this
    have hgB := hT.hg
    have hbc2 := hbc
    clear hT hbc
    go_wp2
    clear c0 c1 c2
    obtain ⟨wc0, rfl⟩ : ∃ x : World, x = wc := ⟨_, rfl⟩
    go_loopw [30] (fun i wr => ∃ k : Nat, k ≤ n ∧ i = .int .i64 k ∧ Trio wr w2.heap.size g ga gb gk ca cb ck n (up ⟨names, subs⟩) (downs (up ⟨names, subs⟩) k (List.replicate n 0)) (kFill n k) ∧ Below w2.heap.size w2 wr) (fun i _ => n - (intOf i).toNat)
    case atStart => exact ⟨0, Nat.zero_le _, rfl, by simpa [downs, kFill] using HT.out, hbc2⟩
    case round =>
      obtain ⟨k, hk, rfl, hT, hb⟩ := hrel
      obtain ⟨c0, c1, c2⟩ := hT.cells
      have HT1 := Lib.hid hT
      have hb1 := hb
      clear hT hb
      by_cases hkn : k < n
      · obtain ⟨r0, t0⟩ := HU.out.get hkn
        have d0 := HT1.out.ia.cell (casts_get r0)
        have hb256 : 2 ^ n ≤ 2 ^ 8 := Nat.pow_le_pow_right (by omega) hn8
        have hu : (up ⟨names, subs⟩).getD k 0 < 65536 := by omega
        have HKS := Lib.hid (listOf_lt t0)
        have HDS : Hid (downs (up ⟨names, subs⟩) (k + 1) (List.replicate n 0) = downIn k (downs (up ⟨names, subs⟩) k (List.replicate n 0)) (listOf ((up ⟨names, subs⟩).getD k 0))) := rfl
        have HDO := Lib.hid (UpOk.downs HU.out k hk (UpOk.zeros n))
        have hgb := (HT1.out.ib.lt _ rfl).2
        have hgw : g < wr.heap.size := (Array.getElem?_eq_some_iff.1 HT1.out.row).1
        clear r0 t0 hb256
        generalize hD : downs (up ⟨names, subs⟩) k (List.replicate n 0) = D at *
        clear hD
        generalize (up ⟨names, subs⟩).getD k 0 = u at *
        have hlen : (listOf u).length ≤ 16 := bitsTo_len u 16
        have HL := Lib.hid (fun w => implListOf u hu w)
        clear hu
        generalize listOf u = ks at *
        go_wp2_with (go_at_call 148; refine (HL.out _).mono ?_; rintro e wl ⟨v, rfl, hI, hbl⟩; obtain ⟨A, cap, rfl, hcc, hmm, hA⟩ := hI.form)
        rw [casts_len] at hcc hA
        rw [casts_len]
        unfold maxLen at hmm
        have HI := Lib.hid hI
        have hwl := hbl.size
        have HT2 := Lib.hid (HT1.out.below hbl)
        have hb2 : Below w2.heap.size w2 wl := hb1.trans (hbl.mono hb1.size)
        have HA := Lib.hid hA
        have zwr := hb1.size
        clear hI hbl c0 c1 c2 d0 HT1 hA hb1
        obtain ⟨wo, rfl⟩ : ∃ x : World, x = wr := ⟨_, rfl⟩
        go_loopw [38] (fun i wr => ∃ j : Nat, j ≤ ks.length ∧ i = .int .i64 j ∧ Trio wr w2.heap.size g ga gb gk ca cb ck n (up ⟨names, subs⟩) (downIn k D (ks.take j)) (kFill n k) ∧ Ints wr wo.heap.size (.slice A ks.length cap) (casts ks) ∧ Below w2.heap.size w2 wr) (fun i _ => ks.length - (intOf i).toNat)
        case atStart => exact ⟨0, Nat.zero_le _, rfl, by simpa [downIn] using HT2.out, by have := HI.out; rw [casts_len] at this; exact this, hb2⟩
        case round =>
          obtain ⟨j, hj, rfl, hT, hI, hb⟩ := hrel
          obtain ⟨c0, c1, c2⟩ := hT.cells
          have HT3 := Lib.hid hT
          have HI3 := Lib.hid hI
          clear hT hI
          by_cases hjn : j < ks.length
          · obtain ⟨gl, rfl, hg1, hg2⟩ := HA.out (by omega)
            have hx : ks[j]? = some ks[j] := List.getElem?_eq_getElem hjn
            have hxn := HKS.out _ (List.getElem_mem hjn)
            have dx := HI3.out.cell (casts_get hx)
            have HDJ := Lib.hid (HDO.out.downIn hkn (fun q hq => HKS.out q (List.mem_of_mem_take hq)) : UpOk n (downIn k D (ks.take j)))
            obtain ⟨r1, t1⟩ := HDJ.out.get hxn
            have dy := HT3.out.ib.cell (casts_get r1)
            have fy := HT3.out.ib.frozen ks[j]
            have HST : Hid (downIn k D (ks.take (j + 1)) = (downIn k D (ks.take j)).set ks[j] ((downIn k D (ks.take j)).getD ks[j] 0 ||| 2 ^ k)) := by show _ = _; exact foldl_take (f := fun (l : List Nat) (k' : Nat) => l.set k' (l.getD k' 0 ||| 2 ^ k)) hx D
            have hb256 : 2 ^ n ≤ 2 ^ 8 := Nat.pow_le_pow_right (by omega) hn8
            have HX : Hid ((downIn k D (ks.take j)).getD ks[j] 0 < 4611686018427387904) := Lib.hid (by omega)
            clear r1 t1 hb256 hx
            generalize downIn k D (ks.take j) = E at *
            generalize ks[j] = x at *
            generalize E.getD x 0 = y at *
            go_wp2_with fail
            (refine wp_region_still_tail 12 (by kernel_rfl) (by kernel_rfl) ?_
             simp only [List.take_succ_cons, List.take_zero, List.drop_succ_cons, List.drop_zero]
             change wpStill _ _ (World.drew _) _ _ _
             repeat still_step
             refine wpStill_nil ?_
             change wpList _ _ _ _ _ (World.drew _))
            go_wp2
            go_roundw
            case rel =>
              have hxl : x < E.length := by rw [HDJ.out.1]; exact hxn
              have hlt := (HI3.out.lt gl rfl).1
              refine ⟨j + 1, by omega, by go_num, ?_, ?_, ?_⟩
              · rw [HST.out, shl_one (by omega), bits_or HX.out (pow_lt62 (by omega))]
                exact (HT3.out.below (belowD _)).setB hxl _
              · exact Ints.other (HI3.out.drew) gb _ rfl (show gl ≠ gb by omega) x
              · exact (below_drewN hb 1).setCell (p := ⟨gb, x, none⟩) (show w2.heap.size ≤ gb from (HT3.out.ib.lt gb rfl).1) _
            case measure => simp [intOf]; omega
          · obtain rfl : j = ks.length := by omega
            rw [List.take_of_length_le (Nat.le_refl _)] at HT3
            have dk : ∃ y : Int, wr.cell? ⟨gk, k, none⟩ = some (.int .i64 y) := by
              have : k < (casts (kFill n k)).length := by rw [casts_len, kFill_len hk]; exact hkn
              exact ⟨_, HT3.out.ik.cell (List.getElem?_eq_getElem this)⟩
            obtain ⟨y, dk⟩ := dk
            have fk := HT3.out.ik.frozen k
            go_wp2
            go_roundw
            case rel =>
              refine ⟨k + 1, by omega, by go_num, ?_, ?_⟩
              · rw [HDS.out, ← kFill_set hkn]
                exact HT3.out.setK (by rw [kFill_len hk]; exact hkn) k
              · exact hb.setCell (p := ⟨gk, k, none⟩) (show w2.heap.size ≤ gk from (HT3.out.ik.lt gk rfl).1) _
            case measure => simp [intOf]; omega
      · obtain rfl : n = k := by omega
        rw [kFill_end] at HT1
        have q2 := keepB (hb1.mono (Nat.le_refl _)) q1
        go_wp2
        clear c0 c1 c2 q2
        obtain ⟨wo, rfl⟩ : ∃ x : World, x = wr := ⟨_, rfl⟩
        go_loopw [62] (fun i wr => ∃ j : Nat, j ≤ n ∧ i = .int .i64 j ∧ Trio wr w2.heap.size g ga gb gk ca cb ck n (up ⟨names, subs⟩) (downs (up ⟨names, subs⟩) n (List.replicate n 0)) (kIter subs j (List.range n)) ∧ Below w2.heap.size w2 wr) (fun i _ => n - (intOf i).toNat)
        case atStart => exact ⟨0, Nat.zero_le _, rfl, HT1.out, hb1⟩
        case round =>
          obtain ⟨j, hj, rfl, hT, hb⟩ := hrel
          obtain ⟨c0, c1, c2⟩ := hT.cells
          have HT3 := Lib.hid hT
          clear hT
          by_cases hjn : j < n
          · have q2 := keepB hb q1
            go_wp2
            have hb2 := hb
            clear hb c0 c1 c2 q2
            obtain ⟨wp, rfl⟩ : ∃ x : World, x = wr := ⟨_, rfl⟩
            go_loopw [67] (fun i wr => ∃ k : Nat, k ≤ m ∧ i = .int .i64 k ∧ Trio wr w2.heap.size g ga gb gk ca cb ck n (up ⟨names, subs⟩) (downs (up ⟨names, subs⟩) n (List.replicate n 0)) ((subs.take k).foldl kSub (kIter subs j (List.range n))) ∧ Below w2.heap.size w2 wr) (fun i _ => m - (intOf i).toNat)
            case atStart => exact ⟨0, Nat.zero_le _, rfl, HT3.out, hb2⟩
            case round =>
              obtain ⟨k, hk, rfl, hT, hb⟩ := hrel
              obtain ⟨c0, c1, c2⟩ := hT.cells
              have HT4 := Lib.hid hT
              clear hT
              by_cases hkm : k < m
              · obtain ⟨p, hp⟩ : ∃ p, subs[k]? = some p := ⟨_, List.getElem?_eq_getElem (by have := HM.out; omega)⟩
                obtain ⟨b, off, rfl, hS, hbz, hrow⟩ := Rep.at okSubR HOK.out.2 (E1.out.below (hw2.trans (hb.mono hw2.size))) hp
                obtain ⟨g0, g1, g2, g3, g4⟩ := HSB.out p (List.mem_of_getElem? hp)
                rw [HN.out] at g1 g3
                obtain ⟨lo, hi'⟩ := p
                simp only [encSub, RepRow, and_true, fieldsOf, List.length_cons, List.length_nil, Nat.reduceAdd, Rep.lit_iff] at hrow
                obtain ⟨⟨_, e0, rfl⟩, ⟨_, e1, rfl⟩⟩ := hrow
                simp only at g0 g1 g2 g3 g4
                obtain ⟨lo, rfl⟩ := Int.eq_ofNat_of_zero_le g0
                obtain ⟨hi', rfl⟩ := Int.eq_ofNat_of_zero_le g2
                have hne : hi' ≠ lo := by omega
                clear g4
                have hup := (KOk.iter HIN.out j (KOk.start n)).foldl (HIN.out.take k)
                have HL := Lib.hid hup.1
                obtain ⟨r0, t0⟩ := hup.get (i := lo) (by omega)
                obtain ⟨r1, t1⟩ := hup.get (i := hi') (by omega)
                have HST := Lib.hid (foldl_take (f := kSub) hp (kIter subs j (List.range n)))
                generalize hG : (subs.take k).foldl kSub (kIter subs j (List.range n)) = G at *
                have d0 := HT4.out.ik.cell (casts_get r0)
                have d1 := HT4.out.ik.cell (casts_get r1)
                have f0 := HT4.out.ik.frozen lo
                have f1 := HT4.out.ik.frozen hi'
                have hlt : gk < wr.heap.size := (HT4.out.ik.lt _ rfl).2
                have hgw : g < wr.heap.size := (Array.getElem?_eq_some_iff.1 HT4.out.row).1
                have hkg := HT4.out.e3
                have HU2 : Hid (kSub G (lo, hi') = (G.set lo (min (G.getD lo 0) (G.getD hi' 0))).set hi' (min (G.getD lo 0) (G.getD hi' 0))) := by show _ = _; simp [kSub]
                clear hup t0 t1 r0 r1 hG hp
                generalize G.getD lo 0 = x0 at *
                generalize G.getD hi' 0 = x1 at *
                go_wp2_with (refine wpList_store_new rfl 192 _ _ rfl _ _ _ rfl _ rfl (by simp) [.int .i64 lo, .int .i64 hi'] rfl ic hci hcs rfl (by simp [Value.oneCell']) ?_)
                go_quiet (fail)
                have emin : (if x1 < x0 then (x1 : Int) else (x0 : Int)) = ((min x0 x1 : Nat) : Int) := by split <;> omega
                rw [emin]
                clear emin
                have y0 : ((wr.alloc (.cells #[.int .i64 lo, .int .i64 hi'] 192)).drewN nq).cell? ⟨wr.heap.size, 0, none⟩ = some (.int .i64 lo) := by simp
                have y1 : ((wr.alloc (.cells #[.int .i64 lo, .int .i64 hi'] 192)).drewN nq).cell? ⟨wr.heap.size, 1, none⟩ = some (.int .i64 hi') := by simp
                have HT5 := Lib.hid ((HT4.out.below (belowA _ (.cells #[.int .i64 lo, .int .i64 hi'] 192))).below (belowN _ nq))
                have hb5 := below_drewN (hb.alloc (by have := hb.size; omega) (.cells #[.int .i64 lo, .int .i64 hi'] 192)) nq
                have hgx : wr.heap.size ≠ gk := by omega
                have hgx2 : wr.heap.size ≠ g := by omega
                clear c0 c1 c2 d0 d1 f0 f1 HT4 hlt hgw hb e0 e1 hbz
                generalize (wr.alloc (.cells #[.int .i64 lo, .int .i64 hi'] 192)).drewN nq = wq at *
                generalize wr.heap.size = gx at *
                obtain ⟨_, _, c2⟩ := HT5.out.cells
                have d0 : ∃ y : Int, wq.cell? ⟨gk, lo, none⟩ = some (.int .i64 y) := ⟨_, HT5.out.ik.cell (List.getElem?_eq_getElem (by rw [casts_len, HL.out]; omega))⟩
                have d1 : ∃ y : Int, wq.cell? ⟨gk, hi', none⟩ = some (.int .i64 y) := ⟨_, HT5.out.ik.cell (List.getElem?_eq_getElem (by rw [casts_len, HL.out]; omega))⟩
                obtain ⟨_, d0⟩ := d0
                obtain ⟨_, d1⟩ := d1
                have f0 := HT5.out.ik.frozen lo
                have f1 := HT5.out.ik.frozen hi'
                have HKB := Lib.hid (HT5.out.ik.lt gk rfl).1
                generalize min x0 x1 = mn at *
                go_wp2
                go_roundw
                case rel =>
                  refine ⟨k + 1, by omega, by go_num, ?_, (hb5.setCell (p := ⟨gk, lo, none⟩) HKB.out _).setCell (p := ⟨gk, hi', none⟩) HKB.out _⟩
                  rw [HST.out, HU2.out]
                  exact (HT5.out.setK (by rw [HL.out]; omega) mn).setK (by rw [List.length_set, HL.out]; omega) mn
                case measure => simp [intOf]; omega
              · have HTK : Hid (subs.take k = subs) := List.take_of_length_le (by have := HM.out; omega)
                go_wp2
                go_roundw
                case rel => exact ⟨j + 1, by omega, by go_num, by have := HT4.out; rw [HTK.out] at this; exact this, hb⟩
                case measure => simp [intOf]; omega
          · obtain rfl : n = j := by omega
            have HR2 := Lib.hid ((hb.block _ z2).trans HR.out)
            go_wp2_with (refine wpList_store_row rfl 164 _ _ rfl (w.heap.size + 1) rfl [.slice (some ⟨ga, 0, none⟩) n ca, .slice (some ⟨gb, 0, none⟩) n cb, .slice (some ⟨gk, 0, none⟩) n ck] rfl io hoi hos 164 _ HR2.out rfl (by simp [Value.oneCell']) ?_; intro w3 hput hrow)
            have k0 := hput.new 0 _ rfl
            have k1 := hput.new 1 _ rfl
            have k2 := hput.new 2 _ rfl
            simp only [Nat.zero_add] at k0 k1 k2
            have hgA : w2.heap.size ≤ ga := (HT3.out.ia.lt ga rfl).1
            have hgB' : w2.heap.size ≤ gb := (HT3.out.ib.lt gb rfl).1
            have hgK : w2.heap.size ≤ gk := (HT3.out.ik.lt gk rfl).1
            refine bodyPost_ret (v := .tuple #[.agg #[.slice (some ⟨ga, 0, none⟩) n ca, .slice (some ⟨gb, 0, none⟩) n cb, .slice (some ⟨gk, 0, none⟩) n ck], .bool true]) (by simp [results, Tryz.results106, go_sem, k0, k1, k2]) rfl ⟨_, _, _, rfl, ?_, ?_, ?_, ?_⟩
            · exact (HT3.out.ia.put hput rfl (show ga ≠ w.heap.size + 1 by omega)).base_le (show w.heap.size ≤ w2.heap.size by omega)
            · have e : down ⟨names, subs⟩ = downs (up ⟨names, subs⟩) n (List.replicate n 0) := by unfold down; rw [HN.out]
              rw [e]
              exact (HT3.out.ib.put hput rfl (show gb ≠ w.heap.size + 1 by omega)).base_le (show w.heap.size ≤ w2.heap.size by omega)
            · have e : kinds ⟨names, subs⟩ = kIter subs n (List.range n) := by unfold kinds; rw [HN.out]
              rw [e]
              exact (HT3.out.ik.put hput rfl (show gk ≠ w.heap.size + 1 by omega)).base_le (show w.heap.size ≤ w2.heap.size by omega)
            · exact (hw2.trans (hb.mono hw2.size)).trans (hput.below (by omega))
end Go.Proofs.YtpbikjkjfojjiaaGreat

namespace Go.Proofs.YtpbikjkjfojjiaaGreat
open Go.RowKit Go.Sort

def inR (n : Nat) (k : Int) : Bool := decide (0 ≤ k ∧ k < n)
theorem inR_true {n : Nat} {k : Int} (h : 0 ≤ k ∧ k < n) : inR n k = true := decide_eq_true h
theorem inR_false {n : Nat} {k : Int} (h : ¬ (0 ≤ k ∧ k < n)) : inR n k = false := decide_eq_false h
theorem inR_iff {n : Nat} {k : Int} : inR n k = true ↔ 0 ≤ k ∧ k < n := by simp [inR]

set_option maxRecDepth 100000 in
theorem implHas (A : Option Addr) (n cap : Nat) (vb vk : Value) (k : Int) (w : World) (hb1 : vb.oneCell' = true) (hk1 : vk.oneCell' = true) (hcap : cap ≤ maxLen) (hn : n ≤ cap) :
    Calls Tryz.prog 168 #[.agg #[.slice A n cap, vb, vk], .int .i64 k] w fun e w' => e = .returned (.bool (inR n k)) ∧ Below w.heap.size w w' := by
  unfold maxLen at hcap
  by_cases h0 : 0 ≤ k
  · by_cases h1 : k < n
    · go_enter Tryz.func168, Tryz.ntmps168
      go_wp2
      all_goals
        go_ret
        exact ⟨ret_bool (by rw [Bool.eq_iff_iff]; simp [inR]; try omega), belowA _ _⟩
    · go_enter Tryz.func168, Tryz.ntmps168
      go_wp2
      all_goals
        go_ret
        exact ⟨ret_bool (by rw [Bool.eq_iff_iff]; simp [inR]; try omega), belowA _ _⟩
  · go_enter Tryz.func168, Tryz.ntmps168
    go_wp2
    all_goals
      go_ret
      exact ⟨ret_bool (by rw [Bool.eq_iff_iff]; simp [inR]; try omega), belowA _ _⟩

def kd (s : Srt) (k : Int) : Nat := (kinds s).getD k.toNat 0
structure DeclOk (s : Srt) (f d : Dcl) : Prop where
  len : d.args.length = f.args.length
  res : 0 ≤ d.res ∧ d.res < s.names.length
  args : ∀ k ∈ d.args, 0 ≤ k ∧ k < s.names.length
  kres : kd s d.res = kd s f.res
  kargs : ∀ (i : Nat) (a b : Int), d.args[i]? = some a → f.args[i]? = some b → kd s a = kd s b
structure DeclsOk (s : Srt) (o : Opr) : Prop where
  len1 : 1 ≤ o.decls.length
  len4 : o.decls.length ≤ 4
  ar : ∀ f, o.decls[0]? = some f → f.args.length ≤ 3
  all : ∀ f, o.decls[0]? = some f → ∀ d ∈ o.decls, DeclOk s f d
open Classical in
noncomputable def declsOk (s : Srt) (o : Opr) : Bool := decide (DeclsOk s o)
theorem declsOk_true {s : Srt} {o : Opr} (h : DeclsOk s o) : declsOk s o = true := by simp [declsOk, h]
theorem declsOk_false {s : Srt} {o : Opr} (h : ¬ DeclsOk s o) : declsOk s o = false := by simp [declsOk, h]
theorem declsOk_iff {s : Srt} {o : Opr} : declsOk s o = true ↔ DeclsOk s o := by simp [declsOk]
theorem Rep.int {w : World} {S : Nat → Prop} {l : List Int} {A : Option Addr} {m cap k : Nat} {x : Int} (hl : ∀ x ∈ l, I64 x) (h : Rep w S (.sl (l.map encInt)) (.slice A m cap)) (hx : l[k]? = some x) : ∃ b off, A = some ⟨b, off, none⟩ ∧ b < w.heap.size ∧ w.cell? ⟨b, off + k, none⟩ = some (.int .i64 x) := by
  obtain ⟨b, off, hA, _, hb, hr⟩ := Rep.at okInt hl h hx
  simp only [encInt, RepRow, and_true, fieldsOf, List.length_cons, List.length_nil, Nat.zero_add, Nat.mul_one, Rep.lit_iff] at hr
  obtain ⟨_, hc, rfl⟩ := hr
  exact ⟨b, off, hA, hb, hc⟩
theorem casts_I64 {l : List Nat} (h : ∀ x ∈ l, x < 1000) : ∀ x ∈ casts l, I64 x := by
  intro x hx
  obtain ⟨y, hy, rfl⟩ := List.mem_map.1 hx
  have := h y hy
  exact ⟨by omega, by omega⟩
theorem info_Decl' : (Tryz.prog.info? 181).map (fun i => (i.zero, i.size, i.bytes)) = some (some (.agg #[.slice none 0 0, .int .i64 0]), 2, 32) := by kernel_rfl
/-- The number of a kind, as it lies. -/
theorem kd_cell {w : World} {S : Nat → Prop} {s : Srt} {A : Option Addr} {m cap : Nat} (hK : KOk s.names.length (kinds s)) (h8 : s.names.length ≤ 8) (h : Rep w S (.sl ((casts (kinds s)).map encInt)) (.slice A m cap)) {k : Nat} (hk : k < s.names.length) :
    ∃ b off, A = some ⟨b, off, none⟩ ∧ b < w.heap.size ∧ w.cell? ⟨b, off + k, none⟩ = some (.int .i64 (kd s (k : Int))) := by
  obtain ⟨h1, h2⟩ := hK.get hk
  have := Rep.int (casts_I64 fun x hx => by have := hK.2 x hx; omega) h (casts_get h1)
  simpa [kd] using this

set_option maxHeartbeats 4000000 in
set_option maxRecDepth 100000 in
theorem implDeclsOK (s : Srt) (o : Opr) (S : Nat → Prop) (Aa Ak : Option Addr) (n ca ck : Nat) (vb : Value) (us : List Value) (w : World) (hN : s.names.length = n) (h8 : n ≤ 8) (hK : KOk n (kinds s)) (hok : okOpr o) (hv : RepVals w S (encOpr o) us)
    (hb1 : vb.oneCell' = true) (hca : ca ≤ maxLen) (hna : n ≤ ca) (hk : Rep w S (.sl ((casts (kinds s)).map encInt)) (.slice Ak n ck)) :
    Calls Tryz.prog 144 #[.agg #[.slice Aa n ca, vb, .slice Ak n ck], .agg us.toArray] w fun e w' => e = .returned (.bool (declsOk s o)) ∧ Below w.heap.size w w' := by
  have hkl : (kinds s).length = n := hK.1
  have hkm : ck ≤ maxLen := by
    obtain ⟨_, _, h, _, h2⟩ := hk.shape
    injection h with _ _ h
    rw [h]
    exact h2
  obtain ⟨name, decls, ac, cm, un⟩ := o
  simp only [encOpr] at hv
  obtain ⟨v1, rfl, e1⟩ := repVals_Op hv
  obtain ⟨A1, cap1, rfl, hc1, hm1⟩ := e1.shape
  obtain ⟨ic, hci, _, hcs, _⟩ := info_parts info_Decl'
  have hne : ∀ {P : Prop}, P → P := id
  clear hne
  have HOK := Lib.hid hok
  have E1 := Lib.hid e1
  have HK := Lib.hid hK
  have HKR := Lib.hid hk
  have HN := Lib.hid hN
  clear hv e1 hok hkl hK hk hN
  generalize hM : decls.length = m at *
  have HM := Lib.hid hM
  clear hM
  have HH := Lib.hid (fun (k : Int) (w : World) => implHas Aa n ca vb (.slice Ak n ck) k w hb1 rfl hca hna)
  unfold maxLen at hm1 hca hkm
  by_cases hm0 : m = 0
  · subst hm0
    have HF : Hid (declsOk s ⟨name, decls, ac, cm, un⟩ = false) := declsOk_false fun h => by have := h.len1; have := HM.out; simp only at *; omega
    go_enter Tryz.func144, Tryz.ntmps144
    go_wp2
    go_ret
    exact ⟨ret_bool HF.out.symm, (belowA _ _).trans ((belowA _ _).mono (belowA _ _).size)⟩
  by_cases hm4 : 4 < m
  · have HF : Hid (declsOk s ⟨name, decls, ac, cm, un⟩ = false) := declsOk_false fun h => by have := h.len4; have := HM.out; simp only at *; omega
    go_enter Tryz.func144, Tryz.ntmps144
    go_wp2
    go_ret
    exact ⟨ret_bool HF.out.symm, (belowA _ _).trans ((belowA _ _).mono (belowA _ _).size)⟩
  obtain ⟨f, hf⟩ : ∃ f, decls[0]? = some f := ⟨_, List.getElem?_eq_getElem (by have := HM.out; omega)⟩
  obtain ⟨b1, o1, rfl, _, hz1, hrow⟩ := Rep.at okDclR HOK.out.2.1 E1.out hf
  have HFOK := Lib.hid (HOK.out.2.1 f (List.mem_of_getElem? hf))
  have HF0 := Lib.hid hf
  obtain ⟨fargs, fres⟩ := f
  simp only [encDcl, RepRow, and_true, fieldsOf, List.length_cons, List.length_nil, Nat.reduceAdd, Nat.zero_mul, Nat.add_zero, Rep.lit_iff] at hrow
  obtain ⟨⟨u0, c0, r0⟩, ⟨_, c1, rfl⟩⟩ := hrow
  obtain ⟨Af, capf, rfl, hcf, hmf⟩ := r0.shape
  have RF := Lib.hid r0
  clear hf r0
  unfold maxLen at hmf
  generalize hLF : fargs.length = lf at *
  have HLF := Lib.hid hLF
  clear hLF
  by_cases hl3 : 3 < lf
  · have HF : Hid (declsOk s ⟨name, decls, ac, cm, un⟩ = false) := declsOk_false fun h => by have := h.ar _ HF0.out; have := HLF.out; simp only at *; omega
    go_enter Tryz.func144, Tryz.ntmps144
    go_wp2
    go_ret
    exact ⟨ret_bool HF.out.symm, (belowA _ _).trans ((belowA _ _).mono (belowA _ _).size)⟩
  go_enter Tryz.func144, Tryz.ntmps144
  go_wp2_with (refine wpList_store_new rfl 181 _ _ rfl _ _ _ rfl _ rfl (by simp) [.slice Af lf capf, .int .i64 fres] rfl ic hci hcs rfl (by simp [Value.oneCell']) ?_)
  generalize hW : ((w.alloc _).alloc _).alloc _ = W
  have hbW : Below w.heap.size w W := by rw [← hW]; exact (((Below.refl _ _).alloc (Nat.le_refl _) _).alloc (by simp) _).alloc (by simp; omega) _
  have p0 : W.cell? ⟨w.heap.size, 0, none⟩ = some (.slice Aa n ca) := (by rw [← hW]; repeat' (first | (simp; done) | exact keepNew (by simp) rfl | refine keepA _ ?_))
  have p1 : W.cell? ⟨w.heap.size, 1, none⟩ = some vb := (by rw [← hW]; repeat' (first | (simp; done) | exact keepNew (by simp) rfl | refine keepA _ ?_))
  have p2 : W.cell? ⟨w.heap.size, 2, none⟩ = some (.slice Ak n ck) := (by rw [← hW]; repeat' (first | (simp; done) | exact keepNew (by simp) rfl | refine keepA _ ?_))
  have p3 : W.cell? ⟨w.heap.size + 1, 1, none⟩ = some (.slice (some ⟨b1, o1, none⟩) m cap1) := (by rw [← hW]; repeat' (first | (simp; done) | exact keepNew (by simp) rfl | refine keepA _ ?_))
  have p4 : W.cell? ⟨w.heap.size + 1 + 1, 0, none⟩ = some (.slice Af lf capf) := (by rw [← hW]; repeat' (first | (simp; done) | exact keepNew (by simp) rfl | refine keepA _ ?_))
  have p5 : W.cell? ⟨w.heap.size + 1 + 1, 1, none⟩ = some (.int .i64 fres) := (by rw [← hW]; repeat' (first | (simp; done) | exact keepNew (by simp) rfl | refine keepA _ ?_))
  have z1 : w.heap.size + 1 + 1 < W.heap.size := by rw [← hW]; simp
  clear hW c0 c1
  generalize hg1 : w.heap.size + 1 + 1 = g5 at *
  generalize hg2 : w.heap.size + 1 = g3 at *
  clear hg1 hg2
  have V5 := Lib.hid (RF.out.below hbW)
  have VK := Lib.hid (HKR.out.below hbW)
  have V1 := Lib.hid (E1.out.below hbW)
  clear E1 HKR RF
  by_cases hfr : 0 ≤ fres ∧ fres < n
  rotate_left
  · have HF : Hid (declsOk s ⟨name, decls, ac, cm, un⟩ = false) := declsOk_false fun h => hfr (by have := (h.all _ HF0.out _ (List.mem_of_getElem? HF0.out)).res; rw [HN.out] at this; exact this)
    have hin := inR_false hfr
    refine (HH.out _ _).mono ?_
    rintro e w2 ⟨rfl, hb2⟩
    rw [hin]
    clear hin hfr
    go_wp2
    go_ret
    exact ⟨ret_bool HF.out.symm, hbW.trans (hb2.mono hbW.size)⟩
  have hin := inR_true hfr
  refine (HH.out _ _).mono ?_
  rintro e w2 ⟨rfl, hb2⟩
  rw [hin]
  clear hin
  have q4 := keepB hb2 p4
  go_wp2
  clear q4
  go_loopw [43] (fun i wr => ∃ k : Nat, k ≤ lf ∧ i = .int .i64 k ∧ (∀ j x, j < k → fargs[j]? = some x → 0 ≤ x ∧ x < n) ∧ Below W.heap.size W wr) (fun i _ => lf - (intOf i).toNat)
  case atStart => exact ⟨0, Nat.zero_le _, rfl, fun j x h => by omega, hb2⟩
  case round =>
    obtain ⟨k, hk, rfl, hall, hb⟩ := hrel
    have HALL := Lib.hid hall
    clear hall
    have q0 := keepB hb p0
    have q1 := keepB hb p1
    have q2 := keepB hb p2
    by_cases hkn : k < lf
    · obtain ⟨x, hx⟩ : ∃ x, fargs[k]? = some x := ⟨_, List.getElem?_eq_getElem (by have := HLF.out; omega)⟩
      obtain ⟨bf, of, rfl, hbz, cx⟩ := Rep.int HFOK.out.1 (V5.out.below hb) hx
      have HX := Lib.hid hx
      clear hx
      by_cases hxr : 0 ≤ x ∧ x < n
      · have hin := inR_true hxr
        go_wp2_with (go_at_call 168; refine (HH.out _ _).mono ?_; rintro e w3 ⟨rfl, hb3⟩; rw [hin])
        go_roundw
        case rel =>
          refine ⟨k + 1, by omega, by go_num, fun j y hj hy => ?_, hb.trans (hb3.mono hb.size)⟩
          by_cases hjk : j = k
          · subst hjk
            rw [HX.out] at hy
            injection hy with hy
            rw [← hy]
            exact hxr
          · exact HALL.out j y (by omega) hy
        case measure => simp [intOf]; omega
      · have hin := inR_false hxr
        have HF : Hid (declsOk s ⟨name, decls, ac, cm, un⟩ = false) := declsOk_false fun h => hxr (by have := (h.all _ HF0.out _ (List.mem_of_getElem? HF0.out)).args x (List.mem_of_getElem? HX.out); rw [HN.out] at this; exact this)
        go_wp2_with (go_at_call 168; refine (HH.out _ _).mono ?_; rintro e w3 ⟨rfl, hb3⟩; rw [hin])
        go_ret
        exact ⟨ret_bool HF.out.symm, hbW.trans ((hb.trans (hb3.mono hb.size)).mono hbW.size)⟩
    · obtain rfl : lf = k := by omega
      have HFA : Hid (∀ x ∈ fargs, 0 ≤ x ∧ x < (n : Int)) := fun x hx => by
        obtain ⟨j, hj⟩ := List.mem_iff_getElem?.1 hx
        exact HALL.out j x (by have := (List.getElem?_eq_some_iff.1 hj).1; have := HLF.out; omega) hj
      have q3 := keepB hb p3
      go_wp2
      clear q0 q1 q2 q3 HALL
      have hb4 := hb
      clear hb
      obtain ⟨wo, rfl⟩ : ∃ x : World, x = wr := ⟨_, rfl⟩
      go_loopw [55] (fun i wr => ∃ k : Nat, k ≤ m ∧ i = .int .i64 k ∧ (∀ j d, j < k → decls[j]? = some d → DeclOk s ⟨fargs, fres⟩ d) ∧ Below W.heap.size W wr) (fun i _ => m - (intOf i).toNat)
      case atStart => exact ⟨0, Nat.zero_le _, rfl, fun j x h => by omega, hb4⟩
      case round =>
        obtain ⟨k, hk, rfl, hall, hb⟩ := hrel
        have HALL := Lib.hid hall
        clear hall
        by_cases hkm' : k < m
        · obtain ⟨d, hd⟩ : ∃ d, decls[k]? = some d := ⟨_, List.getElem?_eq_getElem (by have := HM.out; omega)⟩
          obtain ⟨_, _, hA, _, hbz, hrow⟩ := Rep.at okDclR HOK.out.2.1 (V1.out.below hb) hd
          injection hA with hA
          injection hA with hA hA'
          subst hA hA'
          have HDOK := Lib.hid (HOK.out.2.1 d (List.mem_of_getElem? hd))
          have HD := Lib.hid hd
          clear hd
          obtain ⟨dargs, dres⟩ := d
          simp only [encDcl, RepRow, and_true, fieldsOf, List.length_cons, List.length_nil, Nat.reduceAdd, Rep.lit_iff] at hrow
          obtain ⟨⟨u0, c0, r0⟩, ⟨_, c1, rfl⟩⟩ := hrow
          obtain ⟨Ad, capd, rfl, hcd, hmd⟩ := r0.shape
          have RD := Lib.hid r0
          clear r0
          unfold maxLen at hmd
          generalize hLD : dargs.length = ld at *
          have HLD := Lib.hid hLD
          clear hLD
          have hone : ∀ u ∈ [Value.slice Ad ld capd, Value.int .i64 dres], u.oneCell' = true := by simp [Value.oneCell']
          have HONE := Lib.hid hone
          clear hone
          go_wp2_with (refine wpList_store_new rfl 181 _ _ rfl _ _ _ rfl _ rfl (by simp) [.slice Ad ld capd, .int .i64 dres] rfl ic hci hcs rfl HONE.out ?_)
          generalize hW9 : wr.alloc _ = W9
          have hb9 : Below wr.heap.size wr W9 := by rw [← hW9]; exact belowA _ _
          have y0 : W9.cell? ⟨wr.heap.size, 0, none⟩ = some (.slice Ad ld capd) := (by rw [← hW9]; repeat' (first | (simp; done) | exact keepNew (by simp) rfl | refine keepA _ ?_))
          have y1 : W9.cell? ⟨wr.heap.size, 1, none⟩ = some (.int .i64 dres) := (by rw [← hW9]; repeat' (first | (simp; done) | exact keepNew (by simp) rfl | refine keepA _ ?_))
          clear hW9 c0 c1
          have hb5 : Below W.heap.size W W9 := hb.trans (hb9.mono hb.size)
          have k0 := cell_regrown (keepB hb5 p0)
          have k1 := cell_regrown (keepB hb5 p1)
          have k2 := cell_regrown (keepB hb5 p2)
          have k4 := cell_regrown (keepB hb5 p4)
          have k5 := cell_regrown (keepB hb5 p5)
          have k6 := cell_regrown y0
          have k7 := cell_regrown y1
          have HC : Hid (∀ (x : Int) d os, Calls Tryz.prog 168 #[.agg #[.slice Aa n ca, vb, .slice Ak n ck], .int .i64 x] (grow (redrawn W9 d) os) fun e w'' => e = .returned (.bool (inR n x)) ∧ ∃ p : Regrown, w'' = grow (redrawn W9 p.d) p.os) := fun x d os => Calls.regrown_of (HH.out x _)
          by_cases hc1 : ld = lf
          rotate_left
          · have HF : Hid (declsOk s ⟨name, decls, ac, cm, un⟩ = false) := declsOk_false fun h => hc1 (by have := (h.all _ HF0.out _ (List.mem_of_getElem? HD.out)).len; have := HLD.out; have := HLF.out; simp only at *; omega)
            have n1 : (ld == lf) = false := by simp [hc1]
            have n2 : ((ld : Int) == (lf : Int)) = false := by simp; omega
            have n3 : ((ld : Int) != (lf : Int)) = true := by simp; omega
            (refine wp_region_quiet_below (by kernel_rfl) (by kernel_rfl) ?_
             repeat (first | go_big_quiet_step (first | (go_at_call 168; exact HC.out _ _ _)) | quiet_step (first | (go_at_call 168; exact HC.out _ _ _)))
             refine wpQuiet_nil ?_
             intro _ hw'
             obtain ⟨⟨dq, osq⟩, hw''⟩ := hw'
             subst hw'')
            go_wp2
            go_ret
            exact ⟨ret_bool HF.out.symm, hbW.trans ((hb5.trans ((below_regrown W9 dq osq).mono hb5.size)).mono hbW.size)⟩
          obtain rfl : lf = ld := hc1.symm
          by_cases hc2 : 0 ≤ dres ∧ dres < n
          rotate_left
          · have HF : Hid (declsOk s ⟨name, decls, ac, cm, un⟩ = false) := declsOk_false fun h => hc2 (by have := (h.all _ HF0.out _ (List.mem_of_getElem? HD.out)).res; rw [HN.out] at this; exact this)
            have hin := inR_false hc2
            have HCd := Lib.hid (fun d os => HC.out dres d os)
            rw [hin] at HCd
            clear hc2 hin
            (refine wp_region_quiet_below (by kernel_rfl) (by kernel_rfl) ?_
             repeat (first | go_big_quiet_step (first | (go_at_call 168; exact HCd.out _ _)) | quiet_step (first | (go_at_call 168; exact HCd.out _ _)))
             refine wpQuiet_nil ?_
             intro _ hw'
             obtain ⟨⟨dq, osq⟩, hw''⟩ := hw'
             subst hw'')
            go_wp2
            go_ret
            exact ⟨ret_bool HF.out.symm, hbW.trans ((hb5.trans ((below_regrown W9 dq osq).mono hb5.size)).mono hbW.size)⟩
          have HCd := Lib.hid (fun d os => HC.out dres d os)
          rw [inR_true hc2] at HCd
          obtain ⟨dn, rfl⟩ := Int.eq_ofNat_of_zero_le hc2.1
          obtain ⟨fn, rfl⟩ := Int.eq_ofNat_of_zero_le hfr.1
          obtain ⟨bk, ok, rfl, hbk, kc1⟩ := kd_cell (by rw [HN.out]; exact HK.out) (by rw [HN.out]; exact h8) (VK.out.below hb5) (k := dn) (by rw [HN.out]; omega)
          obtain ⟨_, _, hA, _, kc2⟩ := kd_cell (by rw [HN.out]; exact HK.out) (by rw [HN.out]; exact h8) (VK.out.below hb5) (k := fn) (by rw [HN.out]; omega)
          injection hA with hA
          injection hA with hA hA'
          subst hA hA'
          have k8 := cell_regrown kc1
          have k9 := cell_regrown kc2
          by_cases hc3 : kd s dn = kd s fn
          rotate_left
          · have HF : Hid (declsOk s ⟨name, decls, ac, cm, un⟩ = false) := declsOk_false fun h => hc3 (h.all _ HF0.out _ (List.mem_of_getElem? HD.out)).kres
            generalize kd s dn = kx at *
            generalize kd s fn = ky at *
            have n1 : (kx == ky) = false := by simp [hc3]
            have n2 : ((kx : Int) == (ky : Int)) = false := by simp; omega
            have n3 : ((kx : Int) != (ky : Int)) = true := by simp; omega
            (refine wp_region_quiet_below (by kernel_rfl) (by kernel_rfl) ?_
             repeat (first | go_big_quiet_step (first | (go_at_call 168; exact HCd.out _ _)) | quiet_step (first | (go_at_call 168; exact HCd.out _ _)))
             refine wpQuiet_nil ?_
             intro _ hw'
             obtain ⟨⟨dq, osq⟩, hw''⟩ := hw'
             subst hw'')
            go_wp2
            go_ret
            exact ⟨ret_bool HF.out.symm, hbW.trans ((hb5.trans ((below_regrown W9 dq osq).mono hb5.size)).mono hbW.size)⟩
          have HC3 := Lib.hid hc3
          rw [hc3] at k8 kc1
          generalize kd s fn = ky at k8 k9 kc1 kc2
          clear hc3
          (refine wp_region_quiet_below (by kernel_rfl) (by kernel_rfl) ?_
           repeat (first | go_big_quiet_step (first | (go_at_call 168; exact HCd.out _ _)) | quiet_step (first | (go_at_call 168; exact HCd.out _ _)))
           refine wpQuiet_nil ?_
           intro _ hw'
           obtain ⟨⟨dq, osq⟩, hw''⟩ := hw'
           subst hw'')
          have hb6 : Below W.heap.size W (grow (redrawn W9 dq) osq) := hb5.trans ((below_regrown W9 dq osq).mono hb5.size)
          have y2 := k6 dq osq
          have y3 := k7 dq osq
          clear k0 k1 k2 k4 k5 k6 k7 k8 k9 kc1 kc2 HCd HC y0 y1
          have hb10 := below_regrown W9 dq osq
          have RD2 := Lib.hid ((RD.out.below hb9).below hb10)
          clear RD
          generalize grow (redrawn W9 dq) osq = W10 at *
          go_wp2
          have hb11 := hb6
          clear y2 y3 hb5 hb6 hb9 hb10
          obtain ⟨wo2, rfl⟩ : ∃ x : World, x = wr := ⟨_, rfl⟩
          go_loopw [91] (fun i wr => ∃ j : Nat, j ≤ lf ∧ i = .int .i64 j ∧ (∀ (i : Nat) (a b : Int), i < j → dargs[i]? = some a → fargs[i]? = some b → (0 ≤ a ∧ a < n) ∧ kd s a = kd s b) ∧ Below W10.heap.size W10 wr) (fun i _ => lf - (intOf i).toNat)
          case atStart => exact ⟨0, Nat.zero_le _, rfl, fun i a b h => by omega, Below.refl _ _⟩
          case round =>
            obtain ⟨j, hj, rfl, hall, hb⟩ := hrel
            have HA2 := Lib.hid hall
            clear hall
            by_cases hjn : j < lf
            · obtain ⟨x, hx⟩ : ∃ x, dargs[j]? = some x := ⟨_, List.getElem?_eq_getElem (by have := HLD.out; omega)⟩
              obtain ⟨y, hy⟩ : ∃ y, fargs[j]? = some y := ⟨_, List.getElem?_eq_getElem (by have := HLF.out; omega)⟩
              obtain ⟨bd, od, rfl, hbd, cx⟩ := Rep.int HDOK.out.1 (RD2.out.below hb) hx
              have hb12 : Below W.heap.size W wr := hb11.trans (hb.mono hb11.size)
              obtain ⟨bf, of, rfl, hbf, cy⟩ := Rep.int HFOK.out.1 (V5.out.below hb12) hy
              have hyr := HFA.out y (List.mem_of_getElem? hy)
              have HX := Lib.hid hx
              have HY := Lib.hid hy
              clear hx hy
              have k0 := cell_regrown (keepB hb12 p0)
              have k1 := cell_regrown (keepB hb12 p1)
              have k2 := cell_regrown (keepB hb12 p2)
              have k4 := cell_regrown (keepB hb12 p4)
              have k5 := cell_regrown cy
              have HC : Hid (∀ (x : Int) d os, Calls Tryz.prog 168 #[.agg #[.slice Aa n ca, vb, .slice (some ⟨bk, ok, none⟩) n ck], .int .i64 x] (grow (redrawn wr d) os) fun e w'' => e = .returned (.bool (inR n x)) ∧ ∃ p : Regrown, w'' = grow (redrawn wr p.d) p.os) := fun x d os => Calls.regrown_of (HH.out x _)
              by_cases hxr : 0 ≤ x ∧ x < n
              rotate_left
              · have HF : Hid (declsOk s ⟨name, decls, ac, cm, un⟩ = false) := declsOk_false fun h => hxr (by have := (h.all _ HF0.out _ (List.mem_of_getElem? HD.out)).args x (List.mem_of_getElem? HX.out); rw [HN.out] at this; exact this)
                have HCd := Lib.hid (fun d os => HC.out x d os)
                rw [inR_false hxr] at HCd
                clear hxr
                go_wp2_with fail
                (refine wp_region_quiet_below (by kernel_rfl) (by kernel_rfl) ?_
                 repeat (first | go_big_quiet_step (first | (go_at_call 168; exact HCd.out _ _)) | quiet_step (first | (go_at_call 168; exact HCd.out _ _)))
                 refine wpQuiet_nil ?_
                 intro _ hw'
                 obtain ⟨⟨dq, osq⟩, hw''⟩ := hw'
                 subst hw'')
                go_wp2
                go_ret
                exact ⟨ret_bool HF.out.symm, hbW.trans ((hb12.trans ((below_regrown wr dq osq).mono hb12.size)).mono hbW.size)⟩
              have HCd := Lib.hid (fun d os => HC.out x d os)
              rw [inR_true hxr] at HCd
              obtain ⟨xn, rfl⟩ := Int.eq_ofNat_of_zero_le hxr.1
              obtain ⟨yn, rfl⟩ := Int.eq_ofNat_of_zero_le hyr.1
              obtain ⟨_, _, hA, _, kc1⟩ := kd_cell (by rw [HN.out]; exact HK.out) (by rw [HN.out]; exact h8) (VK.out.below hb12) (k := xn) (by rw [HN.out]; omega)
              injection hA with hA
              injection hA with hA hA'
              subst hA hA'
              obtain ⟨_, _, hA, _, kc2⟩ := kd_cell (by rw [HN.out]; exact HK.out) (by rw [HN.out]; exact h8) (VK.out.below hb12) (k := yn) (by rw [HN.out]; omega)
              injection hA with hA
              injection hA with hA hA'
              subst hA hA'
              have k8 := cell_regrown kc1
              have k9 := cell_regrown kc2
              by_cases hc3 : kd s xn = kd s yn
              rotate_left
              · have HF : Hid (declsOk s ⟨name, decls, ac, cm, un⟩ = false) := declsOk_false fun h => hc3 ((h.all _ HF0.out _ (List.mem_of_getElem? HD.out)).kargs j _ _ HX.out HY.out)
                generalize kd s xn = kx at *
                generalize kd s yn = kz at *
                have n1 : (kx == kz) = false := by simp [hc3]
                have n2 : ((kx : Int) == (kz : Int)) = false := by simp; omega
                have n3 : ((kx : Int) != (kz : Int)) = true := by simp; omega
                go_wp2_with fail
                (refine wp_region_quiet_below (by kernel_rfl) (by kernel_rfl) ?_
                 repeat (first | go_big_quiet_step (first | (go_at_call 168; exact HCd.out _ _)) | quiet_step (first | (go_at_call 168; exact HCd.out _ _)))
                 refine wpQuiet_nil ?_
                 intro _ hw'
                 obtain ⟨⟨dq, osq⟩, hw''⟩ := hw'
                 subst hw'')
                go_wp2
                go_ret
                exact ⟨ret_bool HF.out.symm, hbW.trans ((hb12.trans ((below_regrown wr dq osq).mono hb12.size)).mono hbW.size)⟩
              have HC4 := Lib.hid hc3
              rw [hc3] at k8 kc1
              generalize kd s yn = kz at k8 k9 kc1 kc2
              clear hc3
              go_wp2_with fail
              (refine wp_region_quiet_below (by kernel_rfl) (by kernel_rfl) ?_
               repeat (first | go_big_quiet_step (first | (go_at_call 168; exact HCd.out _ _)) | quiet_step (first | (go_at_call 168; exact HCd.out _ _)))
               refine wpQuiet_nil ?_
               intro _ hw'
               obtain ⟨⟨dq, osq⟩, hw''⟩ := hw'
               subst hw'')
              go_wp2
              go_roundw
              case rel =>
                refine ⟨j + 1, by omega, by go_num, fun i a b hi ha hb' => ?_, hb.trans ((below_regrown wr dq osq).mono hb.size)⟩
                by_cases hij : i = j
                · subst hij
                  rw [HX.out] at ha
                  rw [HY.out] at hb'
                  injection ha with ha
                  injection hb' with hb'
                  rw [← ha, ← hb']
                  exact ⟨hxr, HC4.out⟩
                · exact HA2.out i a b (by omega) ha hb'
              case measure => simp [intOf]; omega
            · obtain rfl : lf = j := by omega
              have HDO : Hid (DeclOk s ⟨fargs, fn⟩ ⟨dargs, dn⟩) := by
                refine ⟨by have := HLD.out; have := HLF.out; simp only; omega, by rw [HN.out]; exact hc2, fun x hx => ?_, HC3.out, fun i a b ha hb' => ?_⟩
                · rw [HN.out]
                  obtain ⟨i, hi⟩ := List.mem_iff_getElem?.1 hx
                  have hil : i < dargs.length := (List.getElem?_eq_some_iff.1 hi).1
                  have hil2 := HLD.out
                  have hil3 := HLF.out
                  exact (HA2.out i x fargs[i] (by omega) hi (List.getElem?_eq_getElem (by omega))).1
                · have hil : i < fargs.length := (List.getElem?_eq_some_iff.1 hb').1
                  have hil3 := HLF.out
                  exact (HA2.out i a b (by omega) ha hb').2
              go_wp2
              go_roundw
              case rel =>
                refine ⟨k + 1, by omega, by go_num, fun i d hi hd => ?_, hb11.trans (hb.mono hb11.size)⟩
                by_cases hik : i = k
                · subst hik
                  rw [HD.out] at hd
                  injection hd with hd
                  rw [← hd]
                  exact HDO.out
                · exact HALL.out i d (by omega) hd
              case measure => simp [intOf]; omega
        · obtain rfl : m = k := by omega
          have HF : Hid (declsOk s ⟨name, decls, ac, cm, un⟩ = true) := declsOk_true (by
            have hm' := HM.out
            have hl' := HLF.out
            refine ⟨by simp only; omega, by simp only; omega, fun f hf => ?_, fun f hf d hd => ?_⟩
            · rw [HF0.out] at hf
              injection hf with hf
              subst hf
              simp only
              omega
            · rw [HF0.out] at hf
              injection hf with hf
              subst hf
              obtain ⟨i, hi⟩ := List.mem_iff_getElem?.1 hd
              exact HALL.out i d (by have hil : i < decls.length := (List.getElem?_eq_some_iff.1 hi).1; omega) hi)
          go_wp2
          go_ret
          exact ⟨ret_bool HF.out.symm, hbW.trans (hb.mono hbW.size)⟩
end Go.Proofs.YtpbikjkjfojjiaaGreat

namespace Go.Proofs.YtpbikjkjfojjiaaGreat
open Go.RowKit Go.Sort

structure AxOk (g : Sgn) (o : Opr) : Prop where
  lo : 0 ≤ o.unit
  hi : o.unit ≤ g.ops.length
  two : (o.assoc = true ∨ o.comm = true ∨ o.unit ≠ 0) → ∀ d, o.decls[0]? = some d → d.args.length = 2 ∧ ∀ a b, d.args[0]? = some a → d.args[1]? = some b → kd g.sorts a = kd g.sorts b ∧ ((o.assoc = true ∨ o.unit ≠ 0) → kd g.sorts a = kd g.sorts d.res) ∧
    (o.unit ≠ 0 → ∀ (p : Opr) (u : Dcl), g.ops[o.unit.toNat - 1]? = some p → p.decls[0]? = some u → u.args.length = 0 ∧ kd g.sorts u.res = kd g.sorts d.res)
open Classical in
noncomputable def axOk (g : Sgn) (o : Opr) : Bool := decide (AxOk g o)
theorem axOk_true {g : Sgn} {o : Opr} (h : AxOk g o) : axOk g o = true := by simp [axOk, h]
theorem axOk_false {g : Sgn} {o : Opr} (h : ¬ AxOk g o) : axOk g o = false := by simp [axOk, h]
theorem axOk_iff {g : Sgn} {o : Opr} : axOk g o = true ↔ AxOk g o := by simp [axOk]
theorem DeclsOk.first {s : Srt} {o : Opr} (h : DeclsOk s o) : ∃ d, o.decls[0]? = some d ∧ DeclOk s d d := by
  have h1 := h.len1
  exact ⟨o.decls[0], List.getElem?_eq_getElem (by omega), h.all _ (List.getElem?_eq_getElem (by omega)) _ (List.getElem_mem _)⟩
theorem two_of {l : List Int} (h : l.length = 2) : ∃ a b, l = [a, b] := len2 h

set_option maxHeartbeats 20000000 in
set_option maxRecDepth 100000 in
theorem implAxiomsOK (g : Sgn) (o : Opr) (S : Nat → Prop) (Aa Ak : Option Addr) (n ca ck : Nat) (vb : Value) (vs us : List Value) (w : World) (hN : g.sorts.names.length = n) (h8 : n ≤ 8) (hK : KOk n (kinds g.sorts)) (hokg : okSgn g) (hok : okOpr o) (hvg : RepVals w S (encSgn g) vs) (hv : RepVals w S (encOpr o) us)
    (hD : DeclsOk g.sorts o) (hall : ∀ p ∈ g.ops, DeclsOk g.sorts p) (hb1 : vb.oneCell' = true) (hk : Rep w S (.sl ((casts (kinds g.sorts)).map encInt)) (.slice Ak n ck)) :
    Calls Tryz.prog 145 #[.agg #[.slice Aa n ca, vb, .slice Ak n ck], .agg vs.toArray, .agg us.toArray] w fun e w' => e = .returned (.bool (axOk g o)) ∧ Below w.heap.size w w' := by
  obtain ⟨s, ops⟩ := g
  simp only at hN hK hD hall hk
  obtain ⟨g0, g1, g2, rfl, f0, f1, f2⟩ := repVals_Signature hvg
  obtain ⟨Ag0, cg0, rfl, _, _⟩ := f0.shape
  obtain ⟨Ag1, cg1, rfl, _, _⟩ := f1.shape
  obtain ⟨Ag2, cg2, rfl, hcg2, hmg2⟩ := f2.shape
  obtain ⟨name, decls, ac, cm, un⟩ := o
  simp only [encOpr] at hv
  obtain ⟨v1, rfl, e1⟩ := repVals_Op hv
  obtain ⟨A1, cap1, rfl, hc1, hm1⟩ := e1.shape
  obtain ⟨ic, hci, _, hcs, _⟩ := info_parts info_Decl'
  obtain ⟨d, hd, hdd⟩ := hD.first
  simp only at hd
  obtain ⟨b1, o1, rfl, _, hz1, hrow⟩ := Rep.at okDclR hok.2.1 e1 hd
  have HDOK := Lib.hid (hok.2.1 d (List.mem_of_getElem? hd))
  obtain ⟨dargs, dres⟩ := d
  simp only [encDcl, RepRow, and_true, fieldsOf, List.length_cons, List.length_nil, Nat.reduceAdd, Nat.zero_mul, Nat.add_zero, Rep.lit_iff] at hrow
  obtain ⟨⟨u0, c0, r0⟩, ⟨_, c1, rfl⟩⟩ := hrow
  obtain ⟨Ad, capd, rfl, hcd, hmd⟩ := r0.shape
  have hun : I64 un := hok.2.2
  have HD0 := Lib.hid hd
  have HDD := Lib.hid hdd
  have HALL := Lib.hid hall
  have HN := Lib.hid hN
  have HK := Lib.hid hK
  have HKR := Lib.hid hk
  have RD := Lib.hid r0
  have F2 := Lib.hid f2
  have HOKG := Lib.hid hokg
  have hml : 1 ≤ decls.length := hD.len1
  clear hv hvg e1 hok hd hdd hall hN hK hk r0 f0 f1 f2 hokg hD
  have hkm : ck ≤ maxLen := by
    obtain ⟨_, _, h, _, h2⟩ := HKR.out.shape
    injection h with _ _ h
    rw [h]
    exact h2
  unfold maxLen at hkm hm1 hmd hmg2
  unfold I64 at hun
  generalize s.names.length = ln
  generalize s.subs.length = ls
  generalize hM : ops.length = m at *
  have HM := Lib.hid hM
  generalize hML : decls.length = md at *
  generalize hLD : dargs.length = ld at *
  have HLD := Lib.hid hLD
  clear hM hML hLD
  have hz2 : b1 < w.heap.size + 1 := by omega
  have hz3 : b1 < w.heap.size + 1 + 1 := by omega
  have hz4 : b1 < w.heap.size + 1 + 1 + 1 := by omega
  by_cases u0 : un < 0
  · have HF : Hid (axOk ⟨s, ops⟩ ⟨name, decls, ac, cm, un⟩ = false) := axOk_false fun h => by have := h.lo; simp only at this; omega
    go_enter Tryz.func145, Tryz.ntmps145
    go_wp2
    go_ret
    exact ⟨ret_bool HF.out.symm, ((((Below.refl _ _).alloc (Nat.le_refl _) _).alloc (by simp) _).alloc (by simp; omega) _)⟩
  by_cases u1 : (m : Int) < un
  · have HF : Hid (axOk ⟨s, ops⟩ ⟨name, decls, ac, cm, un⟩ = false) := axOk_false fun h => by have := h.hi; have := HM.out; simp only at *; omega
    go_enter Tryz.func145, Tryz.ntmps145
    go_wp2
    go_ret
    exact ⟨ret_bool HF.out.symm, ((((Below.refl _ _).alloc (Nat.le_refl _) _).alloc (by simp) _).alloc (by simp; omega) _)⟩
  by_cases u2 : ac = false ∧ cm = false ∧ un = 0
  · obtain ⟨rfl, rfl, rfl⟩ := u2
    have HF : Hid (axOk ⟨s, ops⟩ ⟨name, decls, false, false, 0⟩ = true) := axOk_true ⟨by simp, by simp, fun h => by simp at h⟩
    go_enter Tryz.func145, Tryz.ntmps145
    go_wp2
    go_ret
    exact ⟨ret_bool HF.out.symm, ((((Below.refl _ _).alloc (Nat.le_refl _) _).alloc (by simp) _).alloc (by simp; omega) _)⟩
  have HU2 : Hid (ac = true ∨ cm = true ∨ un ≠ 0) := by
    show _ ∨ _
    cases ac <;> cases cm <;> simp at u2 ⊢ <;> omega
  by_cases u3 : ld = 2
  rotate_left
  · have HF : Hid (axOk ⟨s, ops⟩ ⟨name, decls, ac, cm, un⟩ = false) := axOk_false fun h => u3 (by have := (h.two HU2.out _ HD0.out).1; have := HLD.out; simp only at *; omega)
    have n1 : (ld == 2) = false := by simp [u3]
    have n2 : ((ld : Int) == 2) = false := by simp; omega
    have n3 : ((ld : Int) != 2) = true := by simp; omega
    cases ac <;> cases cm
    all_goals
      (try simp only [Bool.false_eq_true, false_and, true_and, not_false_eq_true, and_false, false_or, true_or] at u2)
      go_enter Tryz.func145, Tryz.ntmps145
      go_wp2_with ((with_reducible refine atStore 181 (.tmp 7) (.tmp 36) rfl ?_); refine wpList_store_new rfl 181 _ _ rfl _ _ _ rfl _ rfl (by simp) [.slice Ad ld capd, .int .i64 dres] rfl ic hci hcs rfl (by simp [Value.oneCell']) ?_)
      go_quiet (fail)
      go_wp2
      go_ret
      exact ⟨ret_bool HF.out.symm, below_drewN (((((Below.refl _ _).alloc (Nat.le_refl _) _).alloc (by simp) _).alloc (by simp; omega) _).alloc (by simp; omega) _) _⟩
  subst u3
  obtain ⟨a, b, rfl⟩ := two_of HLD.out
  obtain ⟨ba, oa, rfl, hza, ca0⟩ := Rep.int HDOK.out.1 RD.out (k := 0) (x := a) rfl
  obtain ⟨_, _, hA, _, ca1⟩ := Rep.int HDOK.out.1 RD.out (k := 1) (x := b) rfl
  injection hA with hA
  injection hA with hA hA'
  subst hA hA'
  simp only [Nat.add_zero] at ca0
  have ha := HDD.out.args a (by simp)
  have hb := HDD.out.args b (by simp)
  have hr := HDD.out.res
  simp only at hr
  rw [HN.out] at ha hb hr
  obtain ⟨a, rfl⟩ := Int.eq_ofNat_of_zero_le ha.1
  obtain ⟨b, rfl⟩ := Int.eq_ofNat_of_zero_le hb.1
  obtain ⟨r, rfl⟩ := Int.eq_ofNat_of_zero_le hr.1
  obtain ⟨bk, ok, rfl, hzk, ka⟩ := kd_cell (by rw [HN.out]; exact HK.out) (by rw [HN.out]; exact h8) HKR.out (k := a) (by rw [HN.out]; omega)
  obtain ⟨_, _, hA, _, kb⟩ := kd_cell (by rw [HN.out]; exact HK.out) (by rw [HN.out]; exact h8) HKR.out (k := b) (by rw [HN.out]; omega)
  injection hA with hA
  injection hA with hA hA'
  subst hA hA'
  obtain ⟨_, _, hA, _, kr⟩ := kd_cell (by rw [HN.out]; exact HK.out) (by rw [HN.out]; exact h8) HKR.out (k := r) (by rw [HN.out]; omega)
  injection hA with hA
  injection hA with hA hA'
  subst hA hA'
  have hza2 : ba < w.heap.size + 1 := by omega
  have hza3 : ba < w.heap.size + 1 + 1 := by omega
  have hza4 : ba < w.heap.size + 1 + 1 + 1 := by omega
  have hzk2 : bk < w.heap.size + 1 := by omega
  have hzk3 : bk < w.heap.size + 1 + 1 := by omega
  have hzk4 : bk < w.heap.size + 1 + 1 + 1 := by omega
  clear HDD
  generalize hka : kd s a = ka' at *
  generalize hkb : kd s b = kb' at *
  generalize hkr : kd s r = kr' at *
  have HKA := Lib.hid hka
  have HKB := Lib.hid hkb
  have HKC := Lib.hid hkr
  clear hka hkb hkr
  by_cases u4 : ka' = kb'
  rotate_left
  · have HF : Hid (axOk ⟨s, ops⟩ ⟨name, decls, ac, cm, un⟩ = false) := axOk_false fun h => u4 (by have := ((h.two HU2.out _ HD0.out).2 _ _ rfl rfl).1; simp only [HKA.out, HKB.out] at this; exact this)
    have n1 : (ka' == kb') = false := by simp [u4]
    have n2 : ((ka' : Int) == (kb' : Int)) = false := by simp; omega
    have n3 : ((ka' : Int) != (kb' : Int)) = true := by simp; omega
    cases ac <;> cases cm
    all_goals
      (try simp only [Bool.false_eq_true, false_and, true_and, not_false_eq_true, and_false, false_or, true_or] at u2)
      go_enter Tryz.func145, Tryz.ntmps145
      go_wp2_with ((with_reducible refine atStore 181 (.tmp 7) (.tmp 36) rfl ?_); refine wpList_store_new rfl 181 _ _ rfl _ _ _ rfl _ rfl (by simp) [.slice (some ⟨ba, oa, none⟩) 2 capd, .int .i64 r] rfl ic hci hcs rfl (by simp [Value.oneCell']) ?_)
      go_quiet (fail)
      go_wp2
      go_ret
      exact ⟨ret_bool HF.out.symm, below_drewN (((((Below.refl _ _).alloc (Nat.le_refl _) _).alloc (by simp) _).alloc (by simp; omega) _).alloc (by simp; omega) _) _⟩
  subst u4
  by_cases u5 : (ac = true ∨ un ≠ 0) ∧ ka' ≠ kr'
  · have HF : Hid (axOk ⟨s, ops⟩ ⟨name, decls, ac, cm, un⟩ = false) := axOk_false fun h => u5.2 (by have := ((h.two HU2.out _ HD0.out).2 _ _ rfl rfl).2.1 u5.1; simp only [HKA.out, HKC.out] at this; exact this)
    obtain ⟨u6, u7⟩ := u5
    have n1 : (ka' == kr') = false := by simp [u7]
    have n2 : ((ka' : Int) == (kr' : Int)) = false := by simp; omega
    have n3 : ((ka' : Int) != (kr' : Int)) = true := by simp; omega
    cases ac <;> cases cm
    all_goals
      (try simp only [Bool.false_eq_true, false_and, true_and, not_false_eq_true, and_false, false_or, true_or, ne_eq] at u2 u6)
      (try have m1 : (un == 0) = false := by simp [u6])
      (try have m2 : (un != 0) = true := by simp [u6])
      go_enter Tryz.func145, Tryz.ntmps145
      go_wp2_with ((with_reducible refine atStore 181 (.tmp 7) (.tmp 36) rfl ?_); refine wpList_store_new rfl 181 _ _ rfl _ _ _ rfl _ rfl (by simp) [.slice (some ⟨ba, oa, none⟩) 2 capd, .int .i64 r] rfl ic hci hcs rfl (by simp [Value.oneCell']) ?_)
      go_quiet (fail)
      go_wp2
      go_quiet (fail)
      go_wp2
      go_ret
      first | exact ⟨ret_bool HF.out.symm, below_drewN (((((Below.refl _ _).alloc (Nat.le_refl _) _).alloc (by simp) _).alloc (by simp; omega) _).alloc (by simp; omega) _) _⟩ | exact ⟨ret_bool HF.out.symm, below_drewN (below_drewN (((((Below.refl _ _).alloc (Nat.le_refl _) _).alloc (by simp) _).alloc (by simp; omega) _).alloc (by simp; omega) _) _) _⟩
  have HU5 : Hid ((ac = true ∨ un ≠ 0) → ka' = kr') := fun h => Decidable.byContradiction fun h' => u5 ⟨h, h'⟩
  by_cases u6 : un = 0
  · subst u6
    have HF : Hid (axOk ⟨s, ops⟩ ⟨name, decls, ac, cm, 0⟩ = true) := axOk_true ⟨by simp, by simp, fun _ d hd => by
      have hd' : decls[0]? = some d := hd
      rw [HD0.out] at hd'
      injection hd' with hd'
      subst hd'
      refine ⟨rfl, fun x y hx hy => ?_⟩
      have hx : (a : Int) = x := by simpa using hx
      have hy : (b : Int) = y := by simpa using hy
      subst hx hy
      exact ⟨by rw [HKA.out, HKB.out], fun h => by show kd s a = kd s r; rw [HKA.out, HKC.out]; exact HU5.out h, fun h => absurd rfl h⟩⟩
    cases ac <;> cases cm
    · simp at u2
    all_goals
      have HQ := HU5
      (try (have u7 := HQ.out (Or.inl rfl)))
      (try subst u7)
      clear u5
      go_enter Tryz.func145, Tryz.ntmps145
      go_wp2_with ((with_reducible refine atStore 181 (.tmp 7) (.tmp 36) rfl ?_); refine wpList_store_new rfl 181 _ _ rfl _ _ _ rfl _ rfl (by simp) [.slice (some ⟨ba, oa, none⟩) 2 capd, .int .i64 r] rfl ic hci hcs rfl (by simp [Value.oneCell']) ?_)
      go_quiet (fail)
      go_wp2
      go_quiet (fail)
      go_wp2
      go_ret
      first | exact ⟨ret_bool HF.out.symm, below_drewN (((((Below.refl _ _).alloc (Nat.le_refl _) _).alloc (by simp) _).alloc (by simp; omega) _).alloc (by simp; omega) _) _⟩ | exact ⟨ret_bool HF.out.symm, below_drewN (below_drewN (((((Below.refl _ _).alloc (Nat.le_refl _) _).alloc (by simp) _).alloc (by simp; omega) _).alloc (by simp; omega) _) _) _⟩
  have u7 : ka' = kr' := HU5.out (.inr u6)
  subst u7
  obtain ⟨q, hq⟩ : ∃ q : Nat, un = (q : Int) + 1 := ⟨(un - 1).toNat, by omega⟩
  subst hq
  obtain ⟨p, hp⟩ : ∃ p, ops[q]? = some p := ⟨_, List.getElem?_eq_getElem (by have := HM.out; omega)⟩
  obtain ⟨bo, oo, rfl, _, hzo, hrow⟩ := Rep.at okOprR HOKG.out.2 F2.out hp
  obtain ⟨u, hu, huu⟩ := (HALL.out p (List.mem_of_getElem? hp)).first
  have HPOK := Lib.hid (HOKG.out.2 p (List.mem_of_getElem? hp))
  have HP := Lib.hid hp
  have HUU := Lib.hid hu
  obtain ⟨pname, pdecls, pac, pcm, pun⟩ := p
  simp only [encOpr, RepRow, and_true, fieldsOf, List.length_cons, List.length_nil, Nat.reduceAdd, Rep.lit_iff] at hrow
  obtain ⟨⟨_, d0, rfl⟩, ⟨vd, d1, rd⟩, ⟨_, d2, rfl⟩, ⟨_, d3, rfl⟩, ⟨_, d4, rfl⟩⟩ := hrow
  obtain ⟨Au, capu, rfl, hcu, hmu⟩ := rd.shape
  simp only at hu huu
  obtain ⟨bu, ou, rfl, _, hzu, hrow⟩ := Rep.at okDclR HPOK.out.2.1 rd hu
  obtain ⟨uargs, ures⟩ := u
  simp only [encDcl, RepRow, and_true, fieldsOf, List.length_cons, List.length_nil, Nat.reduceAdd, Nat.zero_mul, Nat.add_zero, Rep.lit_iff] at hrow
  obtain ⟨⟨x0, x1, x2⟩, ⟨_, x3, rfl⟩⟩ := hrow
  obtain ⟨Av, capv, rfl, hcv, hmv⟩ := x2.shape
  have hur := huu.res
  simp only at hur
  rw [HN.out] at hur
  obtain ⟨ur, rfl⟩ := Int.eq_ofNat_of_zero_le hur.1
  obtain ⟨_, _, hA, _, ku⟩ := kd_cell (by rw [HN.out]; exact HK.out) (by rw [HN.out]; exact h8) HKR.out (k := ur) (by rw [HN.out]; omega)
  injection hA with hA
  injection hA with hA hA'
  subst hA hA'
  have hpl : 1 ≤ pdecls.length := (List.getElem?_eq_some_iff.1 hu).1
  have hzo2 : bo < w.heap.size + 1 := by omega
  have hzo3 : bo < w.heap.size + 1 + 1 := by omega
  have hzo4 : bo < w.heap.size + 1 + 1 + 1 := by omega
  have hzu2 : bu < w.heap.size + 1 := by omega
  have hzu3 : bu < w.heap.size + 1 + 1 := by omega
  have hzu4 : bu < w.heap.size + 1 + 1 + 1 := by omega
  have hzk5 : bk < w.heap.size + 1 + 1 + 1 + 1 := by omega
  unfold maxLen at hmu hmv
  clear hp hu huu x2 rd d0 d2 d3 d4
  generalize hku : kd s ur = ku' at *
  have HKU := Lib.hid hku
  generalize hLU : uargs.length = lu at *
  have HLU := Lib.hid hLU
  generalize pdecls.length = pl at *
  clear hku hLU u5
  have HIF : Hid (axOk ⟨s, ops⟩ ⟨name, decls, ac, cm, (q : Int) + 1⟩ = (lu == 0 && ku' == ka')) := by
    show _ = _
    by_cases hh : lu = 0 ∧ ku' = ka'
    · rw [axOk_true]
      · simp [hh.1, hh.2]
      · refine ⟨by simp; omega, by simp; have := HM.out; omega, fun _ d hd => ?_⟩
        have hd' : decls[0]? = some d := hd
        rw [HD0.out] at hd'
        injection hd' with hd'
        subst hd'
        refine ⟨rfl, fun x y hx hy => ?_⟩
        have hx : (a : Int) = x := by simpa using hx
        have hy : (b : Int) = y := by simpa using hy
        subst hx hy
        refine ⟨by rw [HKA.out, HKB.out], fun h => by show kd s a = kd s r; rw [HKA.out, HKC.out], fun _ p u hp hu => ?_⟩
        have hp' : ops[q]? = some p := by
          have : ops[((q : Int) + 1).toNat - 1]? = some p := hp
          rwa [show ((q : Int) + 1).toNat - 1 = q by omega] at this
        rw [HP.out] at hp'
        injection hp' with hp'
        subst hp'
        rw [HUU.out] at hu
        injection hu with hu
        subst hu
        exact ⟨by show uargs.length = 0; rw [HLU.out]; exact hh.1, by show kd s ur = kd s r; rw [HKU.out, HKC.out]; exact hh.2⟩
    · rw [axOk_false]
      · symm
        rw [Bool.eq_false_iff]
        intro h
        simp only [Bool.and_eq_true, beq_iff_eq] at h
        exact hh h
      · intro h
        have := ((h.two HU2.out _ HD0.out).2 _ _ rfl rfl).2.2 (by simp; omega) _ _ (by rw [show ((q : Int) + 1).toNat - 1 = q by omega]; exact HP.out) HUU.out
        simp only [HKU.out, HKC.out, HLU.out] at this
        exact hh this
  have hq0 : ((q : Int) + 1 == 0) = false := by simp; omega
  have hq1 : ((q : Int) + 1 != 0) = true := by simp; omega
  by_cases u8 : lu = 0
  rotate_left
  · have n1 : (lu == 0) = false := by simp [u8]
    have n2 : ((lu : Int) == 0) = false := by simp; omega
    have n3 : ((lu : Int) != 0) = true := by simp; omega
    rw [n1, Bool.false_and] at HIF
    clear u2
    cases ac
    · cases cm
      · go_enter Tryz.func145, Tryz.ntmps145
        go_wp2_with ((with_reducible refine atStore 181 (.tmp 7) (.tmp 36) rfl ?_); refine wpList_store_new rfl 181 _ _ rfl _ _ _ rfl _ rfl (by simp) [.slice (some ⟨ba, oa, none⟩) 2 capd, .int .i64 r] rfl ic hci hcs rfl (by simp [Value.oneCell']) ?_)
        go_quiet (fail)
        go_wp2
        go_quiet (fail)
        go_wp2_with ((with_reducible refine atStore 181 (.tmp 8) (.tmp 96) rfl ?_); refine wpList_store_newN rfl 181 _ _ rfl _ _ _ _ rfl _ rfl (by simp) [.slice Av lu capv, .int .i64 ur] rfl ic hci hcs rfl (by simp [Value.oneCell']) ?_)
        go_quiet (fail)
        go_wp2
        go_ret
        exact ⟨ret_bool HIF.out.symm, (by repeat' (first | exact Below.refl _ _ | refine below_drewN ?_ _ | refine Below.alloc ?_ (by first | exact Nat.le_refl _ | (simp; done) | (simp; omega)) _))⟩
      · go_enter Tryz.func145, Tryz.ntmps145
        go_wp2_with ((with_reducible refine atStore 181 (.tmp 7) (.tmp 36) rfl ?_); refine wpList_store_new rfl 181 _ _ rfl _ _ _ rfl _ rfl (by simp) [.slice (some ⟨ba, oa, none⟩) 2 capd, .int .i64 r] rfl ic hci hcs rfl (by simp [Value.oneCell']) ?_)
        go_quiet (fail)
        go_wp2
        go_quiet (fail)
        go_wp2_with ((with_reducible refine atStore 181 (.tmp 8) (.tmp 96) rfl ?_); refine wpList_store_newN rfl 181 _ _ rfl _ _ _ _ rfl _ rfl (by simp) [.slice Av lu capv, .int .i64 ur] rfl ic hci hcs rfl (by simp [Value.oneCell']) ?_)
        go_quiet (fail)
        go_wp2
        go_ret
        exact ⟨ret_bool HIF.out.symm, (by repeat' (first | exact Below.refl _ _ | refine below_drewN ?_ _ | refine Below.alloc ?_ (by first | exact Nat.le_refl _ | (simp; done) | (simp; omega)) _))⟩
    · go_enter Tryz.func145, Tryz.ntmps145
      go_wp2_with ((with_reducible refine atStore 181 (.tmp 7) (.tmp 36) rfl ?_); refine wpList_store_new rfl 181 _ _ rfl _ _ _ rfl _ rfl (by simp) [.slice (some ⟨ba, oa, none⟩) 2 capd, .int .i64 r] rfl ic hci hcs rfl (by simp [Value.oneCell']) ?_)
      go_quiet (fail)
      go_wp2
      go_quiet (fail)
      go_wp2_with ((with_reducible refine atStore 181 (.tmp 8) (.tmp 96) rfl ?_); refine wpList_store_newN rfl 181 _ _ rfl _ _ _ _ rfl _ rfl (by simp) [.slice Av lu capv, .int .i64 ur] rfl ic hci hcs rfl (by simp [Value.oneCell']) ?_)
      go_quiet (fail)
      go_wp2
      go_ret
      exact ⟨ret_bool HIF.out.symm, (by repeat' (first | exact Below.refl _ _ | refine below_drewN ?_ _ | refine Below.alloc ?_ (by first | exact Nat.le_refl _ | (simp; done) | (simp; omega)) _))⟩
  subst u8
  by_cases u9 : ku' = ka'
  rotate_left
  · have n1 : (ku' == ka') = false := by simp [u9]
    have n2 : ((ku' : Int) == (ka' : Int)) = false := by simp; omega
    have n3 : ((ku' : Int) != (ka' : Int)) = true := by simp; omega
    rw [n1, Bool.and_false] at HIF
    clear u2
    cases ac
    · cases cm
      · go_enter Tryz.func145, Tryz.ntmps145
        go_wp2_with ((with_reducible refine atStore 181 (.tmp 7) (.tmp 36) rfl ?_); refine wpList_store_new rfl 181 _ _ rfl _ _ _ rfl _ rfl (by simp) [.slice (some ⟨ba, oa, none⟩) 2 capd, .int .i64 r] rfl ic hci hcs rfl (by simp [Value.oneCell']) ?_)
        go_quiet (fail)
        go_wp2
        go_quiet (fail)
        go_wp2_with ((with_reducible refine atStore 181 (.tmp 8) (.tmp 96) rfl ?_); refine wpList_store_newN rfl 181 _ _ rfl _ _ _ _ rfl _ rfl (by simp) [.slice Av 0 capv, .int .i64 ur] rfl ic hci hcs rfl (by simp [Value.oneCell']) ?_)
        go_quiet (fail)
        go_wp2
        go_ret
        exact ⟨ret_bool HIF.out.symm, (by repeat' (first | exact Below.refl _ _ | refine below_drewN ?_ _ | refine Below.alloc ?_ (by first | exact Nat.le_refl _ | (simp; done) | (simp; omega)) _))⟩
      · go_enter Tryz.func145, Tryz.ntmps145
        go_wp2_with ((with_reducible refine atStore 181 (.tmp 7) (.tmp 36) rfl ?_); refine wpList_store_new rfl 181 _ _ rfl _ _ _ rfl _ rfl (by simp) [.slice (some ⟨ba, oa, none⟩) 2 capd, .int .i64 r] rfl ic hci hcs rfl (by simp [Value.oneCell']) ?_)
        go_quiet (fail)
        go_wp2
        go_quiet (fail)
        go_wp2_with ((with_reducible refine atStore 181 (.tmp 8) (.tmp 96) rfl ?_); refine wpList_store_newN rfl 181 _ _ rfl _ _ _ _ rfl _ rfl (by simp) [.slice Av 0 capv, .int .i64 ur] rfl ic hci hcs rfl (by simp [Value.oneCell']) ?_)
        go_quiet (fail)
        go_wp2
        go_ret
        exact ⟨ret_bool HIF.out.symm, (by repeat' (first | exact Below.refl _ _ | refine below_drewN ?_ _ | refine Below.alloc ?_ (by first | exact Nat.le_refl _ | (simp; done) | (simp; omega)) _))⟩
    · go_enter Tryz.func145, Tryz.ntmps145
      go_wp2_with ((with_reducible refine atStore 181 (.tmp 7) (.tmp 36) rfl ?_); refine wpList_store_new rfl 181 _ _ rfl _ _ _ rfl _ rfl (by simp) [.slice (some ⟨ba, oa, none⟩) 2 capd, .int .i64 r] rfl ic hci hcs rfl (by simp [Value.oneCell']) ?_)
      go_quiet (fail)
      go_wp2
      go_quiet (fail)
      go_wp2_with ((with_reducible refine atStore 181 (.tmp 8) (.tmp 96) rfl ?_); refine wpList_store_newN rfl 181 _ _ rfl _ _ _ _ rfl _ rfl (by simp) [.slice Av 0 capv, .int .i64 ur] rfl ic hci hcs rfl (by simp [Value.oneCell']) ?_)
      go_quiet (fail)
      go_wp2
      go_ret
      exact ⟨ret_bool HIF.out.symm, (by repeat' (first | exact Below.refl _ _ | refine below_drewN ?_ _ | refine Below.alloc ?_ (by first | exact Nat.le_refl _ | (simp; done) | (simp; omega)) _))⟩
  subst u9
  rw [beq_self_eq_true, beq_self_eq_true, Bool.and_true] at HIF
  clear u2
  cases ac
  · cases cm
    · go_enter Tryz.func145, Tryz.ntmps145
      go_wp2_with ((with_reducible refine atStore 181 (.tmp 7) (.tmp 36) rfl ?_); refine wpList_store_new rfl 181 _ _ rfl _ _ _ rfl _ rfl (by simp) [.slice (some ⟨ba, oa, none⟩) 2 capd, .int .i64 r] rfl ic hci hcs rfl (by simp [Value.oneCell']) ?_)
      go_quiet (fail)
      go_wp2
      go_quiet (fail)
      go_wp2_with ((with_reducible refine atStore 181 (.tmp 8) (.tmp 96) rfl ?_); refine wpList_store_newN rfl 181 _ _ rfl _ _ _ _ rfl _ rfl (by simp) [.slice Av 0 capv, .int .i64 ur] rfl ic hci hcs rfl (by simp [Value.oneCell']) ?_)
      go_quiet (fail)
      go_wp2
      go_ret
      exact ⟨ret_bool HIF.out.symm, (by repeat' (first | exact Below.refl _ _ | refine below_drewN ?_ _ | refine Below.alloc ?_ (by first | exact Nat.le_refl _ | (simp; done) | (simp; omega)) _))⟩
    · go_enter Tryz.func145, Tryz.ntmps145
      go_wp2_with ((with_reducible refine atStore 181 (.tmp 7) (.tmp 36) rfl ?_); refine wpList_store_new rfl 181 _ _ rfl _ _ _ rfl _ rfl (by simp) [.slice (some ⟨ba, oa, none⟩) 2 capd, .int .i64 r] rfl ic hci hcs rfl (by simp [Value.oneCell']) ?_)
      go_quiet (fail)
      go_wp2
      go_quiet (fail)
      go_wp2_with ((with_reducible refine atStore 181 (.tmp 8) (.tmp 96) rfl ?_); refine wpList_store_newN rfl 181 _ _ rfl _ _ _ _ rfl _ rfl (by simp) [.slice Av 0 capv, .int .i64 ur] rfl ic hci hcs rfl (by simp [Value.oneCell']) ?_)
      go_quiet (fail)
      go_wp2
      go_ret
      exact ⟨ret_bool HIF.out.symm, (by repeat' (first | exact Below.refl _ _ | refine below_drewN ?_ _ | refine Below.alloc ?_ (by first | exact Nat.le_refl _ | (simp; done) | (simp; omega)) _))⟩
  · go_enter Tryz.func145, Tryz.ntmps145
    go_wp2_with ((with_reducible refine atStore 181 (.tmp 7) (.tmp 36) rfl ?_); refine wpList_store_new rfl 181 _ _ rfl _ _ _ rfl _ rfl (by simp) [.slice (some ⟨ba, oa, none⟩) 2 capd, .int .i64 r] rfl ic hci hcs rfl (by simp [Value.oneCell']) ?_)
    go_quiet (fail)
    go_wp2
    go_quiet (fail)
    go_wp2_with ((with_reducible refine atStore 181 (.tmp 8) (.tmp 96) rfl ?_); refine wpList_store_newN rfl 181 _ _ rfl _ _ _ _ rfl _ rfl (by simp) [.slice Av 0 capv, .int .i64 ur] rfl ic hci hcs rfl (by simp [Value.oneCell']) ?_)
    go_quiet (fail)
    go_wp2
    go_ret
    exact ⟨ret_bool HIF.out.symm, (by repeat' (first | exact Below.refl _ _ | refine below_drewN ?_ _ | refine Below.alloc ?_ (by first | exact Nat.le_refl _ | (simp; done) | (simp; omega)) _))⟩
end Go.Proofs.YtpbikjkjfojjiaaGreat

namespace Go.Proofs.YtpbikjkjfojjiaaGreat
open Go.RowKit Go.Sort

def opNames (l : List Opr) : List ByteArray := l.map (·.name)
structure SgnOk (g : Sgn) : Prop where
  sorts : SortsOk g.sorts
  len : g.ops.length ≤ 14
  names : ∀ (i : Nat) (o : Opr), g.ops[i]? = some o → isName o.name = true ∧ hasStr (opNames (g.ops.take i)) o.name = false
  decls : ∀ o ∈ g.ops, DeclsOk g.sorts o
  axs : ∀ o ∈ g.ops, AxOk g o
open Classical in
noncomputable def isSgn (g : Sgn) : Bool := decide (SgnOk g)
theorem isSgn_true {g : Sgn} (h : SgnOk g) : isSgn g = true := by simp [isSgn, h]
theorem isSgn_false {g : Sgn} (h : ¬ SgnOk g) : isSgn g = false := by simp [isSgn, h]
theorem isSgn_iff {g : Sgn} : isSgn g = true ↔ SgnOk g := by simp [isSgn]
def sgnC (f : FuncId) : Prop := ∀ (g : Sgn) (S : Nat → Prop) (us : List Value) (w : World), okSgn g → RepVals w S (encSgn g) us →
  Calls Tryz.prog f #[.agg us.toArray] w fun e w' => e = .returned (.bool (isSgn g)) ∧ Below w.heap.size w w'
theorem info_Op' : (Tryz.prog.info? 153).map (fun i => (i.zero, i.size, i.bytes)) = some (some (.agg #[.string ⟨#[]⟩, .slice none 0 0, .bool false, .bool false, .int .i64 0]), 5, 56) := by kernel_rfl
theorem opNames_snoc {l : List Opr} {k : Nat} {o : Opr} (h : l[k]? = some o) : opNames (l.take (k + 1)) = opNames (l.take k) ++ [o.name] := by
  rw [take_snoc h]; simp [opNames]
theorem Rep.opAt {w : World} {S : Nat → Prop} {l : List Opr} {A : Option Addr} {m cap k : Nat} {o : Opr} (hl : ∀ x ∈ l, okOpr x) (h : Rep w S (.sl (l.map encOpr)) (.slice A m cap)) (ho : l[k]? = some o) :
    ∃ b off vd, A = some ⟨b, off, none⟩ ∧ b < w.heap.size ∧ w.cell? ⟨b, off + k * 5, none⟩ = some (.string o.name) ∧ w.cell? ⟨b, off + k * 5 + 1, none⟩ = some vd ∧ w.cell? ⟨b, off + k * 5 + 2, none⟩ = some (.bool o.assoc) ∧ w.cell? ⟨b, off + k * 5 + 3, none⟩ = some (.bool o.comm) ∧ w.cell? ⟨b, off + k * 5 + 4, none⟩ = some (.int .i64 o.unit) ∧ Rep w S (.sl (o.decls.map encDcl)) vd := by
  obtain ⟨b, off, rfl, _, hb, hr⟩ := Rep.at okOprR hl h ho
  simp only [encOpr, RepRow, and_true, fieldsOf, List.length_cons, List.length_nil, Nat.reduceAdd, Nat.add_assoc, Rep.lit_iff] at hr
  obtain ⟨⟨_, c0, rfl⟩, ⟨vd, c1, r1⟩, ⟨_, c2, rfl⟩, ⟨_, c3, rfl⟩, ⟨_, c4, rfl⟩⟩ := hr
  exact ⟨b, off, vd, rfl, hb, c0, by rw [Nat.add_assoc]; exact c1, by rw [Nat.add_assoc]; exact c2, by rw [Nat.add_assoc]; exact c3, by rw [Nat.add_assoc]; exact c4, r1⟩

set_option maxHeartbeats 20000000 in
set_option maxRecDepth 100000 in
theorem implIsSignature : sgnC 105 := by
  intro g S us w hok hv
  replace hv := hv.mono (S' := fun _ => True) (fun _ _ => trivial)
  obtain ⟨s, ops⟩ := g
  have hv0 := hv
  obtain ⟨g0, g1, g2, rfl, f0, f1, f2⟩ := repVals_Signature hv
  obtain ⟨Ag0, cg0, rfl, _, _⟩ := f0.shape
  obtain ⟨Ag1, cg1, rfl, _, _⟩ := f1.shape
  obtain ⟨Ag2, cg2, rfl, hcg2, hmg2⟩ := f2.shape
  have HSR : Hid (RepVals w (fun _ => True) (encSrt s) [.slice Ag0 s.names.length cg0, .slice Ag1 s.subs.length cg1]) := by show RepVals _ _ _ _; simp only [encSrt, RepVals, and_true]; exact ⟨f0, f1⟩
  obtain ⟨io, hoi, _, hos, _⟩ := info_parts info_order
  obtain ⟨ip, hpi, _, hps, _⟩ := info_parts info_Op'
  have HOK := Lib.hid hok
  have HV := Lib.hid hv0
  have F2 := Lib.hid f2
  clear hv hv0 f0 f1 f2 hok
  simp only at HSR HV F2 hcg2 hmg2
  simp only
  generalize hln : s.names.length = n at *
  generalize s.subs.length = ls at *
  have HLN := Lib.hid hln
  clear hln
  generalize hM : ops.length = m at *
  have HM := Lib.hid hM
  clear hM
  unfold maxLen at hmg2
  by_cases hs : SortsOk s
  rotate_left
  · have HF : Hid (isSgn ⟨s, ops⟩ = false) := isSgn_false fun h => hs h.sorts
    have HNO := Lib.hid (fun W h => implNewOrder_not s (fun _ => True) [.slice Ag0 n cg0, .slice Ag1 ls cg1] W HOK.out.1 h hs)
    clear hs
    go_enter Tryz.func105, Tryz.ntmps105
    go_wp2_with fail
    refine (HNO.out _ (HSR.out.below (belowA _ _))).mono ?_
    rintro e w2 ⟨rfl, hb2⟩
    go_wp2_with ((with_reducible refine atStore 164 (.tmp 3) (.tmp 14) rfl ?_); refine wpList_store_new rfl 164 _ _ rfl _ _ _ rfl _ rfl (by simp) [.slice none 0 0, .slice none 0 0, .slice none 0 0] rfl io hoi hos rfl (by simp [Value.oneCell']) ?_)
    go_ret
    exact ⟨ret_bool HF.out.symm, ((belowA _ _).trans (hb2.mono (belowA _ _).size)).trans ((belowA _ _).mono ((belowA _ _).trans (hb2.mono (belowA _ _).size)).size)⟩
  have HNO := Lib.hid (fun W h => implNewOrder_ok s (fun _ => True) [.slice Ag0 n cg0, .slice Ag1 ls cg1] W HOK.out.1 h hs)
  have HSO := Lib.hid hs
  have h8 : n ≤ 8 := by have := hs.n8; rw [HLN.out] at this; exact this
  have HK : Hid (KOk n (kinds s)) := by have := kinds_ok (SortsOk.subsIn hs.subs); rw [HLN.out] at this; exact this
  have HU : Hid (UpOk n (up s)) := by have := up_ok (SortsOk.subsIn hs.subs); rw [HLN.out] at this; exact this
  have HDN : Hid (UpOk n (down s)) := by have := down_ok (SortsOk.subsIn hs.subs); rw [HLN.out] at this; exact this
  clear hs
  go_enter Tryz.func105, Tryz.ntmps105
  go_wp2_with fail
  generalize hW : w.alloc _ = W0
  have hb0 : Below w.heap.size w W0 := by rw [← hW]; exact belowA _ _
  have p0 : W0.cell? ⟨w.heap.size, 0, none⟩ = some (.slice Ag0 n cg0) := (by rw [← hW]; repeat' (first | (simp; done) | exact keepNew (by simp) rfl | refine keepA _ ?_))
  have p1 : W0.cell? ⟨w.heap.size, 1, none⟩ = some (.slice Ag1 ls cg1) := (by rw [← hW]; repeat' (first | (simp; done) | exact keepNew (by simp) rfl | refine keepA _ ?_))
  have p2 : W0.cell? ⟨w.heap.size, 2, none⟩ = some (.slice Ag2 m cg2) := (by rw [← hW]; repeat' (first | (simp; done) | exact keepNew (by simp) rfl | refine keepA _ ?_))
  clear hW
  refine (HNO.out _ (HSR.out.below hb0)).mono ?_
  rintro e w2 ⟨va, vb, vk, rfl, hIa, hIb, hIk, hb2⟩
  obtain ⟨Aa, ca, rfl, hca, hma, _⟩ := hIa.form
  obtain ⟨Ab, cb, rfl, hcb, hmb, _⟩ := hIb.form
  obtain ⟨Ak, ck, rfl, hck, hmk, _⟩ := hIk.form
  have hla : (casts (up s)).length = n := by rw [casts_len]; exact HU.out.1
  have hlb : (casts (down s)).length = n := by rw [casts_len]; exact HDN.out.1
  have hlk : (casts (kinds s)).length = n := by rw [casts_len]; exact HK.out.1
  have RK := Lib.hid (hIk.rep.mono (S' := fun _ => True) (fun _ _ => trivial))
  rw [hlk] at RK hck
  rw [hla] at hca
  rw [hla, hlb, hlk]
  clear hla hlb hlk hIa hIb hIk
  have q2 := keepB hb2 p2
  have z2 : w.heap.size < w2.heap.size := World.block_lt_of_cell? _ _ q2
  by_cases h14 : 14 < m
  · have HF : Hid (isSgn ⟨s, ops⟩ = false) := isSgn_false fun h => by have := h.len; have := HM.out; simp only at *; omega
    go_wp2_with ((with_reducible refine atStore 164 (.tmp 3) (.tmp 14) rfl ?_); refine wpList_store_new rfl 164 _ _ rfl _ _ _ rfl _ rfl (by simp) [.slice Aa n ca, .slice Ab n cb, .slice Ak n ck] rfl io hoi hos rfl (by simp [Value.oneCell']) ?_)
    go_ret
    exact ⟨ret_bool HF.out.symm, (hb0.trans (hb2.mono hb0.size)).trans ((belowA _ _).mono (hb0.trans (hb2.mono hb0.size)).size)⟩
  have hmm := @run_makeMap Tryz.prog
  go_wp2_with ((with_reducible refine atStore 164 (.tmp 3) (.tmp 14) rfl ?_); refine wpList_store_new rfl 164 _ _ rfl _ _ _ rfl _ rfl (by simp) [.slice Aa n ca, .slice Ab n cb, .slice Ak n ck] rfl io hoi hos rfl (by simp [Value.oneCell']) ?_)
  clear hmm
  generalize hW : w2.alloc (.cells #[.slice Aa n ca, .slice Ab n cb, .slice Ak n ck] _) = W
  have hbW2 : Below w2.heap.size w2 W := by rw [← hW]; exact belowA _ _
  have p3 : W.cell? ⟨w2.heap.size, 0, none⟩ = some (.slice Aa n ca) := (by rw [← hW]; repeat' (first | (simp; done) | exact keepNew (by simp) rfl | refine keepA _ ?_))
  have p4 : W.cell? ⟨w2.heap.size, 1, none⟩ = some (.slice Ab n cb) := (by rw [← hW]; repeat' (first | (simp; done) | exact keepNew (by simp) rfl | refine keepA _ ?_))
  have p5 : W.cell? ⟨w2.heap.size, 2, none⟩ = some (.slice Ak n ck) := (by rw [← hW]; repeat' (first | (simp; done) | exact keepNew (by simp) rfl | refine keepA _ ?_))
  have zW : w2.heap.size + 1 = W.heap.size := by rw [← hW]; simp
  clear hW
  rw [zW]
  have hb02 := hb0.trans (hb2.mono hb0.size)
  have hbW : Below w.heap.size w W := hb02.trans (hbW2.mono hb02.size)
  have r0 := keepB hbW2 (keepB hb2 p0)
  have r1 := keepB hbW2 (keepB hb2 p1)
  have r2 := keepB hbW2 q2
  have F2W := Lib.hid (F2.out.below hbW)
  have RKW := Lib.hid (RK.out.below hbW2)
  have HVW := Lib.hid (HV.out.below hbW)
  clear p0 p1 p2 q2 F2 RK HV HNO HSR zW hb0 hb2 hbW2 hb02 z2
  generalize w2.heap.size = g3 at *
  go_loopw [28] (fun i wr => ∃ k : Nat, k ≤ m ∧ i = .int .i64 k ∧ (∀ (j : Nat) (o : Opr), j < k → ops[j]? = some o → (isName o.name = true ∧ hasStr (opNames (ops.take j)) o.name = false) ∧ DeclsOk s o) ∧ Seen wr W.heap.size (opNames (ops.take k)) ∧ Below W.heap.size W wr) (fun i _ => m - (intOf i).toNat)
  case atStart => exact ⟨0, Nat.zero_le _, rfl, fun j o h => by omega, Seen.made W, (Below.refl _ _).alloc (Nat.le_refl _) _⟩
  case round =>
    obtain ⟨k, hk, rfl, hall, hseen, hb⟩ := hrel
    have HALL := Lib.hid hall
    have HSN := Lib.hid hseen
    clear hall hseen
    by_cases hkn : k < m
    · obtain ⟨o, ho⟩ : ∃ o, ops[k]? = some o := ⟨_, List.getElem?_eq_getElem (by have := HM.out; omega)⟩
      have HOO := Lib.hid (HOK.out.2 o (List.mem_of_getElem? ho))
      obtain ⟨b, off, vd, rfl, hbz, c0, c1, c2, c3, c4, rd⟩ := Rep.opAt HOK.out.2 (F2W.out.below hb) ho
      have HO := Lib.hid ho
      obtain ⟨name, decls, ac, cm, un⟩ := o
      simp only at c0 c2 c3 c4 rd
      have hrv : RepVals wr (fun _ => True) (encOpr ⟨name, decls, ac, cm, un⟩) [.string name, vd, .bool ac, .bool cm, .int .i64 un] := by simp only [encOpr, RepVals, Rep.lit_iff, and_true, true_and]; exact rd
      obtain ⟨Ad, capd, rfl, _, _⟩ := rd.shape
      have HRV := Lib.hid hrv
      clear ho rd hrv
      generalize decls.length = ld at *
      go_upto_region 8 with ((with_reducible refine atStore 153 (.tmp 7) (.tmp 31) rfl ?_); refine wpList_store_new rfl 153 _ _ rfl _ _ _ rfl _ rfl (by simp) [.string name, .slice Ad ld capd, .bool ac, .bool cm, .int .i64 un] rfl ip hpi hps rfl (by simp [Value.oneCell']) ?_)
      simp only [Act.put]
      generalize hW7 : wr.alloc _ = W7
      have hb7 : Below wr.heap.size wr W7 := by rw [← hW7]; exact belowA _ _
      have y0 : W7.cell? ⟨wr.heap.size, 0, none⟩ = some (.string name) := (by rw [← hW7]; repeat' (first | (simp; done) | exact keepNew (by simp) rfl | refine keepA _ ?_))
      have y1 : W7.cell? ⟨wr.heap.size, 1, none⟩ = some (.slice Ad ld capd) := (by rw [← hW7]; repeat' (first | (simp; done) | exact keepNew (by simp) rfl | refine keepA _ ?_))
      have y2 : W7.cell? ⟨wr.heap.size, 2, none⟩ = some (.bool ac) := (by rw [← hW7]; repeat' (first | (simp; done) | exact keepNew (by simp) rfl | refine keepA _ ?_))
      have y3 : W7.cell? ⟨wr.heap.size, 3, none⟩ = some (.bool cm) := (by rw [← hW7]; repeat' (first | (simp; done) | exact keepNew (by simp) rfl | refine keepA _ ?_))
      have y4 : W7.cell? ⟨wr.heap.size, 4, none⟩ = some (.int .i64 un) := (by rw [← hW7]; repeat' (first | (simp; done) | exact keepNew (by simp) rfl | refine keepA _ ?_))
      have hbW7 : Below W.heap.size W W7 := hb.trans (hb7.mono hb.size)
      have q3 := keepB hbW7 p3
      have q4 := keepB hbW7 p4
      have q5 := keepB hbW7 p5
      have HRV7 := Lib.hid (HRV.out.below hb7)
      have HSN7 := Lib.hid (HSN.out.below hb7)
      clear hW7 c0 c1 c2 c3 c4 HRV HSN hb7 hb hbz
      generalize wr.heap.size = g7 at *
      have hlk := run_seen HSN7.out Tryz.underlying200 Tryz.underlying9 (zero_bool W7) name
      have HNM := Lib.hid (fun w => implIsName name HOO.out.1 w)
      cases hh : hasStr (opNames (ops.take k)) name
      rotate_left
      · have HF : Hid (isSgn ⟨s, ops⟩ = false) := isSgn_false fun h => by have := (h.names k _ HO.out).2; simp only at this; rw [hh] at this; cases this
        rw [hh] at hlk
        clear hh
        go_wp2
        go_ret
        exact ⟨ret_bool HF.out.symm, hbW.trans (hbW7.mono hbW.size)⟩
      rw [hh] at hlk
      have HH := Lib.hid hh
      clear hh
      cases hin : isName name
      · have HF : Hid (isSgn ⟨s, ops⟩ = false) := isSgn_false fun h => by have := (h.names k _ HO.out).1; simp only at this; rw [hin] at this; cases this
        rw [hin] at HNM
        clear hin
        go_wp2_with (go_at_call 143; refine (HNM.out _).mono ?_; rintro e w3 ⟨rfl, rfl⟩)
        go_ret
        exact ⟨ret_bool HF.out.symm, hbW.trans (hbW7.mono hbW.size)⟩
      rw [hin] at HNM
      have HIN := Lib.hid hin
      clear hin
      have HDC := Lib.hid (implDeclsOK s ⟨name, decls, ac, cm, un⟩ (fun _ => True) Aa Ak n ca ck (.slice Ab n cb) [.string name, .slice Ad ld capd, .bool ac, .bool cm, .int .i64 un] W7 HLN.out h8 HK.out HOO.out HRV7.out rfl hma hca (RKW.out.below hbW7))
      cases hde : declsOk s ⟨name, decls, ac, cm, un⟩
      · have HF : Hid (isSgn ⟨s, ops⟩ = false) := isSgn_false fun h => by have := declsOk_true (h.decls _ (List.mem_of_getElem? HO.out)); simp only at this; rw [hde] at this; cases this
        rw [hde] at HDC
        clear hde
        go_wp2_with (first | (go_at_call 143; refine (HNM.out _).mono ?_; rintro e w3 ⟨rfl, rfl⟩) | (go_at_call 144; refine HDC.out.mono ?_; rintro e w3 ⟨rfl, hb3⟩))
        go_ret
        exact ⟨ret_bool HF.out.symm, hbW.trans ((hbW7.trans (hb3.mono hbW7.size)).mono hbW.size)⟩
      rw [hde] at HDC
      have HDE := Lib.hid (declsOk_iff.1 hde)
      clear hde
      go_wp2_with (go_at_call 143; refine (HNM.out _).mono ?_; rintro e w3 ⟨rfl, rfl⟩)
      refine HDC.out.mono ?_
      rintro e W8 ⟨rfl, hb8⟩
      have hbW8 : Below W.heap.size W W8 := hbW7.trans (hb8.mono hbW7.size)
      obtain ⟨w', hup, hseen', hbel, hsz, hoth⟩ := run_see (HSN7.out.below hb8) Tryz.underlying200 Tryz.underlying9 HH.out
      have HS' := Lib.hid hseen'
      have x0 := keepB hb8 y0
      clear hseen' hoth hlk y0 y1 y2 y3 y4 q3 q4 q5
      go_wp2
      go_roundw
      case rel =>
        refine ⟨k + 1, by omega, by go_num, fun j p hj hp => ?_, by rw [opNames_snoc HO.out]; exact HS'.out, hbW8.trans hbel⟩
        by_cases hjk : j = k
        · subst hjk
          rw [HO.out] at hp
          injection hp with hp
          rw [← hp]
          exact ⟨⟨HIN.out, HH.out⟩, HDE.out⟩
        · exact HALL.out j p (by omega) hp
      case measure => simp [intOf]; omega
    · obtain rfl : m = k := by omega
      have HDA : Hid (∀ o ∈ ops, DeclsOk s o) := fun o ho => by
        obtain ⟨i, hi⟩ := List.mem_iff_getElem?.1 ho
        exact (HALL.out i o (by have hil : i < ops.length := (List.getElem?_eq_some_iff.1 hi).1; have := HM.out; omega) hi).2
      have q2 := keepB hb r2
      go_wp2
      clear q2 HSN
      have hb4 := hb
      clear hb
      obtain ⟨wo, rfl⟩ : ∃ x : World, x = wr := ⟨_, rfl⟩
      go_loopw [55] (fun i wr => ∃ k : Nat, k ≤ m ∧ i = .int .i64 k ∧ (∀ (j : Nat) (o : Opr), j < k → ops[j]? = some o → AxOk ⟨s, ops⟩ o) ∧ Below W.heap.size W wr) (fun i _ => m - (intOf i).toNat)
      case atStart => exact ⟨0, Nat.zero_le _, rfl, fun j o h => by omega, hb4⟩
      case round =>
        obtain ⟨k, hk, rfl, hall, hb⟩ := hrel
        have HAX := Lib.hid hall
        clear hall
        by_cases hkn' : k < m
        · obtain ⟨o, ho⟩ : ∃ o, ops[k]? = some o := ⟨_, List.getElem?_eq_getElem (by have := HM.out; omega)⟩
          have HOO := Lib.hid (HOK.out.2 o (List.mem_of_getElem? ho))
          obtain ⟨b, off, vd, rfl, hbz, c0, c1, c2, c3, c4, rd⟩ := Rep.opAt HOK.out.2 (F2W.out.below hb) ho
          have HO := Lib.hid ho
          obtain ⟨name, decls, ac, cm, un⟩ := o
          simp only at c0 c2 c3 c4 rd
          have hrv : RepVals wr (fun _ => True) (encOpr ⟨name, decls, ac, cm, un⟩) [.string name, vd, .bool ac, .bool cm, .int .i64 un] := by simp only [encOpr, RepVals, Rep.lit_iff, and_true, true_and]; exact rd
          obtain ⟨Ad, capd, rfl, _, _⟩ := rd.shape
          have HRV := Lib.hid hrv
          clear ho rd hrv
          generalize decls.length = ld at *
          go_upto_region 15 with ((with_reducible refine atStore 153 (.tmp 9) (.tmp 58) rfl ?_); refine wpList_store_new rfl 153 _ _ rfl _ _ _ rfl _ rfl (by simp) [.string name, .slice Ad ld capd, .bool ac, .bool cm, .int .i64 un] rfl ip hpi hps rfl (by simp [Value.oneCell']) ?_)
          simp only [Act.put]
          generalize hW7 : wr.alloc _ = W7
          have hb7 : Below wr.heap.size wr W7 := by rw [← hW7]; exact belowA _ _
          have y0 : W7.cell? ⟨wr.heap.size, 0, none⟩ = some (.string name) := (by rw [← hW7]; repeat' (first | (simp; done) | exact keepNew (by simp) rfl | refine keepA _ ?_))
          have y1 : W7.cell? ⟨wr.heap.size, 1, none⟩ = some (.slice Ad ld capd) := (by rw [← hW7]; repeat' (first | (simp; done) | exact keepNew (by simp) rfl | refine keepA _ ?_))
          have y2 : W7.cell? ⟨wr.heap.size, 2, none⟩ = some (.bool ac) := (by rw [← hW7]; repeat' (first | (simp; done) | exact keepNew (by simp) rfl | refine keepA _ ?_))
          have y3 : W7.cell? ⟨wr.heap.size, 3, none⟩ = some (.bool cm) := (by rw [← hW7]; repeat' (first | (simp; done) | exact keepNew (by simp) rfl | refine keepA _ ?_))
          have y4 : W7.cell? ⟨wr.heap.size, 4, none⟩ = some (.int .i64 un) := (by rw [← hW7]; repeat' (first | (simp; done) | exact keepNew (by simp) rfl | refine keepA _ ?_))
          have hbW7 : Below W.heap.size W W7 := hb.trans (hb7.mono hb.size)
          have q0 := keepB hbW7 r0
          have q1 := keepB hbW7 r1
          have q2 := keepB hbW7 r2
          have q3 := keepB hbW7 p3
          have q4 := keepB hbW7 p4
          have q5 := keepB hbW7 p5
          have HCA := Lib.hid (implAxiomsOK ⟨s, ops⟩ ⟨name, decls, ac, cm, un⟩ (fun _ => True) Aa Ak n ca ck (.slice Ab n cb) [.slice Ag0 n cg0, .slice Ag1 ls cg1, .slice (some ⟨b, off, none⟩) m cg2] [.string name, .slice Ad ld capd, .bool ac, .bool cm, .int .i64 un] W7 HLN.out h8 HK.out HOK.out HOO.out (HVW.out.below hbW7) (HRV.out.below hb7) (HDA.out _ (List.mem_of_getElem? HO.out)) HDA.out rfl (RKW.out.below hbW7))
          clear hW7 c0 c1 c2 c3 c4 HRV hb7 hb hbz
          generalize wr.heap.size = g7 at *
          cases hax : axOk ⟨s, ops⟩ ⟨name, decls, ac, cm, un⟩
          · have HF : Hid (isSgn ⟨s, ops⟩ = false) := isSgn_false fun h => by have := axOk_true (h.axs _ (List.mem_of_getElem? HO.out)); rw [hax] at this; cases this
            rw [hax] at HCA
            clear hax
            go_wp2_with (go_at_call 145; refine HCA.out.mono ?_; rintro e w3 ⟨rfl, hb3⟩)
            go_ret
            exact ⟨ret_bool HF.out.symm, hbW.trans ((hbW7.trans (hb3.mono hbW7.size)).mono hbW.size)⟩
          · have HAO := Lib.hid (axOk_iff.1 hax)
            rw [hax] at HCA
            clear hax
            go_wp2_with (go_at_call 145; refine HCA.out.mono ?_; rintro e w3 ⟨rfl, hb3⟩)
            go_roundw
            case rel =>
              refine ⟨k + 1, by omega, by go_num, fun j p hj hp => ?_, hbW7.trans (hb3.mono hbW7.size)⟩
              by_cases hjk : j = k
              · subst hjk
                rw [HO.out] at hp
                injection hp with hp
                rw [← hp]
                exact HAO.out
              · exact HAX.out j p (by omega) hp
            case measure => simp [intOf]; omega
        · obtain rfl : m = k := by omega
          have HF : Hid (isSgn ⟨s, ops⟩ = true) := isSgn_true ⟨HSO.out, by have := HM.out; simp only; omega, fun i o hi => (HALL.out i o (by have hil : i < ops.length := (List.getElem?_eq_some_iff.1 hi).1; have := HM.out; omega) hi).1, HDA.out, fun o ho => by
            obtain ⟨i, hi⟩ := List.mem_iff_getElem?.1 ho
            exact HAX.out i o (by have hil : i < ops.length := (List.getElem?_eq_some_iff.1 hi).1; have := HM.out; omega) hi⟩
          go_wp2
          go_ret
          exact ⟨ret_bool HF.out.symm, hbW.trans (hb.mono hbW.size)⟩
end Go.Proofs.YtpbikjkjfojjiaaGreat

namespace Go.Proofs.YtpbikjkjfojjiaaGreat
open Go.RowKit

theorem str_emp (s : ByteArray) : (s.toList == ByteArray.toList { data := #[] }) = decide (s = ByteArray.empty) := by
  rw [Bool.eq_iff_iff, beq_iff_eq, decide_eq_true_iff, ByteArray.toList_eq, ByteArray.toList_eq]
  constructor
  · intro h
    cases s with
    | mk d =>
      have : d = #[] := by apply Array.toList_inj.1; exact h
      rw [this]; rfl
  · rintro rfl; rfl
/-- The cells of an algebra. -/
def encX (g : Sgn) (mc : C) : List C := [.sl ((casts (up g.sorts)).map encInt), .sl ((casts (down g.sorts)).map encInt), .sl ((casts (kinds g.sorts)).map encInt), .sl (g.sorts.names.map encStr), .sl (g.sorts.subs.map encSub), .sl (g.ops.map encOpr), mc]
theorem encX_u : ∀ (g : Sgn) (mc : C), encX g mc = [.sl ((casts (up g.sorts)).map encInt), .sl ((casts (down g.sorts)).map encInt), .sl ((casts (kinds g.sorts)).map encInt), .sl (g.sorts.names.map encStr), .sl (g.sorts.subs.map encSub), .sl (g.ops.map encOpr), mc] := fun _ _ => rfl
theorem up_len {s : Srt} (h : SortsOk s) : (up s).length = s.names.length := (up_ok (SortsOk.subsIn h.subs)).1
theorem kd_get {s : Srt} (h : SortsOk s) {k : Int} (h0 : 0 ≤ k) (h1 : k < s.names.length) : (casts (kinds s))[k.toNat]? = some ((kd s k : Nat) : Int) := by
  have hk := kinds_ok (SortsOk.subsIn h.subs)
  have hl : k.toNat < (kinds s).length := by rw [hk.1]; omega
  unfold casts kd
  rw [List.getElem?_map, List.getElem?_eq_getElem hl]
  simp [List.getD, List.getElem?_eq_getElem hl]

def VarOk (g : Sgn) (t : Tm) : Prop := t.op = -1 ∧ isName t.name = true ∧ 0 ≤ t.sort ∧ t.sort < g.sorts.names.length ∧ t.args = []
open Classical in
noncomputable def isVar (g : Sgn) (t : Tm) : Bool := decide (VarOk g t)
structure AppOk (g : Sgn) (t : Tm) (o : Opr) (d : Dcl) : Prop where
  lo : 0 ≤ t.op
  at' : g.ops[t.op.toNat]? = some o
  fst : o.decls[0]? = some d
  nm : t.name = ByteArray.empty
  so : t.sort = 0
  asc : o.assoc = true → 2 ≤ t.args.length ∧ t.args.length ≤ 7
  nas : o.assoc = false → t.args.length = d.args.length
def NodeOk (g : Sgn) (t : Tm) : Prop := VarOk g t ∨ ∃ o d, AppOk g t o d
def resOf (g : Sgn) (op : Int) : Int := ((g.ops[op.toNat]?.bind (·.decls[0]?)).map (·.res)).getD 0
def kindTm (g : Sgn) (t : Tm) : Int := if t.op = -1 then kd g.sorts t.sort else kd g.sorts (resOf g t.op)
def argAt (o : Opr) (i : Nat) : Nat := if o.assoc = true then 0 else i
theorem argAt_u : ∀ (o : Opr) (i : Nat), argAt o i = if o.assoc = true then 0 else i := fun _ _ => rfl
structure ArgOk (g : Sgn) (op : Int) (o : Opr) (d : Dcl) (args : List Tm) (i : Nat) (a : Tm) : Prop where
  kind : ∀ k, d.args[argAt o i]? = some k → kindTm g a = kd g.sorts k
  nest : o.assoc = true → a.op ≠ op
  unit : o.unit ≠ 0 → a.op ≠ o.unit - 1
  ord : o.comm = true → ∀ (j : Nat) p, i = j + 1 → args[j]? = some p → cmpTm p a ≤ 0
def RightOk (g : Sgn) (op : Int) (args : List Tm) : Prop := ∀ o d, g.ops[op.toNat]? = some o → o.decls[0]? = some d → ∀ (i : Nat) a, args[i]? = some a → ArgOk g op o d args i a
mutual
def FormOk (g : Sgn) : Tm → Prop
  | .mk op nm so args => NodeOk g (.mk op nm so args) ∧ FormOks g args ∧ (op = -1 ∨ RightOk g op args)
def FormOks (g : Sgn) : List Tm → Prop
  | [] => True
  | t :: ts => FormOk g t ∧ FormOks g ts
end
theorem FormOks_iff {g : Sgn} {ts : List Tm} : FormOks g ts ↔ ∀ a ∈ ts, FormOk g a := by
  induction ts with
  | nil => simp [FormOks]
  | cons t ts ih => simp [FormOks, ih]
theorem FormOk_iff {g : Sgn} {t : Tm} : FormOk g t ↔ NodeOk g t ∧ (∀ a ∈ t.args, FormOk g a) ∧ (t.op = -1 ∨ RightOk g t.op t.args) := by
  cases t
  simp only [FormOk, FormOks_iff, Tm.args, Tm.op]
theorem FormOk.node {g : Sgn} {t : Tm} (h : FormOk g t) : NodeOk g t := (FormOk_iff.1 h).1
open Classical in
noncomputable def isForm (g : Sgn) (t : Tm) : Bool := decide (FormOk g t)
theorem isForm_true {g : Sgn} {t : Tm} (h : FormOk g t) : isForm g t = true := by simp [isForm, h]
theorem isForm_false {g : Sgn} {t : Tm} (h : ¬ FormOk g t) : isForm g t = false := by simp [isForm, h]
theorem isForm_iff {g : Sgn} {t : Tm} : isForm g t = true ↔ FormOk g t := by simp [isForm]
/-- What a valid signature has for an operator. -/
theorem SgnOk.first {g : Sgn} (h : SgnOk g) {i : Nat} {o : Opr} (ho : g.ops[i]? = some o) : ∃ d, o.decls[0]? = some d ∧ (0 : Int) ≤ d.res ∧ d.res < (g.sorts.names.length : Int) ∧ ∀ k : Int, k ∈ d.args → 0 ≤ k ∧ k < (g.sorts.names.length : Int) := by
  have hm := List.mem_of_getElem? ho
  obtain ⟨d, hd, hD⟩ := (h.decls o hm).first
  exact ⟨d, hd, hD.res.1, hD.res.2, hD.args⟩
theorem resOf_eq {g : Sgn} {op : Int} {o : Opr} {d : Dcl} (ho : g.ops[op.toNat]? = some o) (hd : o.decls[0]? = some d) : resOf g op = d.res := by simp [resOf, ho, hd]
theorem AppOk.op {g : Sgn} {t : Tm} {o : Opr} {d : Dcl} (h : AppOk g t o d) : t.op ≠ -1 := by have := h.lo; omega
theorem inSl {n : Nat} {k : Int} (h0 : 0 ≤ k) (h1 : k < n) : k.toNat < n := by omega

section
variable {g : Sgn} {mc : C}
set_option maxHeartbeats 4000000 in
set_option maxRecDepth 100000 in
theorem con_has (hg : SgnOk g) (k : Int) : Con e0 168 [.agg [.sl ((casts (up g.sorts)).map encInt), .sl ((casts (down g.sorts)).map encInt), .sl ((casts (kinds g.sorts)).map encInt)], .one (.lit (.int .i64 k))] [.one (.lit (.bool (decide (0 ≤ k ∧ k < g.sorts.names.length))))] := by
  have hl := up_len hg.sorts
  refine gI 23 Tryz.func168 ?_
  by_cases h0 : 0 ≤ k
  · have e : decide (0 ≤ k ∧ k < (g.sorts.names.length : Int)) = decide (k < (g.sorts.names.length : Int)) := by simp [h0]
    rw [e]
    (have F := And.intro @h0 (And.intro @casts_len @hl); refine gG ?_; exact gT)
  · have e : decide (0 ≤ k ∧ k < (g.sorts.names.length : Int)) = false := by simp [h0]
    rw [e]
    (have F := @h0; refine gG ?_; exact gT)
set_option maxHeartbeats 4000000 in
set_option maxRecDepth 100000 in
theorem con_kindOf (hg : SgnOk g) {t : Tm} (ht : NodeOk g t) : Con e0 108 [.one (.ptr (encX g mc)), .agg (encTm t)] [.one (.lit (.int .i64 (kindTm g t)))] := by
  refine gI 155 Tryz.func108 ?_
  rcases ht with ⟨h1, h2, h3, h4, h5⟩ | ⟨o, d, h⟩
  · have hn : (-1 : Int) < 0 := by omega
    have hk := kd_get hg.sorts h3 h4
    have e : kindTm g t = kd g.sorts t.sort := by simp [kindTm, h1]
    (have F := And.intro @tmz (And.intro @h1 (And.intro @hn (And.intro @encX_u (And.intro @h3 (And.intro @hk (And.intro @encInt_u @e)))))); refine gG ?_; exact gT)
  · have hn : ¬ (t.op < 0) := by have := h.lo; omega
    obtain ⟨d', hd', hr0, hr1, _⟩ := hg.first h.at'
    rw [h.fst] at hd'
    injection hd' with hd'
    subst hd'
    have hk := kd_get hg.sorts hr0 hr1
    have e : kindTm g t = kd g.sorts d.res := by simp [kindTm, h.op, resOf_eq h.at' h.fst]
    have hlo := h.lo
    have hat := h.at'
    have hfst := h.fst
    (have F := And.intro @tmz (And.intro @hn (And.intro @encX_u (And.intro @hlo (And.intro @hat (And.intro @encOpr_u (And.intro @hfst (And.intro @encDcl_u (And.intro @hr0 (And.intro @hk (And.intro @encInt_u @e)))))))))); refine gG ?_; exact gT)
set_option maxHeartbeats 4000000 in
set_option maxRecDepth 100000 in
theorem con_argKind (hg : SgnOk g) {op : Int} {i : Nat} {o : Opr} {d : Dcl} {k : Int} (h0 : 0 ≤ op) (ho : g.ops[op.toNat]? = some o) (hd : o.decls[0]? = some d) (hk : d.args[argAt o i]? = some k) : Con e0 171 [.one (.ptr (encX g mc)), .one (.lit (.int .i64 op)), .one (.lit (.int .i64 i))] [.one (.lit (.int .i64 (kd g.sorts k)))] := by
  obtain ⟨d', hd', _, _, hk0⟩ := hg.first ho
  rw [hd] at hd'
  injection hd' with hd'
  subst hd'
  obtain ⟨k0, k1⟩ := hk0 k (List.mem_of_getElem? hk)
  have hkd := kd_get hg.sorts k0 k1
  refine gI 131271 Tryz.func171 ?_
  unfold argAt at hk
  cases ha : o.assoc with
  | true =>
    rw [ha] at hk
    simp only [↓reduceIte] at hk
    (have F := And.intro @encX_u (And.intro @h0 (And.intro @ho (And.intro @encOpr_u (And.intro @ha (And.intro @hd (And.intro @encDcl_u (And.intro @hk (And.intro @k0 (And.intro @hkd @encInt_u))))))))); refine gG ?_; exact gT)
  | false =>
    rw [ha] at hk
    simp only [Bool.false_eq_true, ↓reduceIte] at hk
    (have F := And.intro @encX_u (And.intro @h0 (And.intro @ho (And.intro @encOpr_u (And.intro @ha (And.intro @hd (And.intro @encDcl_u (And.intro @hk (And.intro @k0 (And.intro @hkd @encInt_u))))))))); refine gG ?_; exact gT)
set_option maxHeartbeats 4000000 in
set_option maxRecDepth 100000 in
theorem con_isUnit (hg : SgnOk g) {op : Int} {o : Opr} (h0 : 0 ≤ op) (ho : g.ops[op.toNat]? = some o) (t : Tm) : Con e0 172 [.one (.ptr (encX g mc)), .one (.lit (.int .i64 op)), .agg (encTm t)] [.one (.lit (.bool (decide (o.unit ≠ 0 ∧ t.op = o.unit - 1))))] := by
  have hax := hg.axs o (List.mem_of_getElem? ho)
  have hlo := hax.lo
  have hhi := hax.hi
  have hln := hg.len
  have hw : IntKind.i64.wrap (o.unit - 1) = o.unit - 1 := wrapN rfl (by omega) (by omega)
  refine gI 103 Tryz.func172 ?_
  by_cases hu : o.unit = 0
  · have e : decide (o.unit ≠ 0 ∧ t.op = o.unit - 1) = false := by simp [hu]
    rw [e]
    (have F := And.intro @encX_u (And.intro @tmz (And.intro @h0 (And.intro @ho (And.intro @encOpr_u @hu)))); refine gG ?_; exact gT)
  · have e : decide (o.unit ≠ 0 ∧ t.op = o.unit - 1) = decide (t.op = o.unit - 1) := by simp [hu]
    rw [e]
    (have F := And.intro @encX_u (And.intro @tmz (And.intro @h0 (And.intro @ho (And.intro @encOpr_u (And.intro @hu @hw))))); refine gG ?_; exact gT)
set_option maxHeartbeats 4000000 in
set_option maxRecDepth 100000 in
theorem con_isVariable (hg : SgnOk g) {t : Tm} (hs : t.name.size ≤ maxLen) : Con e0 170 [.one (.ptr (encX g mc)), .agg (encTm t)] [.one (.lit (.bool (isVar g t)))] := by
  have hno : ¬ VarOk g t → isVar g t = false := fun h => by simp [isVar, h]
  refine gI 27 Tryz.func170 ?_
  (have F := @tmz; refine gG ?_; clear F)
  by_cases h1 : t.op = -1
  rotate_left
  · have hf := hno fun h => h1 h.1
    (have F := And.intro @tmz (And.intro @h1 @hf); refine gG ?_; exact gT)
  refine gB ?_
  (have F := And.intro @tmz @h1; refine gC (con_implName hs) ?_; clear F)
  by_cases h2 : isName t.name = true
  rotate_left
  · have hf := hno fun h => h2 h.2.1
    have h2' : isName t.name = false := by simpa using h2
    (have F := And.intro @tmz @h2'; refine gR ?_; clear F)
    (have F := And.intro @tmz @hf; refine gG ?_; exact gT)
  (have F := And.intro @tmz (And.intro @h2 @encX_u); refine gC (con_has hg t.sort) ?_; clear F)
  by_cases h3 : 0 ≤ t.sort ∧ t.sort < g.sorts.names.length
  rotate_left
  · have hf := hno fun h => h3 ⟨h.2.2.1, h.2.2.2.1⟩
    have h3' : decide (0 ≤ t.sort ∧ t.sort < (g.sorts.names.length : Int)) = false := by simp only [decide_eq_false_iff_not]; exact h3
    (have F := And.intro @tmz @h3'; refine gR ?_; clear F)
    (have F := And.intro @tmz @hf; refine gG ?_; exact gT)
  have h3' : decide (0 ≤ t.sort ∧ t.sort < (g.sorts.names.length : Int)) = true := by simp only [decide_eq_true_eq]; exact h3
  by_cases h4 : t.args = []
  · have hT : isVar g t = true := by simp only [isVar, decide_eq_true_eq]; exact ⟨h1, h2, h3.1, h3.2, h4⟩
    (have F := And.intro @tmz (And.intro @h3' @h4); refine gR ?_; clear F)
    (have F := And.intro @tmz @hT; refine gG ?_; exact gT)
  · have hf := hno fun h => h4 h.2.2.2.2
    have h4' : ¬ ((t.args.length : Int) = 0) := by
      intro h; apply h4; apply List.eq_nil_of_length_eq_zero; omega
    (have F := And.intro @tmz (And.intro @h3' @h4'); refine gR ?_; clear F)
    (have F := And.intro @tmz @hf; refine gG ?_; exact gT)
end
end Go.Proofs.YtpbikjkjfojjiaaGreat

namespace Go.Proofs.YtpbikjkjfojjiaaGreat
open Go.RowKit

theorem okTm_iff {t : Tm} : okTm t ↔ I64 t.op ∧ t.name.size ≤ maxLen ∧ I64 t.sort ∧ okTms t.args := by cases t; simp only [okTm, Tm.op, Tm.name, Tm.sort, Tm.args]
theorem sizeTm_eq (t : Tm) : sizeTm t = 1 + sizeTms t.args := by cases t; simp only [sizeTm, Tm.args]
theorem depthTm_eq (t : Tm) : depthTm t = 1 + depthTms t.args := by cases t; simp only [depthTm, Tm.args]
theorem isForm_var {g : Sgn} {t : Tm} (h : t.op = -1) : isForm g t = isVar g t := by
  unfold isForm isVar
  congr 1
  rw [FormOk_iff]
  apply propext
  constructor
  · rintro ⟨h1 | ⟨o, d, h1⟩, _⟩
    · exact h1
    · have := h1.lo; omega
  · intro h1
    exact ⟨.inl h1, fun a ha => (by rw [h1.2.2.2.2] at ha; cases ha), .inl h⟩
theorem NodeOk.app {g : Sgn} {t : Tm} (h : NodeOk g t) (hop : t.op ≠ -1) : ∃ o d, AppOk g t o d := by
  rcases h with h | h
  · exact absurd h.1 hop
  · exact h
theorem argAt_get {g : Sgn} (hg : SgnOk g) {i : Nat} {o : Opr} {d : Dcl} {n j : Nat} (ho : g.ops[i]? = some o) (hd : o.decls[0]? = some d) (nas : o.assoc = false → n = d.args.length) (hj : j < n) : ∃ k, d.args[argAt o j]? = some k := by
  unfold argAt
  cases ha : o.assoc with
  | true =>
    have h2 := ((hg.axs o (List.mem_of_getElem? ho)).two (.inl ha) d hd).1
    exact ⟨_, List.getElem?_eq_getElem (by simp only [↓reduceIte]; omega)⟩
  | false => exact ⟨_, List.getElem?_eq_getElem (by simp only [Bool.false_eq_true, ↓reduceIte]; have := nas ha; omega)⟩
section
variable {g : Sgn} {mc : C}
set_option maxHeartbeats 40000000 in
set_option maxRecDepth 100000 in
theorem con_wellMade_all (hg : SgnOk g) : ∀ (n : Nat) (t : Tm), sizeTm t < n → okTm t → sizeTm t ≤ big → Con e0 151 [.one (.ptr (encX g mc)), .agg (encTm t)] [.one (.lit (.bool (isForm g t)))] := by
  intro n
  induction n with
  | zero => intro t h; omega
  | succ n ih =>
    intro t hn hok hb
    have hno : ¬ FormOk g t → isForm g t = false := isForm_false
    obtain ⟨k1, k2, k3, k4⟩ := okTm_iff.1 hok
    have hsz := sizeTm_eq t
    have hal := sizeTms_len t.args
    unfold big at hb
    refine gI 43556142965880125627826793391928073259515 Tryz.func151 ?_
    by_cases h1 : t.op = -1
    · have e := isForm_var (g := g) h1
      rw [e]
      (have F := And.intro @tmz @h1; refine gG ?_; clear F)
      refine gB ?_
      (have F := And.intro @tmz @h1; refine gC (con_isVariable hg k2) ?_; clear F)
      (have F := @tmz; refine gR ?_; clear F)
      (have F := @tmz; refine gG ?_; exact gT)
    by_cases h2 : t.op < 0
    · have hf := hno fun h => by
        obtain ⟨o, d, h⟩ := h.node.app h1
        have := h.lo; omega
      (have F := And.intro @tmz (And.intro @h1 (And.intro @h2 @hf)); refine gG ?_; exact gT)
    by_cases h3 : (g.ops.length : Int) ≤ t.op
    · have hf := hno fun h => by
        obtain ⟨o, d, h⟩ := h.node.app h1
        have := (List.getElem?_eq_some_iff.1 h.at').1; omega
      (have F := And.intro @tmz (And.intro @h1 (And.intro @h2 (And.intro @h3 (And.intro @encX_u @hf)))); refine gG ?_; exact gT)
    by_cases h4 : t.name = ByteArray.empty
    rotate_left
    · have hf := hno fun h => by
        obtain ⟨o, d, h⟩ := h.node.app h1
        exact h4 h.nm
      (have F := And.intro @tmz (And.intro @h1 (And.intro @h2 (And.intro @h3 (And.intro @encX_u (And.intro @str_emp (And.intro @h4 @hf)))))); refine gG ?_; exact gT)
    by_cases h5 : t.sort = 0
    rotate_left
    · have hf := hno fun h => by
        obtain ⟨o, d, h⟩ := h.node.app h1
        exact h5 h.so
      (have F := And.intro @tmz (And.intro @h1 (And.intro @h2 (And.intro @h3 (And.intro @encX_u (And.intro @str_emp (And.intro @h4 (And.intro @h5 @hf))))))); refine gG ?_; exact gT)
    have h0 : 0 ≤ t.op := by omega
    obtain ⟨o, ho⟩ : ∃ o, g.ops[t.op.toNat]? = some o := ⟨_, List.getElem?_eq_getElem (by omega)⟩
    obtain ⟨d, hd, hr0, hr1, hargs⟩ := hg.first ho
    have hgt : FormOk g t → AppOk g t o d := fun h => by
      obtain ⟨o', d', h⟩ := h.node.app h1
      have e1 := h.at'
      rw [ho] at e1
      injection e1 with e1
      subst e1
      have e2 := h.fst
      rw [hd] at e2
      injection e2 with e2
      subst e2
      exact h
    by_cases hW : (o.assoc = true → 2 ≤ t.args.length ∧ t.args.length ≤ 7) ∧ (o.assoc = false → t.args.length = d.args.length)
    rotate_left
    · have hf := hno fun h => hW ⟨(hgt h).asc, (hgt h).nas⟩
      cases ha : o.assoc with
      | true =>
        by_cases c1 : t.args.length < 2
        · have c1' : (t.args.length : Int) < 2 := by omega
          (have F := And.intro @tmz (And.intro @h1 (And.intro @h2 (And.intro @h3 (And.intro @encX_u (And.intro @str_emp (And.intro @h4 (And.intro @h5 (And.intro @h0 (And.intro @ho (And.intro @encOpr_u (And.intro @ha (And.intro @c1' @hf)))))))))))); refine gG ?_; exact gT)
        · have c1' : ¬ ((t.args.length : Int) < 2) := by omega
          have c2 : (7 : Int) < (t.args.length : Int) := by
            by_cases c2 : t.args.length ≤ 7
            · exact absurd ⟨fun _ => ⟨by omega, c2⟩, fun h => by rw [ha] at h; cases h⟩ hW
            · omega
          (have F := And.intro @tmz (And.intro @h1 (And.intro @h2 (And.intro @h3 (And.intro @encX_u (And.intro @str_emp (And.intro @h4 (And.intro @h5 (And.intro @h0 (And.intro @ho (And.intro @encOpr_u (And.intro @ha (And.intro @c1' (And.intro @c2 @hf))))))))))))); refine gG ?_; exact gT)
      | false =>
        have c3 : ¬ ((t.args.length : Int) = (d.args.length : Int)) := fun c => hW ⟨fun h => (by rw [ha] at h; cases h), fun _ => by omega⟩
        (have F := And.intro @tmz (And.intro @h1 (And.intro @h2 (And.intro @h3 (And.intro @encX_u (And.intro @str_emp (And.intro @h4 (And.intro @h5 (And.intro @h0 (And.intro @ho (And.intro @encOpr_u (And.intro @ha (And.intro @hd (And.intro @encDcl_u (And.intro @c3 @hf)))))))))))))); refine gG ?_; exact gT)
    have hA : AppOk g t o d := ⟨h0, ho, hd, h4, h5, hW.1, hW.2⟩
    (have F := And.intro @tmz (And.intro @h1 (And.intro @h2 (And.intro @h3 (And.intro @encX_u (And.intro @str_emp (And.intro @h4 (And.intro @h5 (And.intro @h0 (And.intro @ho @encOpr_u))))))))); refine gG ?_; clear F)
    refine gM (ι := Unit) [75] [] (fun u => [(75, A.d (.one (.lit (.bool false))))]) (fun u => []) (fun u => True) ?_ (fun u hu => Exists.intro _ (And.intro (Wk.refl _) ?_))
    · cases ha : o.assoc with
      | true =>
        have c := hW.1 ha
        have c1' : ¬ ((t.args.length : Int) < 2) := by omega
        have c2 : ¬ ((7 : Int) < (t.args.length : Int)) := by omega
        (have F := And.intro @tmz (And.intro @encOpr_u (And.intro @ha (And.intro @c1' @c2))); refine gG ?_; exact ⟨(), trivial, gw, gw⟩)
      | false =>
        have c3 : ((t.args.length : Int) = (d.args.length : Int)) := by have := hW.2 ha; omega
        (have F := And.intro @tmz (And.intro @encOpr_u (And.intro @ha (And.intro @hd (And.intro @encDcl_u @c3)))); refine gG ?_; exact ⟨(), trivial, gw, gw⟩)
    (have F := @tmz; refine gG ?_; clear F)
    (have F := @e0P; refine gL (ι := Nat) [4, 7, 8, 79, 80, 135] [] (fun i => [(79, A.d (.one (.lit (.int .i64 i))))]) (fun i => []) (fun i => i ≤ t.args.length ∧ ∀ (j : Nat) a, j < i → t.args[j]? = some a → FormOk g a ∧ ArgOk g t.op o d t.args j a) (fun i => t.args.length - i) (0) (⟨by omega, fun j a h => absurd h (by omega)⟩) (fun i hi => ?_); clear F)
    obtain ⟨hil, hall⟩ := hi
    by_cases hl : i < t.args.length
    rotate_left
    · have hl' : ¬ ((i : Int) < (t.args.length : Int)) := by omega
      have hT := isForm_true (FormOk_iff.2 ⟨.inr ⟨o, d, hA⟩, fun a ha => by
          obtain ⟨j, hj⟩ := List.getElem?_of_mem ha
          exact (hall j a (by have := (List.getElem?_eq_some_iff.1 hj).1; omega) hj).1, .inr fun o' d' ho' hd' j a hj => by
          rw [ho] at ho'
          injection ho' with ho'
          subst ho'
          rw [hd] at hd'
          injection hd' with hd'
          subst hd'
          exact (hall j a (by have := (List.getElem?_eq_some_iff.1 hj).1; omega) hj).2⟩)
      (have F := And.intro @hl' @hT; refine gG ?_; exact gT)
    have hl' : (i : Int) < (t.args.length : Int) := by omega
    obtain ⟨a, ha⟩ : ∃ a, t.args[i]? = some a := ⟨_, List.getElem?_eq_getElem hl⟩
    have hm := List.mem_of_getElem? ha
    have hsa := sizeTms_mem hm
    have hw1 := wrap1 (k := i) (by omega)
    have hnoA : ¬ ArgOk g t.op o d t.args i a → isForm g t = false := fun h => hno fun hF => by
      obtain ⟨_, _, h3⟩ := FormOk_iff.1 hF
      rcases h3 with h3 | h3
      · exact h1 h3
      · exact h (h3 o d ho hd i a ha)
    obtain ⟨k, hk⟩ := argAt_get hg ho hd hA.nas hl
    (have F := And.intro @hl' (And.intro @tmz @ha); refine gG ?_; clear F)
    refine gB ?_
    (have F := @tmz; refine gC (ih a (by omega) (k4.mem hm) (by unfold big; omega)) ?_; clear F)
    by_cases hfa : isForm g a = true
    rotate_left
    · have hf := hno fun h => hfa (isForm_true ((FormOk_iff.1 h).2.1 a hm))
      have hfa' : isForm g a = false := by simpa using hfa
      (have F := And.intro @tmz @hfa'; refine gR ?_; clear F)
      (have F := @hf; refine gG ?_; exact gT)
    have hFa := isForm_iff.1 hfa
    (have F := And.intro @tmz @hfa; refine gC (con_kindOf hg hFa.node) ?_; clear F)
    (have F := @tmz; refine gC (con_argKind hg h0 ho hd hk) ?_; clear F)
    by_cases hkd : kindTm g a = ((kd g.sorts k : Nat) : Int)
    rotate_left
    · have hf := hnoA fun h => hkd (h.kind k hk)
      (have F := And.intro @tmz @hkd; refine gR ?_; clear F)
      (have F := @hf; refine gG ?_; exact gT)
    by_cases hN : o.assoc = true ∧ a.op = t.op
    · have hf := hnoA fun h => h.nest hN.1 hN.2
      obtain ⟨hN1, hN2⟩ := hN
      (have F := And.intro @tmz (And.intro @hkd (And.intro @encOpr_u (And.intro @hN1 @hN2))); refine gR ?_; clear F)
      (have F := @hf; refine gG ?_; exact gT)
    have hne : o.assoc = true → ¬ a.op = t.op := fun h1 h2 => hN ⟨h1, h2⟩
    have cU := con_isUnit (mc := mc) hg h0 ho a
    generalize hU : decide (o.unit ≠ 0 ∧ a.op = o.unit - 1) = U at cU
    have hnext : (U = false) → (o.comm = true → ∀ (j : Nat) p, i = j + 1 → t.args[j]? = some p → cmpTm p a ≤ 0) → i + 1 ≤ t.args.length ∧ ∀ (j : Nat) a, j < i + 1 → t.args[j]? = some a → FormOk g a ∧ ArgOk g t.op o d t.args j a := fun hU' hc => ⟨by omega, fun j a' hj ha' => by
      by_cases e : j = i
      · subst e
        rw [ha] at ha'
        injection ha' with ha'
        subst ha'
        refine ⟨hFa, fun k' hk' => ?_, fun h1 h2 => hN ⟨h1, h2⟩, fun h1 h2 => ?_, hc⟩
        · rw [hk] at hk'
          injection hk' with hk'
          subst hk'
          exact hkd
        · rw [hU'] at hU
          simp only [decide_eq_false_iff_not] at hU
          exact hU ⟨h1, h2⟩
      · exact hall j a' (by omega) ha'⟩
    rcases Bool.eq_false_or_eq_true o.assoc with hac | hac
    all_goals (
      (have F := And.intro @tmz (And.intro @hkd (And.intro @encOpr_u (And.intro @hac @hne))); refine gC (cU) ?_; clear F)
      rcases Bool.eq_false_or_eq_true U with hu | hu
      · have hf := hnoA fun h => by
          rw [hu] at hU
          simp only [decide_eq_true_eq] at hU
          exact h.unit hU.1 hU.2
        (have F := And.intro @tmz @hu; refine gR ?_; clear F)
        (have F := @hf; refine gG ?_; exact gT)
      rcases Bool.eq_false_or_eq_true o.comm with hcm | hcm
      rotate_left
      · have hq := hnext hu (fun h => by rw [hcm] at h; cases h)
        (have F := And.intro @tmz (And.intro @hu (And.intro @encOpr_u @hcm)); refine gR ?_; clear F)
        (have F := And.intro @hw1 (And.intro @tmz (And.intro @encOpr_u (And.intro @hcm @hac))); refine gG ?_; exact ⟨i + 1, hq, gw, gw, by omega⟩)
      rcases Nat.eq_zero_or_pos i with hi0 | hi0
      · have hq := hnext hu (fun _ j p h => by omega)
        have hi0' : ¬ ((0 : Int) < (i : Int)) := by omega
        (have F := And.intro @tmz (And.intro @hu (And.intro @encOpr_u (And.intro @hcm @hi0'))); refine gR ?_; clear F)
        (have F := And.intro @hw1 (And.intro @tmz (And.intro @encOpr_u (And.intro @hcm @hac))); refine gG ?_; exact ⟨i + 1, hq, gw, gw, by omega⟩)
      obtain ⟨j, rfl⟩ : ∃ j, i = j + 1 := ⟨i - 1, by omega⟩
      obtain ⟨p, hp⟩ : ∃ p, t.args[j]? = some p := ⟨_, List.getElem?_eq_getElem (by omega)⟩
      have cC := con_implCmp (k4.mem (List.mem_of_getElem? hp)) (k4.mem hm)
      have hgt0 : (0 : Int) < ((j + 1 : Nat) : Int) := by omega
      have hsub : IntKind.i64.wrap (((j + 1 : Nat) : Int) - 1) = (j : Int) := wrapN (by omega) (by omega) (by omega)
      (have F := And.intro @tmz (And.intro @hu (And.intro @encOpr_u (And.intro @hcm (And.intro @hgt0 (And.intro @hsub @hp))))); refine gC (cC) ?_; clear F)
      by_cases hc : 0 < cmpTm p a
      · have hf := hnoA fun h => by have := h.ord hcm j p rfl hp; omega
        (have F := And.intro @tmz @hc; refine gR ?_; clear F)
        (have F := @hf; refine gG ?_; exact gT)
      · have hq := hnext hu (fun _ j' p' h hp' => by
          have : j' = j := by omega
          subst this
          rw [hp] at hp'
          injection hp' with hp'
          subst hp'
          omega)
        (have F := And.intro @tmz @hc; refine gR ?_; clear F)
        (have F := And.intro @hw1 (And.intro @tmz (And.intro @encOpr_u (And.intro @hcm @hac))); refine gG ?_; exact ⟨j + 1 + 1, hq, gw, gw, by omega⟩))
theorem con_wellMade (hg : SgnOk g) {t : Tm} (hok : okTm t) (hb : sizeTm t ≤ big) : Con e0 151 [.one (.ptr (encX g mc)), .agg (encTm t)] [.one (.lit (.bool (isForm g t)))] := con_wellMade_all hg _ t (Nat.lt_succ_self _) hok hb
/-- A term over a signature. -/
structure TermOk (g : Sgn) (t : Tm) : Prop where
  size : sizeTm t ≤ 60
  depth : depthTm t ≤ 20
  form : FormOk g t
open Classical in
noncomputable def isTerm (g : Sgn) (t : Tm) : Bool := decide (TermOk g t)
theorem isTerm_true {g : Sgn} {t : Tm} (h : TermOk g t) : isTerm g t = true := by simp [isTerm, h]
theorem isTerm_false {g : Sgn} {t : Tm} (h : ¬ TermOk g t) : isTerm g t = false := by simp [isTerm, h]
theorem isTerm_iff {g : Sgn} {t : Tm} : isTerm g t = true ↔ TermOk g t := by simp [isTerm]
theorem isTerm_form {g : Sgn} {t : Tm} (h1 : sizeTm t ≤ 60) (h2 : depthTm t ≤ 20) : isForm g t = isTerm g t := by
  unfold isForm isTerm
  congr 1
  exact propext ⟨fun h => ⟨h1, h2, h⟩, fun h => h.form⟩
set_option maxHeartbeats 4000000 in
set_option maxRecDepth 100000 in
theorem con_implIsT (hg : SgnOk g) {t : Tm} (hok : okTm t) (hb : sizeTm t ≤ big) : Con e0 107 [.one (.ptr (encX g mc)), .agg (encTm t)] [.one (.lit (.bool (isTerm g t)))] := by
  have hno : ¬ TermOk g t → isTerm g t = false := isTerm_false
  refine gI 27 Tryz.func107 ?_
  (have F := @tmz; refine gG ?_; clear F)
  refine gB ?_
  (have F := @tmz; refine gC (con_implSize hb) ?_; clear F)
  by_cases h1 : sizeTm t ≤ 60
  rotate_left
  · have h1' : ¬ ((sizeTm t : Int) ≤ 60) := by omega
    have hf := hno fun h => h1 h.size
    (have F := And.intro @tmz @h1'; refine gR ?_; clear F)
    (have F := @hf; refine gG ?_; exact gT)
  have h1' : ((sizeTm t : Int) ≤ 60) := by omega
  (have F := And.intro @tmz @h1'; refine gC (con_implDepth hb) ?_; clear F)
  by_cases h2 : depthTm t ≤ 20
  rotate_left
  · have h2' : ¬ ((depthTm t : Int) ≤ 20) := by omega
    have hf := hno fun h => h2 h.depth
    (have F := And.intro @tmz @h2'; refine gR ?_; clear F)
    (have F := @hf; refine gG ?_; exact gT)
  have h2' : ((depthTm t : Int) ≤ 20) := by omega
  (have F := And.intro @tmz @h2'; refine gC (con_wellMade hg hok hb) ?_; clear F)
  have e := isTerm_form (g := g) h1 h2
  (have F := @tmz; refine gR ?_; clear F)
  (have F := @e; refine gG ?_; exact gT)
end
end Go.Proofs.YtpbikjkjfojjiaaGreat

namespace Go.Proofs.YtpbikjkjfojjiaaGreat
open Go.RowKit Go.Sort

theorem specInR (n : Nat) (x : Int) (w : World) : Calls Tryz.prog 64 #[.int .i64 x, .int .i64 0, .int .i64 ((n : Int) - 1)] w fun e w' => e = .returned (.bool (inR n x)) ∧ w = w' :=
  (specIn x 0 ((n : Int) - 1) w).mono fun e w' ⟨h1, h2⟩ => ⟨by rw [h1]; refine ret_bool ?_; unfold inR; rw [Bool.eq_iff_iff]; simp; omega, h2⟩
set_option maxHeartbeats 4000000 in
set_option maxRecDepth 100000 in
theorem specDecls (g : Sgn) (o : Opr) (S : Nat → Prop) (vs us : List Value) (w : World) (hs : SortsOk g.sorts) (hokg : okSgn g) (hok : okOpr o) (hvg : RepVals w S (encSgn g) vs) (hv : RepVals w S (encOpr o) us) :
    Calls Tryz.prog 94 #[.agg vs.toArray, .agg us.toArray] w fun e w' => e = .returned (.bool (declsOk g.sorts o)) ∧ Below w.heap.size w w' := by
  obtain ⟨s, ops⟩ := g
  simp only at hs
  obtain ⟨n, hN⟩ : ∃ n, s.names.length = n := ⟨_, rfl⟩
  have hK := kinds_ok (SortsOk.subsIn hs.subs)
  have hn1 := hs.n1
  have h8 := hs.n8
  rw [hN] at hK hn1 h8
  obtain ⟨g0, g1, g2, rfl, f0, f1, f2⟩ := repVals_Signature hvg
  obtain ⟨Ag0, cg0, rfl, _, _⟩ := f0.shape
  obtain ⟨Ag1, cg1, rfl, _, _⟩ := f1.shape
  obtain ⟨Ag2, cg2, rfl, _, _⟩ := f2.shape
  have HSR : Hid (RepVals w S (encSrt s) [.slice Ag0 s.names.length cg0, .slice Ag1 s.subs.length cg1]) := by show RepVals _ _ _ _; simp only [encSrt, RepVals, and_true]; exact ⟨f0, f1⟩
  have HKI := Lib.hid (fun W h => specKinds s S [.slice Ag0 s.names.length cg0, .slice Ag1 s.subs.length cg1] W hokg.1 h hs.n1 hs.n8 hs.subs)
  obtain ⟨name, decls, ac, cm, un⟩ := o
  simp only [encOpr] at hv
  obtain ⟨v1, rfl, e1⟩ := repVals_Op hv
  obtain ⟨A1, cap1, rfl, hc1, hm1⟩ := e1.shape
  obtain ⟨ic, hci, _, hcs, _⟩ := info_parts info_Decl'
  have HOK := Lib.hid hok
  have E1 := Lib.hid e1
  have HK := Lib.hid hK
  have HN := Lib.hid hN
  rw [hN] at HSR HKI
  rw [hN]
  generalize s.subs.length = ms at *
  generalize ops.length = mo at *
  clear hv e1 hok hK hN hs hvg f0 f1 f2 hokg
  generalize hM : decls.length = m at *
  have HM := Lib.hid hM
  clear hM
  have HH := Lib.hid (fun (k : Int) (w : World) => specInR n k w)
  unfold maxLen at hm1
  by_cases hm0 : m = 0
  · subst hm0
    have HF : Hid (declsOk s ⟨name, decls, ac, cm, un⟩ = false) := declsOk_false fun h => by have := h.len1; have := HM.out; simp only at *; omega
    go_enter Tryz.func94, Tryz.ntmps94
    go_wp2
    go_ret
    exact ⟨ret_bool HF.out.symm, (belowA _ _).trans ((belowA _ _).mono (belowA _ _).size)⟩
  by_cases hm4 : 4 < m
  · have HF : Hid (declsOk s ⟨name, decls, ac, cm, un⟩ = false) := declsOk_false fun h => by have := h.len4; have := HM.out; simp only at *; omega
    go_enter Tryz.func94, Tryz.ntmps94
    go_wp2
    go_ret
    exact ⟨ret_bool HF.out.symm, (belowA _ _).trans ((belowA _ _).mono (belowA _ _).size)⟩
  obtain ⟨f, hf⟩ : ∃ f, decls[0]? = some f := ⟨_, List.getElem?_eq_getElem (by have := HM.out; omega)⟩
  obtain ⟨b1, o1, rfl, _, hz1, hrow⟩ := Rep.at okDclR HOK.out.2.1 E1.out hf
  have HFOK := Lib.hid (HOK.out.2.1 f (List.mem_of_getElem? hf))
  have HF0 := Lib.hid hf
  obtain ⟨fargs, fres⟩ := f
  simp only [encDcl, RepRow, and_true, fieldsOf, List.length_cons, List.length_nil, Nat.reduceAdd, Nat.zero_mul, Nat.add_zero, Rep.lit_iff] at hrow
  obtain ⟨⟨u0, c0, r0⟩, ⟨_, c1, rfl⟩⟩ := hrow
  obtain ⟨Af, capf, rfl, hcf, hmf⟩ := r0.shape
  have RF := Lib.hid r0
  clear hf r0
  unfold maxLen at hmf
  generalize hLF : fargs.length = lf at *
  have HLF := Lib.hid hLF
  clear hLF
  by_cases hl3 : 3 < lf
  · have HF : Hid (declsOk s ⟨name, decls, ac, cm, un⟩ = false) := declsOk_false fun h => by have := h.ar _ HF0.out; have := HLF.out; simp only at *; omega
    go_enter Tryz.func94, Tryz.ntmps94
    go_wp2
    go_ret
    exact ⟨ret_bool HF.out.symm, (belowA _ _).trans ((belowA _ _).mono (belowA _ _).size)⟩
  go_enter Tryz.func94, Tryz.ntmps94
  go_wp2_with fail
  generalize hW : (w.alloc _).alloc _ = W0
  have hb0 : Below w.heap.size w W0 := by rw [← hW]; exact ((Below.refl _ _).alloc (Nat.le_refl _) _).alloc (by simp) _
  have p3 : W0.cell? ⟨w.heap.size + 1, 1, none⟩ = some (.slice (some ⟨b1, o1, none⟩) m cap1) := (by rw [← hW]; repeat' (first | (simp; done) | exact keepNew (by simp) rfl | refine keepA _ ?_))
  have z1 : w.heap.size + 1 < W0.heap.size := by rw [← hW]; simp
  have c2 := keepB hb0 c0
  have c3 := keepB hb0 c1
  clear hW c0 c1
  generalize hg2 : w.heap.size + 1 = g3 at *
  clear hg2
  refine (HKI.out _ (HSR.out.below hb0)).mono ?_
  rintro e W1 ⟨vk, rfl, hI, hbk⟩
  obtain ⟨Ak, ck, rfl, hck, hmk, hA⟩ := hI.form
  have hkl : (casts (kinds s)).length = n := by rw [casts_len]; exact HK.out.1
  have hI' := hI.rep
  rw [hkl] at hI' hck
  rw [hkl]
  clear hkl hA
  unfold maxLen at hmk
  have VK1 := Lib.hid hI'
  clear hI hI'
  have p3' := keepB hbk p3
  have c0 := keepB hbk c2
  have c1 := keepB hbk c3
  go_wp2_with ((with_reducible refine atStore 181 (.tmp 6) (.tmp 35) rfl ?_); refine wpList_store_new rfl 181 _ _ rfl _ _ _ rfl _ rfl (by simp) [.slice Af lf capf, .int .i64 fres] rfl ic hci hcs rfl (by simp [Value.oneCell']) ?_)
  generalize hW : W1.alloc _ = W
  have hb1 : Below W1.heap.size W1 W := by rw [← hW]; exact belowA _ _
  have p4 : W.cell? ⟨W1.heap.size, 0, none⟩ = some (.slice Af lf capf) := (by rw [← hW]; repeat' (first | (simp; done) | exact keepNew (by simp) rfl | refine keepA _ ?_))
  have p5 : W.cell? ⟨W1.heap.size, 1, none⟩ = some (.int .i64 fres) := (by rw [← hW]; repeat' (first | (simp; done) | exact keepNew (by simp) rfl | refine keepA _ ?_))
  have p6 := keepB hb1 p3'
  have hbW : Below w.heap.size w W := (hb0.trans (hbk.mono hb0.size)).trans (hb1.mono (hb0.trans (hbk.mono hb0.size)).size)
  have V5 := Lib.hid (RF.out.below hbW)
  have VK := Lib.hid (VK1.out.below hb1)
  have V1 := Lib.hid (E1.out.below hbW)
  clear hW c0 c1 c2 c3 p3 p3' E1 RF VK1 hb1
  generalize W1.heap.size = g5 at *
  clear hb0 hbk z1 HKI HSR
  go_loopw [7] (fun i wr => ∃ k : Nat, k ≤ m ∧ i = .int .i64 k ∧ (∀ j d, j < k → decls[j]? = some d → DeclOk s ⟨fargs, fres⟩ d) ∧ Below W.heap.size W wr) (fun i _ => m - (intOf i).toNat)
  case atStart => exact ⟨0, Nat.zero_le _, rfl, fun j x h => by omega, Below.refl _ _⟩
  case round =>
    obtain ⟨k, hk, rfl, hall, hb⟩ := hrel
    have HALL := Lib.hid hall
    clear hall
    have q3 := keepB hb p6
    by_cases hkm' : k < m
    · obtain ⟨d, hd⟩ : ∃ d, decls[k]? = some d := ⟨_, List.getElem?_eq_getElem (by have := HM.out; omega)⟩
      obtain ⟨_, _, hA, _, hbz, hrow⟩ := Rep.at okDclR HOK.out.2.1 (V1.out.below hb) hd
      injection hA with hA
      injection hA with hA hA'
      subst hA hA'
      have HDOK := Lib.hid (HOK.out.2.1 d (List.mem_of_getElem? hd))
      have HD := Lib.hid hd
      clear hd
      obtain ⟨dargs, dres⟩ := d
      simp only [encDcl, RepRow, and_true, fieldsOf, List.length_cons, List.length_nil, Nat.reduceAdd, Rep.lit_iff] at hrow
      obtain ⟨⟨u0, c0, r0⟩, ⟨_, c1, rfl⟩⟩ := hrow
      obtain ⟨Ad, capd, rfl, hcd, hmd⟩ := r0.shape
      have RD := Lib.hid r0
      clear r0
      unfold maxLen at hmd
      generalize hLD : dargs.length = ld at *
      have HLD := Lib.hid hLD
      clear hLD
      have hone : ∀ u ∈ [Value.slice Ad ld capd, Value.int .i64 dres], u.oneCell' = true := by simp [Value.oneCell']
      have HONE := Lib.hid hone
      clear hone
      -- what is known of the first declaration
      have HFA : Hid (0 < k → DeclOk s ⟨fargs, fres⟩ ⟨fargs, fres⟩) := fun h => HALL.out 0 _ h HF0.out
      have HSM : Hid (k = 0 → fargs = dargs ∧ fres = dres) := fun h => by
        have h1 := HD.out
        rw [h, HF0.out] at h1
        injection h1 with h1
        injection h1 with h1 h2
        exact ⟨h1, h2⟩
      have q4 := keepB hb p4
      have q5 := keepB hb p5
      have z5 : g5 < wr.heap.size := World.block_lt_of_cell? _ _ q4
      have z3 : g3 < wr.heap.size := World.block_lt_of_cell? _ _ q3
      by_cases hc1 : ld = lf
      rotate_left
      · have HF : Hid (declsOk s ⟨name, decls, ac, cm, un⟩ = false) := declsOk_false fun h => hc1 (by have := (h.all _ HF0.out _ (List.mem_of_getElem? HD.out)).len; have := HLD.out; have := HLF.out; simp only at *; omega)
        have n1 : (ld == lf) = false := by simp [hc1]
        have n2 : ((ld : Int) == (lf : Int)) = false := by simp; omega
        have n3 : ((ld : Int) != (lf : Int)) = true := by simp; omega
        go_wp2_with ((with_reducible refine atStore 181 (.tmp 8) (.tmp 47) rfl ?_); refine wpList_store_new rfl 181 _ _ rfl _ _ _ rfl _ rfl (by simp) [.slice Ad ld capd, .int .i64 dres] rfl ic hci hcs rfl HONE.out ?_)
        go_ret
        exact ⟨ret_bool HF.out.symm, hbW.trans ((hb.trans ((belowA wr _).mono hb.size)).mono hbW.size)⟩
      obtain rfl : lf = ld := hc1.symm
      have n1 : (lf == lf) = true := by simp
      by_cases hc2 : 0 ≤ dres ∧ dres < n
      rotate_left
      · have HF : Hid (declsOk s ⟨name, decls, ac, cm, un⟩ = false) := declsOk_false fun h => hc2 (by have := (h.all _ HF0.out _ (List.mem_of_getElem? HD.out)).res; rw [HN.out] at this; exact this)
        have HCd := Lib.hid (fun w => HH.out dres w)
        rw [inR_false hc2] at HCd
        clear hc2
        go_wp2_with (first | (go_at_call 64; refine (HCd.out _).mono ?_; rintro e w3 ⟨rfl, rfl⟩) | ((with_reducible refine atStore 181 (.tmp 8) (.tmp 47) rfl ?_); refine wpList_store_new rfl 181 _ _ rfl _ _ _ rfl _ rfl (by simp) [.slice Ad lf capd, .int .i64 dres] rfl ic hci hcs rfl HONE.out ?_))
        go_ret
        exact ⟨ret_bool HF.out.symm, hbW.trans ((hb.trans ((belowA wr _).mono hb.size)).mono hbW.size)⟩
      have HCd := Lib.hid (fun w => HH.out dres w)
      rw [inR_true hc2] at HCd
      go_wp2_with (first | (go_at_call 64; refine (HCd.out _).mono ?_; rintro e w3 ⟨rfl, rfl⟩) | ((with_reducible refine atStore 181 (.tmp 8) (.tmp 47) rfl ?_); refine wpList_store_new rfl 181 _ _ rfl _ _ _ rfl _ rfl (by simp) [.slice Ad lf capd, .int .i64 dres] rfl ic hci hcs rfl HONE.out ?_))
      generalize hW9 : wr.alloc _ = W9
      have hb9 : Below wr.heap.size wr W9 := by rw [← hW9]; exact belowA _ _
      have y0 : W9.cell? ⟨wr.heap.size, 0, none⟩ = some (.slice Ad lf capd) := (by rw [← hW9]; repeat' (first | (simp; done) | exact keepNew (by simp) rfl | refine keepA _ ?_))
      have y1 : W9.cell? ⟨wr.heap.size, 1, none⟩ = some (.int .i64 dres) := (by rw [← hW9]; repeat' (first | (simp; done) | exact keepNew (by simp) rfl | refine keepA _ ?_))
      have hb5 : Below W.heap.size W W9 := hb.trans (hb9.mono hb.size)
      have RD2 := Lib.hid (RD.out.below hb9)
      clear hW9 c0 c1 RD q3 q4 q5 z5 z3 HCd
      generalize wr.heap.size = g9 at *
      clear hb9 hb
      obtain ⟨wo2, rfl⟩ : ∃ x : World, x = wr := ⟨_, rfl⟩
      go_loopw [9] (fun i wr => ∃ j : Nat, j ≤ lf ∧ i = .int .i64 j ∧ (∀ (i : Nat) (a b : Int), i < j → dargs[i]? = some a → fargs[i]? = some b → (0 ≤ a ∧ a < n) ∧ kd s a = kd s b) ∧ Below W9.heap.size W9 wr) (fun i _ => lf - (intOf i).toNat)
      case atStart => exact ⟨0, Nat.zero_le _, rfl, fun i a b h => by omega, Below.refl _ _⟩
      case round =>
        obtain ⟨j, hj, rfl, hall, hbr⟩ := hrel
        have HA2 := Lib.hid hall
        clear hall
        have hb6 : Below W.heap.size W wr := hb5.trans (hbr.mono hb5.size)
        have s0 := keepB hbr y0
        have s1 := keepB hbr y1
        have s4 := keepB hb6 p4
        have s5 := keepB hb6 p5
        by_cases hjn : j < lf
        · obtain ⟨x, hx⟩ : ∃ x, dargs[j]? = some x := ⟨_, List.getElem?_eq_getElem (by have := HLD.out; omega)⟩
          obtain ⟨y, hy⟩ : ∃ y, fargs[j]? = some y := ⟨_, List.getElem?_eq_getElem (by have := HLF.out; omega)⟩
          obtain ⟨bd, od, rfl, hbd, cx⟩ := Rep.int HDOK.out.1 (RD2.out.below hbr) hx
          obtain ⟨bf, of, rfl, hbf, cy⟩ := Rep.int HFOK.out.1 (V5.out.below hb6) hy
          have hyr : (0 ≤ x ∧ x < (n : Int)) → 0 ≤ y ∧ y < (n : Int) := fun h => by
            by_cases hk0 : k = 0
            · have h1 := (HSM.out hk0).1
              rw [h1, hx] at hy
              injection hy with hy
              rw [← hy]
              exact h
            · have := (HFA.out (by omega)).args y (List.mem_of_getElem? hy)
              rw [HN.out] at this
              exact this
          have HX := Lib.hid hx
          have HY := Lib.hid hy
          clear hx hy
          by_cases hxr : 0 ≤ x ∧ x < n
          rotate_left
          · have HF : Hid (declsOk s ⟨name, decls, ac, cm, un⟩ = false) := declsOk_false fun h => hxr (by have := (h.all _ HF0.out _ (List.mem_of_getElem? HD.out)).args x (List.mem_of_getElem? HX.out); rw [HN.out] at this; exact this)
            have HCd := Lib.hid (fun w => HH.out x w)
            rw [inR_false hxr] at HCd
            clear hxr hyr
            go_wp2_with fail
            have hwr : IntKind.i64.wrap ((n : Int) - 1) = (n : Int) - 1 := IntWalk.i64_in _ (by omega)
            go_quiet (first | (go_at_call 64; exact quietC (fun n => HCd.out _) _))
            go_wp2
            go_ret
            exact ⟨ret_bool HF.out.symm, hbW.trans (below_drewN (hb6.mono hbW.size) _)⟩
          have hyr2 := hyr hxr
          clear hyr
          have HCd := Lib.hid (fun w => HH.out x w)
          rw [inR_true hxr] at HCd
          obtain ⟨xn, rfl⟩ := Int.eq_ofNat_of_zero_le hxr.1
          obtain ⟨yn, rfl⟩ := Int.eq_ofNat_of_zero_le hyr2.1
          obtain ⟨bk, ok, rfl, _, kc1⟩ := kd_cell (by rw [HN.out]; exact HK.out) (by rw [HN.out]; exact h8) (VK.out.below hb6) (k := xn) (by rw [HN.out]; omega)
          obtain ⟨_, _, hA, _, kc2⟩ := kd_cell (by rw [HN.out]; exact HK.out) (by rw [HN.out]; exact h8) (VK.out.below hb6) (k := yn) (by rw [HN.out]; omega)
          injection hA with hA
          injection hA with hA hA'
          subst hA hA'
          by_cases hc3 : kd s xn = kd s yn
          rotate_left
          · have HF : Hid (declsOk s ⟨name, decls, ac, cm, un⟩ = false) := declsOk_false fun h => hc3 ((h.all _ HF0.out _ (List.mem_of_getElem? HD.out)).kargs j _ _ HX.out HY.out)
            generalize kd s xn = kx at *
            generalize kd s yn = kz at *
            have n1 : (kx == kz) = false := by simp [hc3]
            have n2 : ((kx : Int) == (kz : Int)) = false := by simp; omega
            have n3 : ((kx : Int) != (kz : Int)) = true := by simp; omega
            go_wp2_with fail
            have hwr : IntKind.i64.wrap ((n : Int) - 1) = (n : Int) - 1 := IntWalk.i64_in _ (by omega)
            go_quiet (first | (go_at_call 64; exact quietC (fun n => HCd.out _) _))
            go_wp2
            go_ret
            exact ⟨ret_bool HF.out.symm, hbW.trans (below_drewN (hb6.mono hbW.size) _)⟩
          have HC4 := Lib.hid hc3
          rw [hc3] at kc1
          generalize kd s yn = kz at kc1 kc2
          clear hc3
          go_wp2_with fail
          have hwr : IntKind.i64.wrap ((n : Int) - 1) = (n : Int) - 1 := IntWalk.i64_in _ (by omega)
          go_quiet (first | (go_at_call 64; exact quietC (fun n => HCd.out _) _))
          clear hwr
          go_wp2
          go_roundw
          case rel =>
            refine ⟨j + 1, by omega, by go_num, fun i a b hi ha hb' => ?_, below_drewN hbr _⟩
            by_cases hij : i = j
            · subst hij
              rw [HX.out] at ha
              rw [HY.out] at hb'
              injection ha with ha
              injection hb' with hb'
              rw [← ha, ← hb']
              exact ⟨hxr, HC4.out⟩
            · exact HA2.out i a b (by omega) ha hb'
          case measure => simp [intOf]; omega
        · obtain rfl : lf = j := by omega
          have hfr : 0 ≤ fres ∧ fres < (n : Int) := by
            by_cases hk0 : k = 0
            · rw [(HSM.out hk0).2]
              exact hc2
            · have := (HFA.out (by omega)).res
              rw [HN.out] at this
              exact this
          obtain ⟨dn, rfl⟩ := Int.eq_ofNat_of_zero_le hc2.1
          obtain ⟨fn, rfl⟩ := Int.eq_ofNat_of_zero_le hfr.1
          obtain ⟨bk, ok, rfl, _, kc1⟩ := kd_cell (by rw [HN.out]; exact HK.out) (by rw [HN.out]; exact h8) (VK.out.below hb6) (k := dn) (by rw [HN.out]; omega)
          obtain ⟨_, _, hA, _, kc2⟩ := kd_cell (by rw [HN.out]; exact HK.out) (by rw [HN.out]; exact h8) (VK.out.below hb6) (k := fn) (by rw [HN.out]; omega)
          injection hA with hA
          injection hA with hA hA'
          subst hA hA'
          by_cases hc3 : kd s dn = kd s fn
          rotate_left
          · have HF : Hid (declsOk s ⟨name, decls, ac, cm, un⟩ = false) := declsOk_false fun h => hc3 (h.all _ HF0.out _ (List.mem_of_getElem? HD.out)).kres
            generalize kd s dn = kx at *
            generalize kd s fn = kz at *
            have n1 : (kx == kz) = false := by simp [hc3]
            have n2 : ((kx : Int) == (kz : Int)) = false := by simp; omega
            have n3 : ((kx : Int) != (kz : Int)) = true := by simp; omega
            go_wp2_with fail
            go_quiet (fail)
            go_wp2
            go_ret
            exact ⟨ret_bool HF.out.symm, hbW.trans (below_drewN (hb6.mono hbW.size) _)⟩
          have HC3 := Lib.hid hc3
          rw [hc3] at kc1
          generalize kd s fn = ky at kc1 kc2
          clear hc3
          have HDO : Hid (DeclOk s ⟨fargs, fn⟩ ⟨dargs, dn⟩) := by
            refine ⟨by have := HLD.out; have := HLF.out; simp only; omega, by rw [HN.out]; exact hc2, fun x hx => ?_, HC3.out, fun i a b ha hb' => ?_⟩
            · rw [HN.out]
              obtain ⟨i, hi⟩ := List.mem_iff_getElem?.1 hx
              have hil : i < dargs.length := (List.getElem?_eq_some_iff.1 hi).1
              have hil2 := HLD.out
              have hil3 := HLF.out
              exact (HA2.out i x fargs[i] (by omega) hi (List.getElem?_eq_getElem (by omega))).1
            · have hil : i < fargs.length := (List.getElem?_eq_some_iff.1 hb').1
              have hil3 := HLF.out
              exact (HA2.out i a b (by omega) ha hb').2
          go_wp2_with fail
          go_quiet (fail)
          go_wp2
          go_roundw
          case rel =>
            refine ⟨k + 1, by omega, by go_num, fun i d hi hd => ?_, below_drewN hb6 _⟩
            by_cases hik : i = k
            · subst hik
              rw [HD.out] at hd
              injection hd with hd
              rw [← hd]
              exact HDO.out
            · exact HALL.out i d (by omega) hd
          case measure => simp [intOf]; omega
    · obtain rfl : m = k := by omega
      have HF : Hid (declsOk s ⟨name, decls, ac, cm, un⟩ = true) := declsOk_true (by
        have hm' := HM.out
        have hl' := HLF.out
        refine ⟨by simp only; omega, by simp only; omega, fun f hf => ?_, fun f hf d hd => ?_⟩
        · rw [HF0.out] at hf
          injection hf with hf
          subst hf
          simp only
          omega
        · rw [HF0.out] at hf
          injection hf with hf
          subst hf
          obtain ⟨i, hi⟩ := List.mem_iff_getElem?.1 hd
          exact HALL.out i d (by have hil : i < decls.length := (List.getElem?_eq_some_iff.1 hi).1; omega) hi)
      go_wp2
      go_ret
      exact ⟨ret_bool HF.out.symm, hbW.trans (hb.mono hbW.size)⟩
end Go.Proofs.YtpbikjkjfojjiaaGreat

