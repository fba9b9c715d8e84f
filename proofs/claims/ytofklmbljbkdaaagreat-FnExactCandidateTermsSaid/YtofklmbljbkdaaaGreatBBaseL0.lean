/-
  Part of a proof: So, Ls, Vc, Vd, Vi, Vs, Eb.
-/
import Derived.Test.YtofklmbljbkdaaaGreatBBase0
import Derived.Test.YtofklmbljbkdaaaGreatBBase1
import Derived.Test.YtofklmbljbkdaaaGreatBBase2
import Derived.Test.YtofklmbljbkdaaaGreatBBase3
import Derived.Test.YtofklmbljbkdaaaGreatBBase4
import Derived.Shelf.SlSortCmp.WholeK
import Derived.Shelf.SlSortCmp.NoneTotal
import Derived.Lib.QuietBelow
import Derived.Shelf.SlLaysF0
import Derived.Test.YtofklmbljbkdaaaGreatChecked
set_option linter.unusedSimpArgs false
set_option linter.unusedVariables false
namespace Go.Proofs.YtofklmbljbkdaaaGreat
open Go.RowKit
open Go.Sort (grow HoldsK putRowK flatK SWO PermIn SortedIn Holds mapBlock onCells putRow putCells get_flatK size_flatK)
theorem kept_grow {w w' : World} (h : Kept True (fun _ => False) w.heap.size w w') : ∃ q os, w' = grow (w.drewN q) os := by
  obtain ⟨p, hp⟩ := regrown_of_below (w := w) (w' := w') ⟨h.os, h.tape, h.output, h.size, fun k hk => h.block k hk id⟩
  have hd := h.drawn trivial
  have e : p.d = w'.drawn := by rw [hp]; rfl
  refine ⟨w'.drawn - w.drawn, p.os, ?_⟩
  have e2 : redrawn w p.d = w.drewN (w'.drawn - w.drawn) := by
    unfold redrawn World.drewN
    rw [e, show w.drawn + (w'.drawn - w.drawn) = w'.drawn by omega]
  rw [← e2]
  exact hp
abbrev SRow (w : World) (S : Nat → Prop) (Q : List C → Prop) := {x : List C × List Value // Q x.1 ∧ RepVals w S x.1 x.2}
theorem srows_of {w : World} {S : Nat → Prop} {b k : Nat} {Q : List C → Prop} (hk : ∀ r, Q r → r.length = k) : ∀ (rows : List (List C)) (off : Nat), (∀ r ∈ rows, Q r) → RepRows w S b off rows → ∃ l : List (SRow w S Q), l.map (fun x => x.1.1) = rows ∧ ∀ (i : Nat) x, l[i]? = some x → ∀ j u, x.1.2[j]? = some u → w.cell? ⟨b, off + i * k + j, none⟩ = some u
  | [], off, _, _ => ⟨[], rfl, fun i x h => by simp at h⟩
  | r :: rs, off, hQ, h => by
    simp only [RepRows] at h
    obtain ⟨vs, h1, h2⟩ := h.1.vals
    obtain ⟨l, e, hl⟩ := srows_of hk rs (off + r.length) (fun x hx => hQ x (List.mem_cons_of_mem _ hx)) h.2
    have hr := hQ r List.mem_cons_self
    refine ⟨⟨(r, vs), hr, h1⟩ :: l, by simp [e], fun i x hi j u hj => ?_⟩
    cases i with
    | zero =>
      simp only [List.getElem?_cons_zero, Option.some.injEq] at hi
      subst hi
      have := h2 j u hj
      rwa [Nat.zero_mul, Nat.add_zero]
    | succ i =>
      have := hl i x (by simpa using hi) j u hj
      rw [hk r hr] at this
      rwa [show off + (i + 1) * k + j = off + k + i * k + j by rw [Nat.succ_mul]; omega]
theorem reprows_of {w W : World} {S S2 : Nat → Prop} {b k : Nat} {Q : List C → Prop} (hk : ∀ r, Q r → r.length = k) (hv : ∀ x : SRow w S Q, RepVals W S2 x.1.1 x.1.2) : ∀ (l : List (SRow w S Q)) (off : Nat), (∀ (i : Nat) x, l[i]? = some x → ∀ j u, x.1.2[j]? = some u → W.cell? ⟨b, off + i * k + j, none⟩ = some u) → RepRows W S2 b off (l.map (fun x => x.1.1))
  | [], off, _ => by simp [RepRows]
  | x :: l, off, h => by
    simp only [List.map_cons, RepRows]
    refine ⟨RepRow.of_vals _ _ off (hv x) fun j u hj => ?_, ?_⟩
    · have := h 0 x rfl j u hj
      rwa [Nat.zero_mul, Nat.add_zero] at this
    · rw [hk _ x.2.1]
      refine reprows_of hk hv l (off + k) fun i y hi j u hj => ?_
      have := h (i + 1) y (by simpa using hi) j u hj
      rwa [show off + (i + 1) * k + j = off + k + i * k + j by rw [Nat.succ_mul]; omega] at this
theorem cells_holdsK {α : Type} [Inhabited α] {enc : α → List Value} {k : Nat} {W : World} {b : Nat} {d : Array α} (hk : ∀ x, (enc x).length = k) (h : HoldsK enc k W b 0 d) {i : Nat} {x : α} (hi : d.toList[i]? = some x) {j : Nat} {u : Value} (hj : (enc x)[j]? = some u) : W.cell? ⟨b, 0 + i * k + j, none⟩ = some u := by
  have hil : i < d.size := by have := (List.getElem?_eq_some_iff.1 hi).1; simpa using this
  have hjl : j < k := by have := (List.getElem?_eq_some_iff.1 hj).1; rwa [hk] at this
  have ht : i * k + j < d.size * k := by
    have := Nat.mul_le_mul_right k (show i + 1 ≤ d.size from hil)
    rw [Nat.succ_mul] at this
    omega
  have h1 := (h (i * k + j) (by rw [size_flatK]; exact ht)).1
  rw [get_flatK _ _ _ _ ht, show (i * k + j) / k = i by rw [Nat.add_comm, Nat.add_mul_div_right _ _ (by omega), Nat.div_eq_of_lt hjl, Nat.zero_add], show (i * k + j) % k = j by rw [Nat.add_comm, Nat.add_mul_mod_self_right, Nat.mod_eq_of_lt hjl]] at h1
  have e1 : d[i]! = x := by
    rw [getElem!_pos d i hil]
    have := (List.getElem?_eq_some_iff.1 hi).2
    simpa using this
  have e2 : (enc x)[j]! = u := by
    rw [getElem!_pos (enc x) j (by rw [hk]; exact hjl)]
    exact (List.getElem?_eq_some_iff.1 hj).2
  rw [e1, e2, ← Nat.add_assoc] at h1
  exact h1
theorem holdsK_of {α : Type} [Inhabited α] {enc : α → List Value} {k : Nat} {w : World} {b : Nat} {l : List α} (hk : ∀ x, (enc x).length = k) (hf : ∀ o, w.frozen? ⟨b, o, none⟩ = false) (h : ∀ (i : Nat) x, l[i]? = some x → ∀ j u, (enc x)[j]? = some u → w.cell? ⟨b, 0 + i * k + j, none⟩ = some u) : HoldsK enc k w b 0 l.toArray := by
  intro t ht
  refine ⟨?_, hf _⟩
  rw [size_flatK] at ht
  have ht' : t < l.length * k := by simpa using ht
  have k0 : 0 < k := by rcases Nat.eq_zero_or_pos k with e | e; · subst e; simp at ht'
                        · exact e
  have hi : t / k < l.length := Nat.div_lt_of_lt_mul (by rw [Nat.mul_comm]; exact ht')
  have hj : t % k < k := Nat.mod_lt _ k0
  rw [get_flatK _ _ _ _ ht]
  have e1 : l.toArray[t / k]! = l[t / k] := by rw [getElem!_pos _ _ (by simpa using hi)]; rfl
  rw [e1, getElem!_pos _ _ (by rw [hk]; exact hj)]
  have := h (t / k) l[t / k] (List.getElem?_eq_getElem hi) (t % k) _ (List.getElem?_eq_getElem (by rw [hk]; exact hj))
  rwa [show 0 + t / k * k + t % k = 0 + t by have := Nat.div_add_mod' t k; omega] at this
theorem RepVals.one {w : World} {S : Nat → Prop} : ∀ {cs : List C} {us : List Value}, cs.all okCell = true → RepVals w S cs us → ∀ v ∈ us, v.oneCell' = true
  | [], [], _, _, v, h => by simp at h
  | c :: cs, u :: us, hc, h, v, hv => by
    simp only [List.all_cons, Bool.and_eq_true] at hc
    simp only [RepVals] at h
    rcases List.mem_cons.1 hv with rfl | hv
    · exact okCell_one hc.1 h.1
    · exact RepVals.one hc.2 h.2 v hv
  | [], _ :: _, _, h, _, _ => by simp [RepVals] at h
  | _ :: _, [], _, h, _, _ => by simp [RepVals] at h
theorem sw_block {α : Type} [Inhabited α] {enc : α → List Value} {k : Nat} {w : World} {b n : Nat} {d : Array α} {os : Array Obj} {cur : Array Value} {ty : Nat} (hh : w.heap[b]? = some (.cells cur ty (0, 0))) : (sortWorldK enc k w b 0 n d os).heap[b]? = some (.cells (putCells id 0 (flatK enc k d) cur) ty (0, 0)) := by
  have hb : b < w.heap.size := (Array.getElem?_eq_some_iff.1 hh).1
  show ((w.heap.modify b (onCells (putCells id 0 (flatK enc k d)))) ++ os)[b]? = _
  rw [Array.getElem?_append_left (by simpa using hb), Array.getElem?_modify, if_pos rfl, hh]
  rfl
theorem sw_other {α : Type} [Inhabited α] {enc : α → List Value} {k : Nat} {w : World} {b n j : Nat} {d : Array α} {os : Array Obj} (hj : j < w.heap.size) (hne : j ≠ b) : (sortWorldK enc k w b 0 n d os).heap[j]? = w.heap[j]? := by
  show ((w.heap.modify b (onCells (putCells id 0 (flatK enc k d)))) ++ os)[j]? = _
  rw [Array.getElem?_append_left (by simpa using hj), Array.getElem?_modify, if_neg (fun e => hne e.symm)]
theorem sw_size {α : Type} [Inhabited α] {enc : α → List Value} {k : Nat} {w : World} {b n : Nat} {d : Array α} {os : Array Obj} : w.heap.size ≤ (sortWorldK enc k w b 0 n d os).heap.size := by
  show _ ≤ ((w.heap.modify b (onCells (putCells id 0 (flatK enc k d)))) ++ os).size
  simp
set_option maxHeartbeats 2000000 in
theorem conI_sort {P : Program} (hP : e1.P = P) {ρ : Go.Shelf.Ren} (L : SlLaysF0.n6 P ρ) {k ty : Nat} (aE : ∀ w, (isAgg (ρ.t 24)).run P w = .ok true w) (zE : ∀ w, (Go.sizeOf (ρ.t 24)).run P w = .ok k w) (hbody : hasBody P (ρ.f 6) = true) {g : FuncId} (eg : ∀ args w, (callFunc g args).run P w = .ok (.enter g args) w)
    {rows rows' : List (List C)} {cf : List C → List C → Int} (hlen : rows.length < 4611686018427387904) (hg : ∀ a ∈ rows, ∀ b ∈ rows, Con e1 g [.agg a, .agg b] [.one (.lit (.int .i64 (cf a b)))])
    (h1 : ∀ a ∈ rows, ¬ cf a a < 0) (h2 : ∀ a ∈ rows, ∀ b ∈ rows, ∀ c ∈ rows, cf a b < 0 → cf b c < 0 → cf a c < 0) (h3 : ∀ a ∈ rows, ∀ b ∈ rows, ∀ c ∈ rows, ¬ cf a b < 0 → ¬ cf b c < 0 → ¬ cf a c < 0)
    (hu : ∀ l : List (List C), l.Perm rows → (∀ (i j : Nat) a b, i < j → l[i]? = some a → l[j]? = some b → ¬ cf b a < 0) → l = rows') : ConI e1 (ρ.f 6) ty k rows [.one (.fn g [])] rows' [] := by
  refine ⟨by rw [hP]; exact hbody, fun w S v0 vs hS hE hvE hG hbuf hargs => ?_⟩
  rw [hP]
  match vs, hargs with
  | [u], hargs =>
    obtain ⟨⟨us, rfl, hus⟩, _⟩ : (∃ us : List Value, u = .func (.func g) #[] us.toArray ∧ RepVals w S [] us) ∧ True := by simpa [DsRel, DRel, Rep] using hargs
    have hus0 : us = [] := by cases us with
      | nil => rfl
      | cons _ _ => simp [RepVals] at hus
    subst hus0
    obtain ⟨h0, hrl, hcase⟩ := hbuf
    by_cases hne : rows = []
    · subst hne
      have hr' : rows' = [] := (hu [] (List.Perm.refl _) (fun i j a b _ h => by simp at h)).symm
      subst hr'
      have hform : ∃ p cap, v0 = .slice p 0 cap := by
        rcases hcase with ⟨_, a, rfl⟩ | ⟨b, cap, cur, rfl, _⟩
        · exact ⟨a, 0, rfl⟩
        · exact ⟨_, cap, rfl⟩
      obtain ⟨p, cap, hv0⟩ := hform
      rw [hv0]
      refine (AnyF.slices_SortFunc_none (P := P) L p cap _ w).mono ?_
      rintro e w' ⟨rfl, rfl⟩
      rw [← hv0]
      have hs : (fun b => S b ∨ (w'.heap.size ≤ b ∧ b < w'.heap.size)) = S := by
        funext b
        exact propext ⟨fun h => h.elim id (fun h => absurd h.2 (by omega)), .inl⟩
      refine ⟨_, rfl, Kept.refl .., trivial, ?_, [], rfl, trivial⟩
      rw [hs]
      exact ⟨h0, hrl, hcase⟩
    · rcases hcase with ⟨e, _⟩ | ⟨b, cap, cur, rfl, hc, hbz, hSb, hh, hle, hmx, hcs, hrows⟩
      · exact absurd e hne
      have hkr : ∀ r, r ∈ rows → r.length = k := fun r hr => (hrl r hr).1
      obtain ⟨l, hl, hcell⟩ := srows_of (k := k) (Q := fun r => r ∈ rows) hkr rows 0 (fun r h => h) hrows
      have hll : l.length = rows.length := by have := congrArg List.length hl; rwa [List.length_map] at this
      obtain ⟨x0, hx0⟩ : ∃ x, x ∈ l := List.exists_mem_of_ne_nil _ (fun e => hne (List.eq_nil_of_length_eq_zero (by rw [← hll, e]; rfl)))
      letI : Inhabited (SRow w S (fun r => r ∈ rows)) := ⟨x0⟩
      have hk : ∀ x : SRow w S (fun r => r ∈ rows), x.1.2.length = k := fun x => by rw [x.2.2.len]; exact hkr _ x.2.1
      have h1c : ∀ x : SRow w S (fun r => r ∈ rows), ∀ v ∈ x.1.2, v.oneCell' = true := fun x => RepVals.one (hrl _ x.2.1).2 x.2.2
      have hH : HoldsK (fun x : SRow w S (fun r => r ∈ rows) => x.1.2) k w b 0 l.toArray := holdsK_of hk (fun o => frozen_of_row w b o cur ty hh) hcell
      have keepV : ∀ (m : Nat) (os : Array Obj) (dk : Array (SRow w S (fun r => r ∈ rows))) (S2 : Nat → Prop), (∀ b, S b → S2 b) → ∀ x : SRow w S (fun r => r ∈ rows), RepVals (sortWorldK (fun x : SRow w S (fun r => r ∈ rows) => x.1.2) k w b 0 m dk os) S2 x.1.1 x.1.2 := fun m os dk S2 hS2 x =>
        RepVals.keep2 sw_size (fun b' o hb' => cell_of_heap (sw_other (hS b' hb').1 (fun e : b' = b => hSb (by rw [← e]; exact hb'))) o) hS2 x.2.2
      have hcmp : CmpLays P g #[] (fun x : SRow w S (fun r => r ∈ rows) => x.1.2) k (fun x y => cf x.1.1 y.1.1) b 0 l.toArray.size w := by
        intro m os dk hdk x y
        have hc := (hg _ x.2.1 _ y.2.1).2 (sortWorldK (fun x : SRow w S (fun r => r ∈ rows) => x.1.2) k w b 0 m dk os) S [.agg x.1.2.toArray, .agg y.1.2.toArray] (fun b' hb' => ⟨Nat.lt_of_lt_of_le (hS b' hb').1 sw_size, id⟩) (fun b' h => h.elim) trivial
          ⟨⟨_, rfl, keepV m os dk S (fun _ h => h) x⟩, ⟨_, rfl, keepV m os dk S (fun _ h => h) y⟩, trivial⟩
        rw [hP] at hc
        refine hc.mono ?_
        rintro e w' ⟨v, rfl, hK, _, hv⟩
        have hv : v = .int .i64 (cf x.1.1 y.1.1) := by simpa [retA, ARel, DRel, Rep] using hv
        exact ⟨by rw [hv], kept_grow hK⟩
      have hO : SWO (ltOf (fun x y : SRow w S (fun r => r ∈ rows) => cf x.1.1 y.1.1)) := by
        refine ⟨fun x => ?_, fun x y z => ?_, fun x y z => ?_⟩ <;> simp only [ltOf, decide_eq_false_iff_not, decide_eq_true_eq]
        · exact h1 _ x.2.1
        · exact h2 _ x.2.1 _ y.2.1 _ z.2.1
        · exact h3 _ x.2.1 _ y.2.1 _ z.2.1
      have hsort := AnyQ.slices_SortFunc L k aE zE (fun x : SRow w S (fun r => r ∈ rows) => x.1.2) hk h1c (fun x y => cf x.1.1 y.1.1) hO g #[] b 0 cap l.toArray w eg hcmp hH hbz (by simp only [List.size_toArray]; omega)
      have hlz : l.toArray.size = rows.length := by simpa using hll
      rw [hlz] at hsort
      refine hsort.mono ?_
      rintro e w' ⟨rfl, d', n, os, hp, hs, rfl⟩
      obtain ⟨hp1, _, hp3⟩ := hp
      rw [hlz] at hp1
      have hex : ∀ a : Array (SRow w S (fun r => r ∈ rows)), a.size = rows.length → a.extract 0 rows.length = a := fun a ha => by rw [← ha]; simp
      rw [hex d' hp1, hex _ hlz] at hp3
      have hperm : (d'.toList.map (fun x => x.1.1)).Perm rows := by
        have := hp3.map (fun x : SRow w S (fun r => r ∈ rows) => x.1.1)
        rwa [show l.toArray.toList = l from rfl, hl] at this
      have hrows' : d'.toList.map (fun x => x.1.1) = rows' := hu _ hperm fun i j a c hij ha hc => by
        simp only [List.getElem?_map, Option.map_eq_some_iff] at ha hc
        obtain ⟨x, hx, rfl⟩ := ha
        obtain ⟨y, hy, rfl⟩ := hc
        have hjl : j < rows.length := by have := (List.getElem?_eq_some_iff.1 hy).1; simpa [hp1] using this
        have := hs i j (Nat.zero_le _) hij hjl
        have ex : d'[i]! = x := by
          rw [getElem!_pos d' i (by omega)]
          have := (List.getElem?_eq_some_iff.1 hx).2
          simpa using this
        have ey : d'[j]! = y := by
          rw [getElem!_pos d' j (by omega)]
          have := (List.getElem?_eq_some_iff.1 hy).2
          simpa using this
        rw [ex, ey] at this
        simpa [ltOf] using this
      have hlr : rows'.length = rows.length := by rw [← hrows', List.length_map, Array.length_toList, hp1]
      have hW : HoldsK (fun x : SRow w S (fun r => r ∈ rows) => x.1.2) k (sortWorldK (fun x : SRow w S (fun r => r ∈ rows) => x.1.2) k w b 0 n d' os) b 0 d' := SWK.holds (d0 := l.toArray) ⟨n, os, rfl⟩ hbz hH (by rw [hp1, hlz])
      have hvb : vblk (.slice (some ⟨b, 0, none⟩) rows.length cap) = some b := by simp only [vblk]; rw [if_neg (by omega)]
      refine ⟨_, rfl, ⟨rfl, rfl, rfl, fun _ => Nat.le_add_right _ _, sw_size, fun j hj hn => sw_other hj (fun e => hn (.inr (by rw [hvb, e])))⟩, trivial, ⟨h0, fun r hr => ?_, .inr ⟨b, cap, _, by rw [hlr], hc, Nat.lt_of_lt_of_le hbz sw_size, fun hn => ?_, sw_block hh, by omega, hmx, by simp [putCells, hcs], ?_⟩⟩, [], rfl, trivial⟩
      · rw [← hrows'] at hr
        exact hrl r (hperm.mem_iff.1 hr)
      · rcases hn with hn | hn
        · exact hSb hn
        · omega
      · rw [← hrows']
        exact reprows_of (Q := fun r => r ∈ rows) hkr (keepV n os d' _ (fun b hb => .inl hb)) d'.toList 0 fun i x hi j u hj => cells_holdsK hk hW hi hj
end Go.Proofs.YtofklmbljbkdaaaGreat
namespace Go.Proofs.YtofklmbljbkdaaaGreat
open Go.Shelf
def sortT_ren : Ren := ⟨fun | 6 => 192 | 15 => 227 | 14 => 226 | 28 => 252 | 29 => 253 | 20 => 244 | 21 => 245 | 22 => 246 | 23 => 247 | 24 => 248 | 25 => 249 | 26 => 250 | 27 => 251 | 46 => 259 | 47 => 260 | 48 => 261 | 49 => 262 | 50 => 263 | 57 => 267 | n => n, fun | 22 => 71 | 24 => 73 | 25 => 238 | 3 => 3 | 39 => 267 | 0 => 0 | 53 => 294 | 55 => 296 | 4 => 4 | 46 => 287 | 45 => 286 | 50 => 291 | 5 => 5 | 9 => 9 | 66 => 298 | 70 => 302 | 76 => 307 | 77 => 308 | n => n, fun | n => n⟩
theorem sortT : Go.Proofs.SlLaysF0.n6 Tryz.prog sortT_ren := {
  mixed := by kernel_rfl,
  f6 := ⟨Tryz.f192.name, by decide, Tryz.func192.trans (congrArg some (by kernel_rfl))⟩,
  f14 := ⟨Tryz.f226.name, by decide, Tryz.func226.trans (congrArg some (by kernel_rfl))⟩,
  f15 := Tryz.func227.trans (congrArg some (by kernel_rfl)),
  f20 := ⟨Tryz.f244.name, by decide, Tryz.func244.trans (congrArg some (by kernel_rfl))⟩,
  f21 := ⟨Tryz.f245.name, by decide, Tryz.func245.trans (congrArg some (by kernel_rfl))⟩,
  f22 := ⟨Tryz.f246.name, by decide, Tryz.func246.trans (congrArg some (by kernel_rfl))⟩,
  f23 := ⟨Tryz.f247.name, by decide, Tryz.func247.trans (congrArg some (by kernel_rfl))⟩,
  f24 := ⟨Tryz.f248.name, by decide, Tryz.func248.trans (congrArg some (by kernel_rfl))⟩,
  f25 := ⟨Tryz.f249.name, by decide, Tryz.func249.trans (congrArg some (by kernel_rfl))⟩,
  f26 := ⟨Tryz.f250.name, by decide, Tryz.func250.trans (congrArg some (by kernel_rfl))⟩,
  f27 := ⟨Tryz.f251.name, by decide, Tryz.func251.trans (congrArg some (by kernel_rfl))⟩,
  f28 := Tryz.func252.trans (congrArg some (by kernel_rfl)),
  f29 := Tryz.func253.trans (congrArg some (by kernel_rfl)),
  f46 := ⟨Tryz.f259.name, by decide, Tryz.func259.trans (congrArg some (by kernel_rfl))⟩,
  f47 := Tryz.func260.trans (congrArg some (by kernel_rfl)),
  f48 := Tryz.func261.trans (congrArg some (by kernel_rfl)),
  f49 := ⟨Tryz.f262.name, by decide, Tryz.func262.trans (congrArg some (by kernel_rfl))⟩,
  f50 := ⟨Tryz.f263.name, by decide, Tryz.func263.trans (congrArg some (by kernel_rfl))⟩,
  f57 := ⟨Tryz.f267.name, by decide, Tryz.func267.trans (congrArg some (by kernel_rfl))⟩,
  t0 := Tryz.underlying0,
  a0 := Tryz.isAgg0,
  z0 := Tryz.sizeOf0,
  v0 := Tryz.zeroValue0,
  t3 := Tryz.underlying3,
  a3 := Tryz.isAgg3,
  z3 := Tryz.sizeOf3,
  v3 := Tryz.zeroValue3,
  t4 := Tryz.underlying4,
  a4 := Tryz.isAgg4,
  z4 := Tryz.sizeOf4,
  v4 := Tryz.zeroValue4,
  t5 := Tryz.underlying5,
  a5 := Tryz.isAgg5,
  z5 := Tryz.sizeOf5,
  v5 := Tryz.zeroValue5,
  t9 := Tryz.underlying9,
  a9 := Tryz.isAgg9,
  z9 := Tryz.sizeOf9,
  v9 := Tryz.zeroValue9,
  t22 := Tryz.underlying71,
  a22 := Tryz.isAgg71,
  z22 := Tryz.sizeOf71,
  v22 := Tryz.zeroValue71,
  t25 := Tryz.underlying238,
  a25 := Tryz.isAgg238,
  z25 := Tryz.sizeOf238,
  v25 := Tryz.zeroValue238,
  t39 := Tryz.underlying267,
  a39 := Tryz.isAgg267,
  z39 := Tryz.sizeOf267,
  v39 := Tryz.zeroValue267,
  t45 := Tryz.underlying286,
  a45 := Tryz.isAgg286,
  z45 := Tryz.sizeOf286,
  v45 := Tryz.zeroValue286,
  t46 := Tryz.underlying287,
  a46 := Tryz.isAgg287,
  z46 := Tryz.sizeOf287,
  v46 := Tryz.zeroValue287,
  t50 := Tryz.underlying291,
  a50 := Tryz.isAgg291,
  z50 := Tryz.sizeOf291,
  v50 := Tryz.zeroValue291,
  t53 := Tryz.underlying294,
  a53 := Tryz.isAgg294,
  z53 := Tryz.sizeOf294,
  v53 := Tryz.zeroValue294,
  t55 := Tryz.underlying296,
  a55 := Tryz.isAgg296,
  z55 := Tryz.sizeOf296,
  v55 := Tryz.zeroValue296,
  t66 := Tryz.underlying298,
  a66 := Tryz.isAgg298,
  z66 := Tryz.sizeOf298,
  v66 := Tryz.zeroValue298,
  t70 := Tryz.underlying302,
  a70 := Tryz.isAgg302,
  z70 := Tryz.sizeOf302,
  v70 := Tryz.zeroValue302,
  t76 := Tryz.underlying307,
  a76 := Tryz.isAgg307,
  z76 := Tryz.sizeOf307,
  v76 := Tryz.zeroValue307,
  t77 := Tryz.underlying308,
  a77 := Tryz.isAgg308,
  z77 := Tryz.sizeOf308,
  v77 := Tryz.zeroValue308 }
end Go.Proofs.YtofklmbljbkdaaaGreat
namespace Go.Proofs.YtofklmbljbkdaaaGreat
open Go.RowKit
def zTm0 : Tm := .mk 0 ByteArray.empty 0 []
def ddT : Option Tm → List Tm → List Tm
  | _, [] => []
  | none, x :: xs => x :: ddT (some x) xs
  | some y, x :: xs => if cmpTm x y = 0 then ddT (some x) xs else x :: ddT (some x) xs
def lastO : Option Tm → List Tm → Option Tm
  | p, [] => p
  | _, x :: xs => lastO (some x) xs
theorem ddT_snoc : ∀ (p : Option Tm) (l : List Tm) (x : Tm), ddT p (l ++ [x]) = match lastO p l with
    | none => ddT p l ++ [x]
    | some y => if cmpTm x y = 0 then ddT p l else ddT p l ++ [x]
  | none, [], x => rfl
  | some y, [], x => by simp only [List.nil_append, ddT, lastO]
  | none, a :: l, x => by
    simp only [List.cons_append, ddT, lastO, ddT_snoc (some a) l x]
    split
    · rfl
    · split <;> rfl
  | some y, a :: l, x => by
    simp only [List.cons_append, ddT, lastO, ddT_snoc (some a) l x]
    split
    · rfl
    · split
      · rfl
      · split <;> rfl
theorem lastO_take : ∀ (p : Option Tm) (l : List Tm) (i : Nat) (y : Tm), l[i]? = some y → lastO p (l.take (i + 1)) = some y
  | p, [], i, y, h => by simp at h
  | p, x :: xs, 0, y, h => by simp at h; subst h; simp [lastO]
  | p, x :: xs, i + 1, y, h => by
    simp only [List.take_succ_cons, lastO]
    exact lastO_take (some x) xs i y (by simpa using h)
theorem ddT_step {l : List Tm} {i : Nat} {x y : Tm} (hx : l[i + 1]? = some x) (hy : l[i]? = some y) : ddT none (l.take (i + 2)) = if cmpTm x y = 0 then ddT none (l.take (i + 1)) else ddT none (l.take (i + 1)) ++ [x] := by
  have e : l.take (i + 2) = l.take (i + 1) ++ [x] := by simp [List.take_add_one, hx]
  rw [e, ddT_snoc, lastO_take none l i y hy]
theorem ddT_one {l : List Tm} {x : Tm} (hx : l[0]? = some x) : ddT none (l.take 1) = [x] := by
  cases l with
  | nil => simp at hx
  | cons a l => simp at hx; subst hx; simp [ddT]
def Up (l : List Tm) : Prop := l.Pairwise fun a b => cmpTm a b ≤ 0
theorem ddT_up : ∀ (l : List Tm) (y : Tm), Up l → (∀ x ∈ l, cmpTm y x ≤ 0) → Asc (ddT (some y) l) ∧ (∀ z ∈ ddT (some y) l, cmpTm y z < 0) ∧ ∀ z, (z = y ∨ z ∈ ddT (some y) l) ↔ (z = y ∨ z ∈ l)
  | [], y, _, _ => ⟨List.Pairwise.nil, fun z h => by simp [ddT] at h, fun z => by simp [ddT]⟩
  | x :: xs, y, hu, hy => by
    have h1 := List.pairwise_cons.1 hu
    have hyx := hy x List.mem_cons_self
    obtain ⟨k1, k2, k3⟩ := ddT_up xs x h1.2 h1.1
    simp only [ddT]
    by_cases h0 : cmpTm x y = 0
    · rw [if_pos h0]
      have e := cmpTm_zero h0
      subst e
      exact ⟨k1, k2, fun z => by rw [k3 z]; simp⟩
    · rw [if_neg h0]
      have hlt : cmpTm y x < 0 := by rw [cmpTm_neg x y] at hyx ⊢; omega
      refine ⟨List.pairwise_cons.2 ⟨k2, k1⟩, fun z hz => ?_, fun z => ?_⟩
      · rcases List.mem_cons.1 hz with rfl | hz
        · exact hlt
        · exact cmpTm_lt_trans hlt (k2 z hz)
      · have := k3 z
        simp only [List.mem_cons]
        rw [this]
theorem ddT_dist {l : List Tm} (h : Up l) : ddT none l = distTm l := by
  cases l with
  | nil => rfl
  | cons x xs =>
    have h1 := List.pairwise_cons.1 h
    obtain ⟨k1, k2, k3⟩ := ddT_up xs x h1.2 h1.1
    simp only [ddT]
    refine (distTm_eq (List.pairwise_cons.2 ⟨k2, k1⟩) fun t => ?_).symm
    simp only [List.mem_cons]
    exact k3 t
def sortTm (l : List Tm) : List Tm := l.mergeSort fun a b => decide (cmpTm a b ≤ 0)
theorem sortTm_perm (l : List Tm) : (sortTm l).Perm l := List.mergeSort_perm l _
theorem sortTm_up (l : List Tm) : Up (sortTm l) := by
  have h := List.pairwise_mergeSort (le := fun a b => decide (cmpTm a b ≤ 0)) (fun a b c h1 h2 => by simp only [decide_eq_true_eq] at *; exact cmpTm_le_trans h1 h2) (fun a b => by
    simp only [Bool.or_eq_true, decide_eq_true_eq]
    have := cmpTm_neg a b
    omega) l
  exact h.imp fun h => by simpa using h
theorem up_perm : ∀ {l l' : List Tm}, Up l → Up l' → l.Perm l' → l = l'
  | [], l', _, _, h => by have := h.length_eq; cases l' with | nil => rfl | cons _ _ => simp at this
  | x :: xs, [], _, _, h => by have := h.length_eq; simp at this
  | x :: xs, y :: ys, h1, h2, h => by
    have p1 := List.pairwise_cons.1 h1
    have p2 := List.pairwise_cons.1 h2
    have hx : x ∈ y :: ys := h.mem_iff.1 List.mem_cons_self
    have hy : y ∈ x :: xs := h.mem_iff.2 List.mem_cons_self
    have e : x = y := by
      rcases List.mem_cons.1 hx with e | hx
      · exact e
      · rcases List.mem_cons.1 hy with e | hy
        · exact e.symm
        · have a1 := p2.1 x hx
          have a2 := p1.1 y hy
          refine cmpTm_zero ?_
          rw [cmpTm_neg x y] at a1
          omega
    subst e
    rw [up_perm p1.2 p2.2 h.cons_inv]
theorem distTm_perm {l l' : List Tm} (h : l.Perm l') : distTm l = distTm l' := (distTm_asc l).ext (distTm_asc l') fun t => by rw [mem_distTm, mem_distTm, h.mem_iff]
mutual
theorem encTm_inj : ∀ {a b : Tm}, encTm a = encTm b → a = b
  | .mk o n s a, .mk o' n' s' a', h => by
    simp only [encTm, List.cons.injEq, C.lit.injEq, C.sl.injEq, Value.int.injEq, Value.string.injEq, true_and, and_true] at h
    obtain ⟨rfl, rfl, rfl, h⟩ := h
    rw [encTms_inj h]
theorem encTms_inj : ∀ {a b : List Tm}, encTms a = encTms b → a = b
  | [], [], _ => rfl
  | [], _ :: _, h => by simp [encTms] at h
  | _ :: _, [], h => by simp [encTms] at h
  | x :: xs, y :: ys, h => by
    simp only [encTms, List.cons.injEq] at h
    rw [encTm_inj h.1, encTms_inj h.2]
end
open Classical in
noncomputable def unT (r : List C) : Tm := if h : ∃ t, r = encTm t then h.choose else zTm0
theorem unT_enc (t : Tm) : unT (encTm t) = t := by
  have h : ∃ t', encTm t = encTm t' := ⟨t, rfl⟩
  unfold unT
  rw [dif_pos h]
  exact (encTm_inj h.choose_spec).symm
theorem map_unT (l : List Tm) : (encTms l).map unT = l := by
  rw [encTms_eq, List.map_map]
  conv => rhs; rw [← List.map_id l]
  exact List.map_congr_left fun t _ => unT_enc t
theorem conI_10 {f : FuncId} {ty sz : Nat} {rows rows' : List (List C)} {args r : List D} (h : ConI e1 f ty sz rows args rows' r) : ConI e0 f ty sz rows args rows' r :=
  ⟨h.1, fun w S v0 vs h1 h2 h3 h4 h5 h6 => (h.2 w S v0 vs h1 h2 h3 h4 h5 h6).mono fun en w' ⟨v, k1, k2, k3⟩ => ⟨v, k1, ⟨k2.os, k2.tape, k2.output, fun d => d.elim, k2.size, k2.block⟩, k3⟩⟩
theorem conI_sortT (ts : List Tm) (hl : ts.length ≤ 4000000) : ConI e0 192 73 4 (encTms ts) [.one (.fn 193 [])] (encTms (sortTm ts)) [] := by
  have hrow : ∀ a ∈ encTms ts, a = encTm (unT a) := fun a ha => by
    rw [encTms_eq] at ha
    obtain ⟨t, _, rfl⟩ := List.mem_map.1 ha
    rw [unT_enc]
  exact conI_10 (conI_sort (P := Tryz.prog) rfl sortT (k := 4) (ty := 73) Tryz.isAgg73 Tryz.sizeOf73 (by kernel_rfl) (g := 193) (enters_of Tryz.func193 (by kernel_rfl) rfl) (rows := encTms ts) (rows' := encTms (sortTm ts)) (cf := fun a b => cmpTm (unT a) (unT b)) (by rw [encTms_len]; omega)
    (fun a ha b hb => by
      have h := con_cmp1 (unT a) (unT b)
      rwa [← hrow a ha, ← hrow b hb] at h)
    (fun a _ => by rw [cmpTm_self]; omega) (fun a _ b _ c _ h1 h2 => cmpTm_lt_trans h1 h2) (fun a _ b _ c _ h1 h2 => by
      rw [cmpTm_neg (unT b) (unT a)] at h1
      rw [cmpTm_neg (unT c) (unT b)] at h2
      rw [cmpTm_neg (unT c) (unT a)]
      have := cmpTm_le_trans (a := unT c) (b := unT b) (c := unT a) (by omega) (by omega)
      omega)
    (fun l hp hs => by
      have hmem : ∀ a ∈ l, a = encTm (unT a) := fun a ha => hrow a (hp.mem_iff.1 ha)
      have hp2 : (l.map unT).Perm ts := by have := hp.map unT; rwa [map_unT] at this
      have hup : Up (l.map unT) := by
        refine List.pairwise_iff_getElem.2 fun i j hi hj hij => ?_
        simp only [List.getElem_map]
        simp only [List.length_map] at hi hj
        have := hs i j l[i] l[j] hij (List.getElem?_eq_getElem hi) (List.getElem?_eq_getElem hj)
        rw [cmpTm_neg (unT l[j]) (unT l[i])]
        omega
      have e := up_perm (sortTm_up ts) hup ((sortTm_perm ts).trans hp2.symm)
      rw [e, encTms_eq, List.map_map]
      conv => lhs; rw [← List.map_id l]
      exact List.map_congr_left fun a ha => hmem a ha))
theorem con_implSame (a b : Tm) : Con e0 153 [.agg (encTm a), .agg (encTm b)] [.one (.lit (.bool (decide (cmpTm a b = 0))))] := by
  refine gI (ts := [.slot 4]) 31 Tryz.func153 ?_
  (have F := @tmz; refine gG ?_; clear F)
  refine gB ?_
  (have F := @tmz; refine gC (con_1 (con_cmp1 a b)) ?_; clear F)
  (have F := @tmz; refine gR ?_; clear F)
  (have F := @tmz; refine gG ?_; exact gTd)
end Go.Proofs.YtofklmbljbkdaaaGreat
namespace Go.Proofs.YtofklmbljbkdaaaGreat
open Go.RowKit
def RCut (a : Option Addr) (cap ty sz : Nat) (rows : List (List C)) (r : List D) (pm : List Bk) : Prop := r = [.one (.lit (.slice a rows.length cap))] ∧ pm = [.buf (some (a, cap)) ty sz rows]
theorem sliced_zero (a : Option Addr) (k cap sz : Nat) : sliced a 0 k cap sz = .slice a k cap := by
  cases a with
  | none => simp [sliced]
  | some p =>
    have : p.add 0 = p := by cases p; simp [Addr.add]
    simp [sliced, this]
theorem lenNrm {m : List (Nat × Bk)} {a : Option Addr} {n cap : Nat} : lenA m (some true) [nrm m (.d (.one (.lit (.slice a n cap))))] = some (.d (.one (.lit (.int .i64 (n : Int))))) := by
  show lenA m (some true) [nrmBK m a n cap (bufK a n cap m)] = _
  cases bufK a n cap m with
  | none => rfl
  | some k =>
    show lenA m (some true) [nrmB a n cap k (gm m k)] = _
    cases hg : gm m k with
    | none => rfl
    | some bk =>
      cases bk with
      | var o cs => rfl
      | set E G => rfl
      | buf o ty sz rows =>
        cases o with
        | none => rfl
        | some q =>
          obtain ⟨a', cap'⟩ := q
          simp only [nrmB]
          split
          · rename_i h
            show lenS (bufA (gm m k)) = _
            rw [hg, h.2.1]
            rfl
          · rfl
theorem lenSub {m : List (Nat × Bk)} {a : Option Addr} {l h cap sz : Nat} : lenA m (some true) [nrm m (.d (.one (.lit (sliced a l h cap sz))))] = some (.d (.one (.lit (.int .i64 ((h - l : Nat) : Int))))) := lenNrm
theorem encTms_set (l : List Tm) (k : Nat) (t : Tm) : (encTms l).set k (encTm t) = encTms (l.set k t) := by rw [encTms_eq, encTms_eq, List.map_set]
theorem encTms_take (l : List Tm) (k : Nat) : (encTms l).take k = encTms (l.take k) := by rw [encTms_eq, encTms_eq, List.map_take]
theorem set_take' {α : Type} {l : List α} {i : Nat} {x : α} (h : i < l.length) : (l.set i x).take (i + 1) = l.take i ++ [x] := by
  rw [List.take_add_one, List.take_set_of_le (Nat.le_refl _)]
  simp [h]
theorem drop_at {l l' : List Tm} {m : Nat} (h : l.drop m = l'.drop m) (i : Nat) : l[m + i]? = l'[m + i]? := by
  rw [← List.getElem?_drop, ← List.getElem?_drop, h]
theorem dd_short {ts : List Tm} (h : ts.length < 2) : ddT none ts = ts := by
  match ts, h with
  | [], _ => rfl
  | [x], _ => rfl
set_option maxHeartbeats 8000000 in
set_option maxRecDepth 100000 in
theorem conP_compact (ts : List Tm) (hl : ts.length ≤ 4000000) (a : Option Addr) (cap : Nat) : ConP e0 194 [.one (.lit (.slice a ts.length cap)), .one (.fn 153 [])] [.buf (some (a, cap)) 73 4 (encTms ts)] (RCut a cap 73 4 (encTms (ddT none ts))) := by
  refine gIP (ts := [.slot 4]) [1000] 562984581629171 Tryz.func194 ?_
  by_cases h2 : ts.length < 2
  · have q1 : ((ts.length : Int) < 2) = True := eq_true (by omega)
    (have F := And.intro @q1 @tmz; refine gG ?_; clear F)
    rw [dd_short h2]
    exact (have F := encTms_len; gTP (R := RCut a cap 73 4 (encTms ts)) [1000] ⟨by rw [encTms_len], rfl⟩)
  have q1 : ((ts.length : Int) < 2) = False := eq_false (by omega)
  (have F := And.intro @q1 @tmz; refine gG ?_; clear F)
  clear q1
  obtain ⟨t0, ht0⟩ : ∃ t, ts[0]? = some t := ⟨_, List.getElem?_eq_getElem (by omega)⟩
  (have F := @tmz; refine gL (ι := Nat) [4, 5, 6, 7, 15, 28, 35, 49] [] (fun x => [(5, .d (.one (.lit (.int .i64 (x : Int)))))]) (fun x => []) (fun x => 1 ≤ x ∧ x ≤ ts.length ∧ ddT none (ts.take x) = ts.take x) (fun x => ts.length - x) (1) (⟨Nat.le_refl _, by omega, by rw [ddT_one ht0]; cases ts with | nil => simp at ht0 | cons y ys => simp at ht0; simp [ht0]⟩) (fun x hx => ?_); clear F)
  obtain ⟨hx1, hxn, hxd⟩ := hx
  by_cases hlt : x < ts.length
  rotate_left
  · obtain rfl : x = ts.length := by omega
    have q1 : ((ts.length : Int) < (ts.length : Int)) = False := eq_false (by omega)
    rw [List.take_length] at hxd
    (have F := And.intro @q1 @tmz; refine gG ?_; clear F)
    rw [hxd]
    exact (have F := encTms_len; gTP (R := RCut a cap 73 4 (encTms ts)) [1000] ⟨by rw [encTms_len], rfl⟩)
  obtain ⟨u, hu⟩ : ∃ t, ts[x]? = some t := ⟨_, List.getElem?_eq_getElem hlt⟩
  obtain ⟨z, rfl⟩ : ∃ z, x = z + 1 := ⟨x - 1, by omega⟩
  obtain ⟨v, hv⟩ : ∃ t, ts[z]? = some t := ⟨_, List.getElem?_eq_getElem (by omega)⟩
  have q1 : (((z + 1 : Nat) : Int) < (ts.length : Int)) = True := eq_true (by omega)
  have w1 : IntKind.i64.wrap (((z + 1 : Nat) : Int) - 1) = (z : Int) := wrapN (by omega) (by omega) (by omega)
  have w2 : IntKind.i64.wrap (((z + 1 : Nat) : Int) + 1) = ((z + 1 + 1 : Nat) : Int) := wrapN (by omega) (by omega) (by omega)
  have hz1 : z + 1 < ts.length := hlt
  have hz0 : z < ts.length := by omega
  have hst := ddT_step hu hv
  generalize hxx : z + 1 = x at *
  rw [show z + 2 = x + 1 by omega] at hst
  (have F := And.intro @q1 @tmz; refine gG ?_; clear F)
  refine gB ?_
  (have F := And.intro @q1 (And.intro @tmz (And.intro @hu (And.intro @hv (And.intro @w1 (And.intro @hz1 (And.intro @hz0 @encTms_len)))))); refine gC (con_implSame u v) ?_; clear F)
  (have F := And.intro @q1 @tmz; refine gR ?_; clear F)
  by_cases h0 : cmpTm u v = 0
  rotate_left
  · have q3 : decide (cmpTm u v = 0) = false := decide_eq_false h0
    rw [if_neg h0, hxd] at hst
    (have F := And.intro @q3 @w2; refine gG ?_; exact ⟨x + 1, ⟨by omega, hlt, by rw [hst]; simp [List.take_add_one, hu]⟩, gw, gw, by omega⟩)
  have q3 : decide (cmpTm u v = 0) = true := decide_eq_true h0
  rw [if_pos h0, hxd] at hst
  (have F := And.intro @q3 @tmz; have NN : StopAt 7 := trivial; refine gGn ?_; clear F NN)
  refine gB ?_
  (have F := And.intro @q3 @tmz; refine gP 2 ?_; clear F)
  have F := encTms_len
  refine gSub 1000 x ts.length ⟨by omega, by rw [encTms_len]; exact Nat.le_refl _⟩ ?_
  clear F
  (have F := @tmz; refine gR ?_; clear F)
  (have F := @tmz; refine gG ?_; clear F)
  (have F := @tmz; refine gL (ι := Nat × Nat × List Tm) [5, 7, 35, 49] [1000] (fun y => [(7, .d (.one (.lit (.int .i64 (y.1 : Int))))), (5, .d (.one (.lit (.int .i64 (y.2.1 : Int)))))]) (fun y => [(1000, .buf (some (a, cap)) 73 4 (encTms y.2.2))]) (fun y => 1 ≤ y.1 ∧ x + y.1 ≤ ts.length ∧ y.2.1 + 1 ≤ x + y.1 ∧ y.2.2.length = ts.length ∧ y.2.2.take y.2.1 = ddT none (ts.take (x + y.1)) ∧ y.2.2.drop (x + y.1 - 1) = ts.drop (x + y.1 - 1)) (fun y => ts.length - y.1) ((1, x, ts)) (⟨Nat.le_refl _, hlt, Nat.le_refl _, rfl, hst.symm, rfl⟩) (fun y hy => ?_); clear F)
  obtain ⟨j, k, us⟩ := y
  obtain ⟨h1, h2', h3, h4, h5, h6⟩ := hy
  simp only at h1 h2' h3 h4 h5 h6
  dsimp only
  have hn4 : ts.length = us.length := h4.symm
  by_cases hj : j < ts.length - x
  · obtain ⟨i, rfl⟩ : ∃ i, j = i + 1 := ⟨j - 1, by omega⟩
    obtain ⟨u1, hu1⟩ : ∃ t, ts[x + i + 1]? = some t := ⟨_, List.getElem?_eq_getElem (by omega)⟩
    obtain ⟨v1, hv1⟩ : ∃ t, ts[x + i]? = some t := ⟨_, List.getElem?_eq_getElem (by omega)⟩
    have e1 : us[x + (i + 1)]? = some u1 := by
      rw [← hu1, show x + (i + 1) - 1 = x + i by omega] at *
      exact drop_at h6 1
    have e2 : us[x + i]? = some v1 := by
      rw [← hv1, show x + (i + 1) - 1 = x + i by omega] at *
      exact drop_at h6 0
    have q4 : (((i + 1 : Nat) : Int) < ((ts.length - x : Nat) : Int)) = True := eq_true (by omega)
    have w3 : IntKind.i64.wrap (((i + 1 : Nat) : Int) - 1) = (i : Int) := wrapN (by omega) (by omega) (by omega)
    have w4 : IntKind.i64.wrap (((i + 1 : Nat) : Int) + 1) = ((i + 1 + 1 : Nat) : Int) := wrapN (by omega) (by omega) (by omega)
    have hst2 := ddT_step hu1 hv1
    rw [show x + i + 2 = x + (i + 1 + 1) by omega, show x + i + 1 = x + (i + 1) by omega, ← h5] at hst2
    (have F := And.intro @q4 (And.intro @lenSub @tmz); have NN : StopAt 11 := trivial; refine gGn ?_; clear F NN)
    refine gB ?_
    (have F := And.intro @q4 @tmz; refine gP 3 ?_; clear F)
    have F := encTms_len
    refine gSubAq (l := x) (h := ts.length) (rows := encTms us) 1000 (i + 1) ⟨by omega, by rw [encTms_len]; omega⟩ ?_
    clear F
    (have F := And.intro @tmz (And.intro @e1 @w3); refine gP 4 ?_; clear F)
    have F := encTms_len
    refine gSubAq (l := x) (h := ts.length) (rows := encTms us) 1000 i ⟨by omega, by rw [encTms_len]; omega⟩ ?_
    clear F
    (have F := And.intro @tmz @e2; refine gC (con_implSame u1 v1) ?_; clear F)
    (have F := @tmz; refine gR ?_; clear F)
    by_cases h7 : cmpTm u1 v1 = 0
    · have q5 : decide (cmpTm u1 v1 = 0) = true := decide_eq_true h7
      rw [if_pos h7] at hst2
      (have F := And.intro @q5 @w4; refine gG ?_; exact ⟨(i + 1 + 1, k, us), ⟨by dsimp only; omega, by dsimp only; omega, by dsimp only; omega, h4, hst2.symm, by rw [show x + (i + 1 + 1) - 1 = x + (i + 1) - 1 + 1 by omega, ← List.drop_drop, ← List.drop_drop, h6]⟩, gw, gw, by omega⟩)
    · have q5 : decide (cmpTm u1 v1 = 0) = false := decide_eq_false h7
      rw [if_neg h7] at hst2
      obtain ⟨ok, hok⟩ : ∃ t, us[k]? = some t := ⟨_, List.getElem?_eq_getElem (by omega)⟩
      have w5 : IntKind.i64.wrap ((k : Int) + 1) = ((k + 1 : Nat) : Int) := wrapN (by omega) (by omega) (by omega)
      have hkl : k < us.length := by omega
      (have F := And.intro @q5 @tmz; have NN : StopAt 12 := trivial; refine gGn ?_; clear F NN)
      refine gB ?_
      (have F := And.intro @q5 @tmz; refine gP 4 ?_; clear F)
      have F := encTms_len
      refine gSubA (l := x) (h := ts.length) (rows := encTms us) 1000 (i + 1) ⟨by omega, by rw [encTms_len]; omega⟩ ?_
      clear F
      (have F := And.intro @tmz (And.intro @e1 (And.intro @hok (And.intro @hn4 (And.intro @hkl @encTms_set)))); refine gR ?_; clear F)
      (have F := And.intro @w4 (And.intro @w5 @hn4); refine gG ?_; exact ⟨(i + 1 + 1, k + 1, us.set k u1), ⟨by dsimp only; omega, by dsimp only; omega, by dsimp only; omega, by rw [List.length_set]; exact h4, by rw [hst2, set_take' hkl], by rw [List.drop_set_of_lt (by omega), show x + (i + 1 + 1) - 1 = x + (i + 1) - 1 + 1 by omega, ← List.drop_drop, ← List.drop_drop, h6]⟩, gw, gw, by omega⟩)
  · have q4 : ((j : Int) < ((ts.length - x : Nat) : Int)) = False := eq_false (by omega)
    have hjn : x + j = ts.length := by omega
    rw [hjn, List.take_length] at h5
    have hkl : k < us.length := by omega
    (have F := And.intro @q4 (And.intro @lenSub @tmz); have NN : StopAt 14 := trivial; refine gGn ?_; clear F NN)
    refine gB ?_
    (have F := And.intro @q4 @tmz; refine gP 2 ?_; clear F)
    have F := And.intro encTms_len hn4
    refine gSub 1000 k us.length ⟨by omega, by rw [encTms_len]; exact Nat.le_refl _⟩ ?_
    rw [show us.length = (encTms us).length by rw [encTms_len]]
    refine gClear 1000 (by rw [encTms_len]; exact hkl) ?_
    clear F
    have hRl : ((encTms us).take k ++ List.replicate ((encTms us).length - k) [C.lit (Value.int IntKind.i64 0), C.lit (Value.string ByteArray.empty), C.lit (Value.int IntKind.i64 0), C.sl []]).length = us.length := by simp [encTms_len]; omega
    have hRt : ((encTms us).take k ++ List.replicate ((encTms us).length - k) [C.lit (Value.int IntKind.i64 0), C.lit (Value.string ByteArray.empty), C.lit (Value.int IntKind.i64 0), C.sl []]).take k = encTms (ddT none ts) := by
      rw [List.take_append_of_le_length (by simp [encTms_len]; omega), List.take_take, Nat.min_self, encTms_take, h5]
    generalize (encTms us).take k ++ List.replicate ((encTms us).length - k) [C.lit (Value.int IntKind.i64 0), C.lit (Value.string ByteArray.empty), C.lit (Value.int IntKind.i64 0), C.sl []] = R at hRl hRt ⊢
    (have F := @tmz; refine gR ?_; clear F)
    (have F := And.intro @q4 @tmz; have NN : StopAt 15 := trivial; refine gGn ?_; clear F NN)
    refine gB ?_
    (have F := And.intro @q4 @tmz; refine gP 2 ?_; clear F)
    have F := And.intro hRl hn4
    refine gSub 1000 0 k ⟨by omega, by rw [hRl]; omega⟩ ?_
    clear F
    rw [sliced_zero]
    (have F := @tmz; refine gR ?_; clear F)
    (have F := @tmz; refine gG ?_; clear F)
    refine pE [1000] [1000] (re_cut k (by rw [hRl]; omega)) ?_
    rw [hRt]
    have hk2 : k = (encTms (ddT none ts)).length := by rw [encTms_len, ← h5, List.length_take]; omega
    exact (have F := encTms_len; gTP (R := RCut a cap 73 4 (encTms (ddT none ts))) [1000] ⟨by rw [← hk2], rfl⟩)
end Go.Proofs.YtofklmbljbkdaaaGreat
namespace Go.Proofs.YtofklmbljbkdaaaGreat
open Go.RowKit
theorem sortTm_len (ts : List Tm) : (sortTm ts).length = ts.length := (sortTm_perm ts).length_eq
theorem dd_sort (ts : List Tm) : ddT none (sortTm ts) = distTm ts := by rw [ddT_dist (sortTm_up ts), distTm_perm (sortTm_perm ts)]
set_option maxHeartbeats 4000000 in
theorem conP_distinct (ts : List Tm) (hl : ts.length ≤ 4000000) (a : Option Addr) (cap : Nat) : ConP e0 130 [.one (.lit (.slice a ts.length cap))] [.buf (some (a, cap)) 73 4 (encTms ts)] (RCut a cap 73 4 (encTms (distTm ts))) := by
  have hc := conP_compact (sortTm ts) (by rw [sortTm_len]; exact hl) a cap
  rw [sortTm_len, dd_sort] at hc
  refine gIP (ts := [.slot 2]) [1000] 5 Tryz.func130 ?_
  (have F := @tmz; refine gG ?_; clear F)
  refine gB ?_
  (have F := @tmz; refine gCI (conI_sortT ts hl) (by rw [encTms_len, encTms_len, sortTm_len]) ?_; clear F)
  (have F := @tmz; refine gR ?_; clear F)
  (have F := @tmz; refine gG ?_; clear F)
  refine gB ?_
  (have F := @tmz; refine gCP [1000] [1000] (hc) ?_; clear F)
  rintro r pm ⟨rfl, rfl⟩
  simp only [setA, retA, zipM, List.cons_append, List.nil_append]
  (have F := @tmz; refine gR ?_; clear F)
  (have F := @tmz; refine gG ?_; clear F)
  exact (have F := encTms_len; gTP (R := RCut a cap 73 4 (encTms (distTm ts))) [1000] ⟨rfl, rfl⟩)
mutual
theorem vars_len : ∀ t : Tm, (varsTm t).length ≤ 1 + bulkRow (encTm t)
  | .mk op nm so args => by
    have := varss_len args
    simp only [varsTm, encTm, bulkRow, bulkC, encTms_len]
    split
    · simp
    · omega
theorem varss_len : ∀ ts : List Tm, (varsTms ts).length ≤ ts.length + bulkRows (encTms ts)
  | [] => by simp [varsTms]
  | t :: ts => by
    have h1 := vars_len t
    have h2 := varss_len ts
    simp only [varsTms, encTms, bulkRows, List.length_append, List.length_cons]
    omega
end
theorem vars_len2 {t : Tm} (h : bulkRow (encTm t) ≤ 1048576) : (varsTm t).length ≤ 1048576 := by
  obtain ⟨op, nm, so, args⟩ := t
  have := varss_len args
  simp only [varsTm, encTm, bulkRow, bulkC, encTms_len] at h ⊢
  split
  · simp
  · omega
theorem varsTms_snoc : ∀ (l : List Tm) (t : Tm), varsTms (l ++ [t]) = varsTms l ++ varsTm t
  | [], t => by simp [varsTms]
  | x :: xs, t => by simp [varsTms, varsTms_snoc xs t]
theorem varsTms_take {l : List Tm} {i : Nat} {t : Tm} (h : l[i]? = some t) : varsTms (l.take (i + 1)) = varsTms (l.take i) ++ varsTm t := by
  rw [show l.take (i + 1) = l.take i ++ [t] by simp [List.take_add_one, h], varsTms_snoc]
theorem varsTms_le : ∀ (l : List Tm) (i : Nat), (varsTms (l.take i)).length ≤ (varsTms l).length
  | [], i => by simp [varsTms]
  | x :: xs, 0 => by simp [varsTms]
  | x :: xs, i + 1 => by have := varsTms_le xs i; simp only [List.take_succ_cons, varsTms, List.length_append]; omega
def visL (ts args : List Tm) (i : Nat) : List Tm := ts ++ varsTms (args.take i)
theorem visL_0 (ts args : List Tm) : visL ts args 0 = ts := by simp [visL, varsTms]
theorem visL_step {ts args : List Tm} {i : Nat} {b : Tm} (h : args[i]? = some b) : visL ts args (i + 1) = visL ts args i ++ varsTm b := by
  unfold visL
  rw [varsTms_take h, List.append_assoc]
theorem visL_end (ts args : List Tm) : visL ts args args.length = ts ++ varsTms args := by unfold visL; rw [List.take_length]
theorem ktF : kindT Tryz.prog 204 = some .one := by kernel_rfl
theorem ztF : sizeT Tryz.prog 204 = some 1 := by kernel_rfl
theorem otF : zeroT Tryz.prog 204 = some [.lit .nilFunc] := by kernel_rfl
theorem okNilF : okCell (.lit .nilFunc) = true := rfl
theorem okFn {f : FuncId} {cs : List C} : okCell (.fn f cs) = true := rfl
theorem encTms_nil' : encTms [] = [] := by simp [encTms]
theorem gTPn {X : Prop} {P : Program} {ts : List RS} {R : List D → List Bk → Prop} {σ : St} {r : List D} {pm : List Bk} (ks : List Nat) (hR : R r pm) (hx : retQP P ts R .normal σ → X := by first | exact fun h => h | exact fun h => ⟨_, Wk.refl _, h⟩) (hr : resD P σ ts = some r := by first | (simp only [pz, ↓reduceIte, Nat.reduceEqDiff, Nat.reduceAdd, Nat.reduceSub, Nat.reduceMul, Nat.reduceLeDiff, Nat.reduceBEq, Bool.false_eq_true, decide_true, decide_false, Int.reduceLE, Int.reduceToNat, Int.reduceLT, Int.reduceEq, eq_self, Nat.reduceShiftRight, Nat.reduceAnd, Nat.reduceBneDiff, F]; exact rfl) | simp only [pz, ↓reduceIte, Nat.reduceEqDiff, Nat.reduceAdd, Nat.reduceSub, Nat.reduceMul, Nat.reduceLeDiff, Nat.reduceBEq, Bool.false_eq_true, decide_true, decide_false, Int.reduceLE, Int.reduceToNat, Int.reduceLT, Int.reduceEq, eq_self, Nat.reduceShiftRight, Nat.reduceAnd, Nat.reduceBneDiff, F]) (hg : getM σ.m ks = some pm := by first | (simp only [pz, ↓reduceIte, Nat.reduceEqDiff, Nat.reduceAdd, Nat.reduceSub, Nat.reduceMul, Nat.reduceLeDiff, Nat.reduceBEq, Bool.false_eq_true, decide_true, decide_false, Int.reduceLE, Int.reduceToNat, Int.reduceLT, Int.reduceEq, eq_self, Nat.reduceShiftRight, Nat.reduceAnd, Nat.reduceBneDiff]; exact rfl) | simp only [pz, ↓reduceIte, Nat.reduceEqDiff, Nat.reduceAdd, Nat.reduceSub, Nat.reduceMul, Nat.reduceLeDiff, Nat.reduceBEq, Bool.false_eq_true, decide_true, decide_false, Int.reduceLE, Int.reduceToNat, Int.reduceLT, Int.reduceEq, eq_self, Nat.reduceShiftRight, Nat.reduceAnd, Nat.reduceBneDiff]) (hn : ks.Nodup := by decide) (hp : pm.all pinned = true := by simp only [pz, ↓reduceIte, Nat.reduceEqDiff, Nat.reduceAdd, Nat.reduceSub, Nat.reduceMul, Nat.reduceLeDiff, Nat.reduceBEq, Bool.false_eq_true, decide_true, decide_false, Int.reduceLE, Int.reduceToNat, Int.reduceLT, Int.reduceEq, eq_self, Nat.reduceShiftRight, Nat.reduceAnd, Nat.reduceBneDiff]) : X :=
  hx ⟨r, ks, pm, hg, hn, hp, hR, resOk_of hr⟩
def ptr0 (b : Nat) : Value := .pointer (some ⟨b, 0, none⟩)
def RVis (bo bv : Nat) (f : FuncId) (ty : Nat) (ts : List Tm) (r : List D) (pm : List Bk) : Prop := ∃ a cap, r = [] ∧ pm = [.var (some bo) [.lit (.slice a ts.length cap)], .buf (some (a, cap)) ty 4 (encTms ts), .var (some bv) [.fn f [.lit (ptr0 bo), .lit (ptr0 bv)]]]
set_option maxHeartbeats 8000000 in
set_option maxRecDepth 100000 in
theorem conP_visit_of (t : Tm) (ts : List Tm) (a : Option Addr) (cap bo bv : Nat) (hne : bo ≠ bv) (hb : bulkRow (encTm t) ≤ 1048576) (hl : ts.length + (varsTm t).length ≤ 4000000)
    (h : ∀ x ∈ t.args, ∀ (us : List Tm) (a : Option Addr) (cap : Nat), us.length + (varsTm x).length ≤ 4000000 → ConP e0 154 [.agg (encTm x), .one (.lit (ptr0 bo)), .one (.lit (ptr0 bv))] [.var (some bo) [.lit (.slice a us.length cap)], .buf (some (a, cap)) 73 4 (encTms us), .var (some bv) [.fn 154 [.lit (ptr0 bo), .lit (ptr0 bv)]]] (RVis bo bv 154 73 (us ++ varsTm x))) :
    ConP e0 154 [.agg (encTm t), .one (.lit (ptr0 bo)), .one (.lit (ptr0 bv))] [.var (some bo) [.lit (.slice a ts.length cap)], .buf (some (a, cap)) 73 4 (encTms ts), .var (some bv) [.fn 154 [.lit (ptr0 bo), .lit (ptr0 bv)]]] (RVis bo bv 154 73 (ts ++ varsTm t)) := by
  obtain ⟨op, nm, so, args⟩ := t
  have hc : encTm (.mk op nm so args) = [.lit (.int .i64 op), .lit (.string nm), .lit (.int .i64 so), .sl (encTms args)] := by simp only [encTm]
  have hn1 : (bo = bv) = False := eq_false hne
  have hn2 : (bv = bo) = False := eq_false (fun e => hne e.symm)
  simp only [Tm.args] at h
  simp only [encTm, bulkRow, bulkC, encTms_len] at hb
  simp only [ptr0] at h ⊢
  refine gIP (ts := []) [1001, 1000, 1002] 15728943 Tryz.func154 ?_
  by_cases ho : op = -1
  · have q1 : (op = -1) = True := eq_true ho
    have e1 : varsTm (.mk op nm so args) = [.mk (-1) nm so []] := by simp only [varsTm, if_pos ho]
    rw [e1] at hl ⊢
    simp only [List.length_cons, List.length_nil, Nat.zero_add] at hl
    have hm : ts.length + 1 ≤ maxApp := by unfold maxApp; omega
    have c1 : encTm (.mk (-1) nm so []) = [.lit (.int .i64 (-1)), .lit (.string nm), .lit (.int .i64 so), .sl []] := by simp only [encTm, encTms]
    (have F := And.intro @hc (And.intro @q1 @tmz); have NN : StopAt 2 := trivial; refine gGn ?_; clear F NN)
    have hR : ∀ (a2 : Option Addr) (cap2 : Nat), RVis bo bv 154 73 (ts ++ [.mk (-1) nm so []]) [] [.var (some bo) [.lit (.slice a2 (ts.length + 1) cap2)], .buf (some (a2, cap2)) 73 4 (encTms ts ++ [[.lit (.int .i64 (-1)), .lit (.string nm), .lit (.int .i64 so), .sl []]]), .var (some bv) [.fn 154 [.lit (.pointer (some ⟨bo, 0, none⟩)), .lit (.pointer (some ⟨bv, 0, none⟩))]]] := fun a2 cap2 => ⟨a2, cap2, rfl, by
      rw [show encTms (ts ++ [.mk (-1) nm so []]) = encTms ts ++ [[.lit (.int .i64 (-1)), .lit (.string nm), .lit (.int .i64 so), .sl []]] by rw [encTms_eq, List.map_append, ← encTms_eq, List.map_cons, List.map_nil, c1], List.length_append]
      rfl⟩
    have a1 : (ts.length < ts.length + 1) = True := eq_true (Nat.lt_succ_self _)
    have a2 : ∀ Z : List C, (encTms ts ++ [Z])[ts.length]? = some Z := fun Z => by rw [List.getElem?_append_right (by rw [encTms_len]; exact Nat.le_refl _), encTms_len, Nat.sub_self]; rfl
    have a3 : ∀ Z X : List C, (encTms ts ++ [Z]).set ts.length X = encTms ts ++ [X] := fun Z X => by rw [List.set_append_right _ _ (by rw [encTms_len]; exact Nat.le_refl _), encTms_len, Nat.sub_self]; rfl
    have F := And.intro a1 (And.intro a2 (And.intro a3 (And.intro hc (And.intro q1 (And.intro @lenNrm (And.intro hm (And.intro hn1 (And.intro hn2 tmz))))))))
    refine gTree 8 ?_
    refine gT1 8 ?_
    refine gS 17 fun a2 cap2 => ?_
    refine runs_nil ?_
    refine gT2 9 11 ?_ ?_
    · refine runs_nil ?_
      refine gT2 10 11 ?_ ?_
      · refine runs_nil ?_
        refine gT1 11 ?_
        refine runs_nil ?_
        refine gT0 ?_
        (refine wkI ?_; (have F := @tmz; refine gG ?_; clear F); exact (have F := tmz; gTP [1001, 17, 1002] (hR a2 cap2)))
      · refine runs_nil ?_
        refine gT1 10 ?_
        refine runs_nil ?_
        refine gT0 ?_
        (refine wkI ?_; (have F := @tmz; refine gG ?_; clear F); exact (have F := tmz; gTP [1001, 17, 1002] (hR a2 cap2)))
    · refine runs_nil ?_
      refine gT1 9 ?_
      refine runs_nil ?_
      refine gT1 10 ?_
      refine runs_nil ?_
      refine gT0 ?_
      (refine wkI ?_; (have F := @tmz; refine gG ?_; clear F); exact (have F := tmz; gTP [1001, 17, 1002] (hR a2 cap2)))
  · have q1 : (op = -1) = False := eq_false ho
    have e1 : varsTm (.mk op nm so args) = varsTms args := by simp only [varsTm, if_neg ho]
    rw [e1] at hl ⊢
    have hal : args.length ≤ 1048576 := by omega
    (have F := And.intro @hc (And.intro @q1 @tmz); refine gG ?_; clear F)
    (have F := @visL_0; refine gL (ι := Nat × Option Addr × Nat) [5, 22, 23] [1000, 1001, 1002] (fun x => [(22, .d (.one (.lit (.int .i64 (x.1 : Int)))))]) (fun x => [(1001, .var (some bo) [.lit (.slice x.2.1 (visL ts args x.1).length x.2.2)]), (1000, .buf (some (x.2.1, x.2.2)) 73 4 (encTms (visL ts args x.1))), (1002, .var (some bv) [.fn 154 [.lit (.pointer (some ⟨bo, 0, none⟩)), .lit (.pointer (some ⟨bv, 0, none⟩))]])]) (fun x => x.1 ≤ args.length) (fun x => args.length - x.1) ((0, a, cap)) (Nat.zero_le _) (fun x hx => ?_); clear F)
    obtain ⟨i, a2, cap2⟩ := x
    simp only at hx
    dsimp only
    by_cases hlt : i < args.length
    · obtain ⟨b, hg⟩ : ∃ b, args[i]? = some b := ⟨_, List.getElem?_eq_getElem hlt⟩
      have q2 : ((i : Int) < (args.length : Int)) = True := eq_true (by omega)
      have q4 : IntKind.i64.wrap ((i : Int) + 1) = (i : Int) + 1 := IntWalk.i64_in _ (by omega)
      have hvt := varsTms_take hg
      have hle := varsTms_le args (i + 1)
      rw [hvt, List.length_append] at hle
      have hcon := h b (List.mem_of_getElem? hg) (visL ts args i) a2 cap2 (by unfold visL; rw [List.length_append]; omega)
      rw [← visL_step hg] at hcon
      (have F := And.intro @q2 (And.intro @hc (And.intro @encTms_len (And.intro @encTms_get (And.intro @hg @tmz)))); refine gG ?_; clear F)
      refine gB ?_
      (have F := And.intro @ktF (And.intro @hn1 (And.intro @hn2 @tmz)); refine gCP [1001, 1000, 1002] [1001, 1000, 1002] (hcon) ?_; clear F)
      rintro r pm ⟨a3, cap3, rfl, rfl⟩
      simp only [ptr0, setA, retA, zipM, List.cons_append, List.nil_append]
      (have F := @tmz; refine gR ?_; clear F)
      (have F := @q4; refine gG ?_; exact ⟨(i + 1, a3, cap3), hlt, gw, gw, by omega⟩)
    · obtain rfl : i = args.length := by omega
      have q2 : ((args.length : Int) < (args.length : Int)) = False := eq_false (by omega)
      (have F := @q2; refine gG ?_; clear F)
      have hR : RVis bo bv 154 73 (ts ++ varsTms args) [] [.var (some bo) [.lit (.slice a2 (visL ts args args.length).length cap2)], .buf (some (a2, cap2)) 73 4 (encTms (visL ts args args.length)), .var (some bv) [.fn 154 [.lit (.pointer (some ⟨bo, 0, none⟩)), .lit (.pointer (some ⟨bv, 0, none⟩))]]] := by
        rw [← visL_end]
        exact ⟨a2, cap2, rfl, rfl⟩
      exact (have F := tmz; gTPn [1001, 1000, 1002] hR)
theorem conP_visit_n (bo bv : Nat) (hne : bo ≠ bv) (n : Nat) : ∀ (t : Tm), nodesRow (encTm t) < n → bulkRow (encTm t) ≤ 1048576 → ∀ (ts : List Tm) (a : Option Addr) (cap : Nat), ts.length + (varsTm t).length ≤ 4000000 → ConP e0 154 [.agg (encTm t), .one (.lit (ptr0 bo)), .one (.lit (ptr0 bv))] [.var (some bo) [.lit (.slice a ts.length cap)], .buf (some (a, cap)) 73 4 (encTms ts), .var (some bv) [.fn 154 [.lit (ptr0 bo), .lit (ptr0 bv)]]] (RVis bo bv 154 73 (ts ++ varsTm t)) := by
  induction n with
  | zero => exact fun _ h => by omega
  | succ n ih =>
    intro t hn hb ts a cap hl
    refine conP_visit_of t ts a cap bo bv hne hb hl fun x hx us a cap hl2 => ih x ?_ ?_ us a cap hl2
    · obtain ⟨op, nm, so, args⟩ := t
      simp only [encTm, nodesRow, nodesC] at hn
      simp only [Tm.args] at hx
      obtain ⟨i, hi⟩ := List.getElem?_of_mem hx
      have hi' : (encTms args)[i]? = some (encTm x) := by rw [encTms_get, hi]; rfl
      have h1 := nodes_get hi'
      omega
    · obtain ⟨op, nm, so, args⟩ := t
      simp only [encTm, bulkRow, bulkC] at hb
      simp only [Tm.args] at hx
      obtain ⟨i, hi⟩ := List.getElem?_of_mem hx
      have hi' : (encTms args)[i]? = some (encTm x) := by rw [encTms_get, hi]; rfl
      have h1 := bulk_get hi'
      omega
set_option maxHeartbeats 8000000 in
set_option maxRecDepth 100000 in
theorem con_implVars (t : Tm) (hb : bulkRow (encTm t) ≤ 1048576) : Con e0 90 [.agg (encTm t)] [.one (.sl (encTms (varsOf t)))] := by
  have hv := vars_len2 hb
  refine gI (ts := [.slot 2]) 31 Tryz.func90 ?_
  (have F := @tmz; have NN : StopAt 1 := trivial; refine gGn ?_; clear F NN)
  refine gB ?_
  (have F := @tmz; refine gP 1 ?_; clear F)
  refine gO 5 73 4 ?_
  refine gS 5 fun a cap => ?_
  (have F := @tmz; refine gR ?_; clear F)
  (have F := And.intro @otF (And.intro @ztF @tmz); have NN : StopAt 3 := trivial; refine gGn ?_; clear F NN)
  refine pV 3 fun b3 hb3 => ?_
  refine pV 4 fun b4 hb4 => ?_
  have hne : b3 ≠ b4 := fun e => hb4 3 b3 _ (by decide) rfl e.symm
  clear hb3 hb4
  have hn1 : (b3 = b4) = False := eq_false hne
  have hn2 : (b4 = b3) = False := eq_false (fun e => hne e.symm)
  (have F := And.intro @ktF (And.intro @ztF (And.intro @okNilF (And.intro @okFn (And.intro @hn1 (And.intro @hn2 @tmz))))); have NN : StopAt 4 := trivial; refine gGn ?_; clear F NN)
  refine gB ?_
  have hcon := conP_visit_n b3 b4 hne _ t (Nat.lt_succ_self _) (by omega) [] a cap (by simp; omega)
  have hdis := fun (a : Option Addr) (cap : Nat) => conP_distinct (varsTm t) (by omega) a cap
  simp only [ptr0, List.length_nil, List.nil_append, encTms_nil'] at hcon
  (have F := And.intro @ktF (And.intro @hn1 (And.intro @hn2 @tmz)); refine gCP [3, 5, 4] [3, 5, 4] (hcon) ?_; clear F)
  rintro r pm ⟨a2, cap2, rfl, rfl⟩
  simp only [ptr0, setA, retA, zipM, List.cons_append, List.nil_append]
  (have F := @tmz; refine gR ?_; clear F)
  (have F := @tmz; refine gG ?_; clear F)
  refine gB ?_
  (have F := And.intro @hn1 (And.intro @hn2 @tmz); refine gCP [5] [5] (hdis a2 cap2) ?_; clear F)
  rintro r pm ⟨rfl, rfl⟩
  simp only [setA, retA, zipM, List.cons_append, List.nil_append]
  (have F := @tmz; refine gR ?_; clear F)
  refine pD 5 [2] [] ?_ (hs := by simp only [pz, ↓reduceIte, Nat.reduceEqDiff, Nat.reduceAdd, Nat.reduceSub, Nat.reduceMul, Nat.reduceLeDiff, Nat.reduceBEq, Bool.false_eq_true, decide_true, decide_false, Int.reduceLE, Int.reduceToNat, Int.reduceLT, Int.reduceEq, eq_self, Nat.reduceShiftRight, Nat.reduceAnd, Nat.reduceBneDiff]; exact rfl)
  (have F := @tmz; refine gG ?_; exact gTd)
end Go.Proofs.YtofklmbljbkdaaaGreat
namespace Go.Proofs.YtofklmbljbkdaaaGreat
open Go.RowKit
theorem con_l5Var (nm : ByteArray) (so : Int) : Con e0 210 [.one (.lit (.string nm)), .one (.lit (.int .i64 so))] [.agg (encTm (.mk (-1) nm so []))] := by
  have c1 : encTm (.mk (-1) nm so []) = [.lit (.int .i64 (-1)), .lit (.string nm), .lit (.int .i64 so), .sl []] := by simp only [encTm, encTms]
  rw [c1]
  refine gI (ts := [.cell 4 73]) 19 Tryz.func210 ?_
  (have F := @e0P; refine gG ?_; exact gTd)
theorem insTm_step {t x : Tm} {ts : List Tm} {i : Nat} (hx : ts[i]? = some x) (h : insTm t ts = ts.take i ++ insTm t (ts.drop i)) (hc : cmpTm x t < 0) : insTm t ts = ts.take (i + 1) ++ insTm t (ts.drop (i + 1)) := by
  obtain ⟨hl, e⟩ := List.getElem?_eq_some_iff.1 hx
  rw [h, List.drop_eq_getElem_cons hl, e, insTm, if_pos hc]
  simp [List.take_add_one, hx]
theorem insTm_same {t x : Tm} {ts : List Tm} {i : Nat} (hx : ts[i]? = some x) (h : insTm t ts = ts.take i ++ insTm t (ts.drop i)) (hc : cmpTm x t = 0) : insTm t ts = ts := by
  obtain ⟨hl, e⟩ := List.getElem?_eq_some_iff.1 hx
  rw [h, List.drop_eq_getElem_cons hl, e, insTm, if_neg (by omega), if_pos hc, ← e, ← List.drop_eq_getElem_cons hl, List.take_append_drop]
theorem insTm_here {t x : Tm} {ts : List Tm} {i : Nat} (hx : ts[i]? = some x) (h : insTm t ts = ts.take i ++ insTm t (ts.drop i)) (h1 : ¬ cmpTm x t < 0) (h2 : ¬ cmpTm x t = 0) : insTm t ts = ts.take i ++ [t] ++ ts.drop i := by
  obtain ⟨hl, e⟩ := List.getElem?_eq_some_iff.1 hx
  rw [h, List.drop_eq_getElem_cons hl, e, insTm, if_neg h1, if_neg h2]
  simp
theorem insTm_end {t : Tm} {ts : List Tm} {i : Nat} (hi : ts.length ≤ i) (h : insTm t ts = ts.take i ++ insTm t (ts.drop i)) : insTm t ts = ts.take i ++ [t] ++ ts.drop i := by
  rw [h, List.drop_eq_nil_of_le hi, insTm]
  simp
theorem encTms_app (a b : List Tm) : encTms (a ++ b) = encTms a ++ encTms b := by rw [encTms_eq, encTms_eq, encTms_eq, List.map_append]
theorem encTms_drop (l : List Tm) (k : Nat) : (encTms l).drop k = encTms (l.drop k) := by rw [encTms_eq, encTms_eq, List.map_drop]
theorem encTms_one (t : Tm) : encTms [t] = [encTm t] := by simp [encTms]
set_option maxHeartbeats 8000000 in
set_option maxRecDepth 100000 in
theorem con_l5Insert (ts : List Tm) (t : Tm) (hts : okTms ts) (ht : okTm t) (hl : ts.length ≤ 8000000) : Con e0 124 [.one (.sl (encTms ts)), .agg (encTm t)] [.one (.sl (encTms (insTm t ts)))] := by
  refine gI (ts := [.slot 4]) 8590459003 Tryz.func124 ?_
  (have F := @tmz; refine gG ?_; clear F)
  (have F := @tmz; refine gL (ι := Nat) [5, 19] [] (fun x => [(5, .d (.one (.lit (.int .i64 (x : Int)))))]) (fun x => []) (fun x => x ≤ ts.length ∧ insTm t ts = ts.take x ++ insTm t (ts.drop x)) (fun x => ts.length - x) (0) (⟨Nat.zero_le _, rfl⟩) (fun x hx => ?_); clear F)
  obtain ⟨hi, hf⟩ := hx
  by_cases hlt : x < ts.length
  · obtain ⟨a, ha⟩ : ∃ n, ts[x]? = some n := ⟨_, List.getElem?_eq_getElem hlt⟩
    have q1 : ((x : Int) < (ts.length : Int)) = True := eq_true (by omega)
    have q4 : IntKind.i64.wrap ((x : Int) + 1) = (x : Int) + 1 := IntWalk.i64_in _ (by omega)
    have hcmp := con_specCmp (hts.mem (List.mem_of_getElem? ha)) ht
    (have F := And.intro @q1 @tmz; refine gG ?_; clear F)
    refine gB ?_
    (have F := And.intro @q1 (And.intro @tmz @ha); refine gC (hcmp) ?_; clear F)
    by_cases hc : cmpTm a t < 0
    · have q2 : (cmpTm a t < 0) = True := eq_true hc
      (have F := And.intro @q1 (And.intro @q2 @tmz); refine gR ?_; clear F)
      have hs := insTm_step ha hf hc
      (have F := And.intro @q4 @q2; refine gG ?_; exact ⟨x + 1, ⟨hlt, hs⟩, gw, gw, by omega⟩)
    · have q2 : (cmpTm a t < 0) = False := eq_false hc
      (have F := And.intro @q1 (And.intro @q2 @tmz); refine gR ?_; clear F)
      (have F := And.intro @q1 (And.intro @q2 @tmz); refine gG ?_; clear F)
      refine gB ?_
      (have F := And.intro @q1 (And.intro @tmz @ha); refine gC (con_l5Same (hts.mem (List.mem_of_getElem? ha)) ht) ?_; clear F)
      by_cases h0 : cmpTm a t = 0
      · have q3 : decide (cmpTm a t = 0) = true := decide_eq_true h0
        (have F := And.intro @q1 (And.intro @q3 @tmz); refine gR ?_; clear F)
        rw [insTm_same ha hf h0]
        (have F := And.intro @q3 @tmz; refine gG ?_; exact gTd)
      · have q3 : decide (cmpTm a t = 0) = false := decide_eq_false h0
        (have F := And.intro @q1 (And.intro @q3 @tmz); refine gR ?_; clear F)
        have hins := insTm_here ha hf hc h0
        (have F := And.intro @q3 @tmz; have NN : StopAt 6 := trivial; refine gGn ?_; clear F NN)
        rw [hins, encTms_app, encTms_app, encTms_one, ← encTms_take, ← encTms_drop]
        have hxl : ((x : Int) ≤ (ts.length : Int)) = True := eq_true (by omega)
        have r1 : rowsB 4 ((encTms ts).take x) = true := by rw [encTms_take]; exact rb_tm _
        have r2 : rowsB 4 ((encTms ts).drop x) = true := by rw [encTms_drop]; exact rb_tm _
        have n1 : ((encTms ts).take x).length ≤ 8000000 := by rw [List.length_take, encTms_len]; omega
        have n2 : ((encTms ts).drop x).length ≤ 8000000 := by rw [List.length_drop, encTms_len]; omega
        have n3 : ((encTms ts).take x).length + 1 ≤ maxApp := by unfold maxApp; omega
        have n4 : ((encTms ts).take x).length + 1 + ((encTms ts).drop x).length ≤ maxApp := by unfold maxApp; omega
        have F := And.intro r1 (And.intro r2 (And.intro hxl (And.intro n3 (And.intro n4 tmz))))
        refine gA 7 4 ?_ (.inl rfl) ?_
        · show 0 + _ ≤ maxApp
          unfold maxApp; omega
        clear F
        (have F := And.intro @r1 (And.intro @r2 (And.intro @hxl (And.intro @n3 (And.intro @n4 @tmz)))); refine gR ?_; clear F)
        have tkA : (encTms ts).take ts.length = encTms ts := by rw [← encTms_len ts, List.take_length]
        have n5 : ((encTms ts).take x ++ [encTm t]).length + ((encTms ts).drop x).length ≤ maxApp := by simp only [List.length_append, List.length_cons, List.length_nil]; omega
        have hll : ((ts.length : Int) ≤ (ts.length : Int)) = True := eq_true (Int.le_refl _)
        (have F := And.intro @r1 (And.intro @r2 (And.intro @hxl (And.intro @n3 (And.intro @n4 (And.intro @n5 (And.intro @hll (And.intro @tkA @tmz))))))); refine gG ?_; exact gTz [4])
  · have q1 : ((x : Int) < (ts.length : Int)) = False := eq_false (by omega)
    have hins := insTm_end (by omega) hf
    (have F := And.intro @q1 @tmz; have NN : StopAt 6 := trivial; refine gGn ?_; clear F NN)
    rw [hins, encTms_app, encTms_app, encTms_one, ← encTms_take, ← encTms_drop]
    have hxl : ((x : Int) ≤ (ts.length : Int)) = True := eq_true (by omega)
    have r1 : rowsB 4 ((encTms ts).take x) = true := by rw [encTms_take]; exact rb_tm _
    have r2 : rowsB 4 ((encTms ts).drop x) = true := by rw [encTms_drop]; exact rb_tm _
    have n1 : ((encTms ts).take x).length ≤ 8000000 := by rw [List.length_take, encTms_len]; omega
    have n2 : ((encTms ts).drop x).length ≤ 8000000 := by rw [List.length_drop, encTms_len]; omega
    have n3 : ((encTms ts).take x).length + 1 ≤ maxApp := by unfold maxApp; omega
    have n4 : ((encTms ts).take x).length + 1 + ((encTms ts).drop x).length ≤ maxApp := by unfold maxApp; omega
    have F := And.intro r1 (And.intro r2 (And.intro hxl (And.intro n3 (And.intro n4 tmz))))
    refine gA 7 4 ?_ (.inl rfl) ?_
    · show 0 + _ ≤ maxApp
      unfold maxApp; omega
    clear F
    (have F := And.intro @r1 (And.intro @r2 (And.intro @hxl (And.intro @n3 (And.intro @n4 @tmz)))); refine gR ?_; clear F)
    have tkA : (encTms ts).take ts.length = encTms ts := by rw [← encTms_len ts, List.take_length]
    have n5 : ((encTms ts).take x ++ [encTm t]).length + ((encTms ts).drop x).length ≤ maxApp := by simp only [List.length_append, List.length_cons, List.length_nil]; omega
    have hll : ((ts.length : Int) ≤ (ts.length : Int)) = True := eq_true (Int.le_refl _)
    (have F := And.intro @r1 (And.intro @r2 (And.intro @hxl (And.intro @n3 (And.intro @n4 (And.intro @n5 (And.intro @hll (And.intro @tkA @tmz))))))); refine gG ?_; exact gTz [4])
theorem con_clip2 {e : Env} {f : FuncId} {a : D} {rows : List (List C)} {r : List D} (h : Con e f [a, .one (.sl rows)] r) : Con e f [a, .clip rows] r :=
  ⟨h.1, fun w S vs h1 h2 h3 h4 => h.2 w S vs h1 h2 h3 (by
    match vs, h4 with
    | [x, y], h4 => exact ⟨h4.1, h4.2.1.1, trivial⟩)⟩
theorem okTm_var {op so : Int} {nm : ByteArray} {args : List Tm} (h : okTm (.mk op nm so args)) : okTm (.mk (-1) nm so []) := by
  simp only [okTm, okTms, and_true] at h ⊢
  exact ⟨by unfold I64; omega, h.2.1, h.2.2.1⟩
def colT (l : List Tm) (r : List Tm) : List Tm := l.foldl (fun r t => insTm t r) r
theorem colT_nil0 {ts : List Tm} : colT (varsTms []) ts = ts := by simp [colT, varsTms]
theorem colT_app (a b r : List Tm) : colT (a ++ b) r = colT b (colT a r) := by unfold colT; rw [List.foldl_append]
theorem insTm_len (t : Tm) : ∀ l : List Tm, (insTm t l).length ≤ l.length + 1
  | [] => by simp [insTm]
  | x :: xs => by
    have := insTm_len t xs
    simp only [insTm]
    split
    · simp only [List.length_cons]; omega
    · split <;> simp only [List.length_cons] <;> omega
theorem colT_len : ∀ (l r : List Tm), (colT l r).length ≤ r.length + l.length
  | [], r => by simp [colT]
  | x :: xs, r => by
    have h1 := colT_len xs (insTm x r)
    have h2 := insTm_len x r
    simp only [colT, List.foldl_cons, List.length_cons] at h1 ⊢
    omega
theorem insTm_ok {t : Tm} (ht : okTm t) : ∀ {l : List Tm}, okTms l → okTms (insTm t l)
  | [], _ => by simp only [insTm, okTms]; exact ⟨ht, trivial⟩
  | x :: xs, h => by
    simp only [okTms] at h
    simp only [insTm]
    split
    · simp only [okTms]; exact ⟨h.1, insTm_ok ht h.2⟩
    · split
      · simp only [okTms]; exact h
      · simp only [okTms]; exact ⟨ht, h⟩
theorem colT_ok : ∀ {l r : List Tm}, okTms l → okTms r → okTms (colT l r)
  | [], r, _, h => h
  | x :: xs, r, h1, h2 => by
    simp only [okTms] at h1
    exact colT_ok (l := xs) (r := insTm x r) h1.2 (insTm_ok h1.1 h2)
theorem okTms_app : ∀ {a b : List Tm}, okTms a → okTms b → okTms (a ++ b)
  | [], _, _, h => h
  | x :: xs, b, h1, h2 => by
    simp only [okTms] at h1
    simp only [List.cons_append, okTms]
    exact ⟨h1.1, okTms_app h1.2 h2⟩
mutual
theorem varsTm_ok : ∀ {t : Tm}, okTm t → okTms (varsTm t)
  | .mk op nm so args, h => by
    simp only [varsTm]
    split
    · simp only [okTms]; exact ⟨okTm_var h, trivial⟩
    · simp only [okTm] at h; exact varsTms_ok h.2.2.2
theorem varsTms_ok : ∀ {l : List Tm}, okTms l → okTms (varsTms l)
  | [], _ => by simp [varsTms, okTms]
  | x :: xs, h => by
    simp only [okTms] at h
    simp only [varsTms]
    exact okTms_app (varsTm_ok h.1) (varsTms_ok h.2)
end
theorem okTms_take : ∀ {l : List Tm} (i : Nat), okTms l → okTms (l.take i)
  | [], _, _ => by simp [okTms]
  | x :: xs, 0, _ => by simp [okTms]
  | x :: xs, i + 1, h => by
    simp only [okTms] at h
    simp only [List.take_succ_cons, okTms]
    exact ⟨h.1, okTms_take i h.2⟩
set_option maxHeartbeats 8000000 in
theorem con_l5Collect_of (t : Tm) (ts : List Tm) (ht : okTm t) (hts : okTms ts) (hb : bulkRow (encTm t) ≤ 1048576) (hl : ts.length + (varsTm t).length ≤ 7000000) (h : ∀ x ∈ t.args, ∀ us : List Tm, okTms us → us.length + (varsTm x).length ≤ 7000000 → Con e0 147 [.agg (encTm x), .one (.sl (encTms us))] [.one (.sl (encTms (colT (varsTm x) us)))]) :
    Con e0 147 [.agg (encTm t), .one (.sl (encTms ts))] [.one (.sl (encTms (colT (varsTm t) ts)))] := by
  obtain ⟨op, nm, so, args⟩ := t
  have hc : encTm (.mk op nm so args) = [.lit (.int .i64 op), .lit (.string nm), .lit (.int .i64 so), .sl (encTms args)] := by simp only [encTm]
  simp only [Tm.args] at h
  simp only [encTm, bulkRow, bulkC, encTms_len] at hb
  refine gI (ts := [.slot 4]) 1048887 Tryz.func147 ?_
  by_cases ho : op = -1
  · have q1 : (op = -1) = True := eq_true ho
    have e1 : varsTm (.mk op nm so args) = [.mk (-1) nm so []] := by simp only [varsTm, if_pos ho]
    rw [e1] at hl ⊢
    simp only [List.length_cons, List.length_nil, Nat.zero_add] at hl
    have hI := con_l5Insert ts (.mk (-1) nm so []) hts (okTm_var ht) (by omega)
    (have F := And.intro @hc (And.intro @q1 @tmz); refine gG ?_; clear F)
    refine gB ?_
    (have F := @hc; refine gC (con_l5Var nm so) ?_; clear F)
    (have F := @hc; refine gC (hI) ?_; clear F)
    (have F := @hc; refine gR ?_; clear F)
    simp only [colT, List.foldl_cons, List.foldl_nil]
    (have F := @tmz; refine gG ?_; exact gTd)
  · have q1 : (op = -1) = False := eq_false ho
    have e1 : varsTm (.mk op nm so args) = varsTms args := by simp only [varsTm, if_neg ho]
    rw [e1] at hl ⊢
    have hk : okTms args := by simp only [okTm] at ht; exact ht.2.2.2
    (have F := And.intro @hc (And.intro @q1 @tmz); refine gG ?_; clear F)
    (have F := And.intro ((fun (r : List Tm) => (colT_nil0 : colT (varsTms []) r = r))) @tmz; refine gL (ι := Nat) [1, 5, 20] [] (fun x => [(5, .d (.one (.lit (.int .i64 (x : Int))))), (1, .d (.one (.sl (encTms (colT (varsTms (args.take x)) ts)))))]) (fun x => []) (fun x => x ≤ args.length) (fun x => args.length - x) (0) (Nat.zero_le _) (fun x hx => ?_); clear F)
    by_cases hlt : x < args.length
    · obtain ⟨b, hg⟩ : ∃ b, args[x]? = some b := ⟨_, List.getElem?_eq_getElem hlt⟩
      have q2 : ((x : Int) < (args.length : Int)) = True := eq_true (by omega)
      have q4 : IntKind.i64.wrap ((x : Int) + 1) = (x : Int) + 1 := IntWalk.i64_in _ (by omega)
      have hvt := varsTms_take hg
      have hle := varsTms_le args (x + 1)
      rw [hvt, List.length_append] at hle
      have hcl := colT_len (varsTms (args.take x)) ts
      have hcon := h b (List.mem_of_getElem? hg) (colT (varsTms (args.take x)) ts) (colT_ok (varsTms_ok (okTms_take x hk)) hts) (by omega)
      rw [← colT_app, ← hvt] at hcon
      (have F := And.intro @q2 (And.intro @hc @tmz); refine gG ?_; clear F)
      refine gB ?_
      (have F := And.intro @q2 (And.intro @hc (And.intro @hg @tmz)); refine gC (hcon) ?_; clear F)
      (have F := @tmz; refine gR ?_; clear F)
      (have F := @q4; refine gG ?_; exact ⟨x + 1, hlt, gw, gw, by omega⟩)
    · obtain rfl : x = args.length := by omega
      have q2 : ((args.length : Int) < (args.length : Int)) = False := eq_false (by omega)
      rw [List.take_length]
      (have F := And.intro @q2 (And.intro @hc @tmz); refine gG ?_; exact gTd)
theorem con_l5Collect_n (n : Nat) : ∀ t : Tm, nodesRow (encTm t) < n → okTm t → bulkRow (encTm t) ≤ 1048576 → ∀ ts : List Tm, okTms ts → ts.length + (varsTm t).length ≤ 7000000 → Con e0 147 [.agg (encTm t), .one (.sl (encTms ts))] [.one (.sl (encTms (colT (varsTm t) ts)))] := by
  induction n with
  | zero => exact fun _ h => by omega
  | succ n ih =>
    intro t hn ht hb ts hts hl
    refine con_l5Collect_of t ts ht hts hb hl fun x hx us hus hl2 => ?_
    obtain ⟨op, nm, so, args⟩ := t
    simp only [encTm, nodesRow, nodesC] at hn
    simp only [encTm, bulkRow, bulkC] at hb
    simp only [okTm] at ht
    simp only [Tm.args] at hx
    obtain ⟨i, hi⟩ := List.getElem?_of_mem hx
    have hi' : (encTms args)[i]? = some (encTm x) := by rw [encTms_get, hi]; rfl
    have h1 := nodes_get hi'
    have h2 := bulk_get hi'
    exact ih x (by omega) (ht.2.2.2.mem hx) (by omega) us hus hl2
theorem con_specVars {t : Tm} (ht : okTm t) (hb : bulkRow (encTm t) ≤ 1048576) : Con e0 84 [.agg (encTm t)] [.one (.sl (encTms (varsOf t)))] := by
  have hv := vars_len t
  have hcon := con_l5Collect_n _ t (Nat.lt_succ_self _) ht hb [] trivial (by simp; omega)
  have hcon := con_clip2 (by rw [encTms_nil'] at hcon; exact hcon)
  rw [show colT (varsTm t) [] = varsOf t from rfl] at hcon
  refine gI (ts := [.slot 2]) 7 Tryz.func84 ?_
  (have F := @tmz; refine gG ?_; clear F)
  refine gB ?_
  (have F := @tmz; refine gC (hcon) ?_; clear F)
  (have F := @tmz; refine gR ?_; clear F)
  (have F := @tmz; refine gG ?_; exact gTd)
end Go.Proofs.YtofklmbljbkdaaaGreat
namespace Go.Proofs.YtofklmbljbkdaaaGreat
open Go.RowKit
theorem okTms_dist {l : List Tm} (h : okTms l) : okTms (distTm l) := colT_ok (r := []) h trivial
theorem okTms_vars {t : Tm} (h : okTm t) : okTms (varsOf t) := okTms_dist (varsTm_ok h)
theorem dist_len (l : List Tm) : (distTm l).length ≤ l.length := by have := colT_len l []; simpa [colT, distTm] using this
theorem varsOf_len (t : Tm) : (varsOf t).length ≤ 1 + bulkRow (encTm t) := Nat.le_trans (dist_len _) (vars_len t)
theorem any_take_succ {vs : List Tm} {p : Tm → Bool} {i : Nat} {a : Tm} (h : vs[i]? = some a) : (vs.take (i + 1)).any p = ((vs.take i).any p || p a) := by
  rw [List.take_add_one, h]; simp
theorem all_take_succ {vs : List Tm} {p : Tm → Bool} {i : Nat} {a : Tm} (h : vs[i]? = some a) : (vs.take (i + 1)).all p = ((vs.take i).all p && p a) := by
  rw [List.take_add_one, h]; simp
theorem all_take_c {α : Type} {vs : List α} {p : α → Bool} {i : Nat} {a : α} (h : vs[i]? = some a) : (vs.take (i + 1)).all p = ((vs.take i).all p && p a) := by
  rw [List.take_add_one, h]; simp
theorem all_false {α : Type} {vs : List α} {p : α → Bool} {a : α} (h : a ∈ vs) (hp : p a = false) : vs.all p = false := by
  rw [List.all_eq_false]
  exact ⟨a, h, by simp [hp]⟩
end Go.Proofs.YtofklmbljbkdaaaGreat
